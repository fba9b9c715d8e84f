/-
  FnExactWeightForm returns true for every signature, weights and term, and turns nothing: proved without conditions.
-/
import Derived.Test.YtofklmbljbkdaaaGreatBWeightForm0
import Derived.Test.YtofklmbljbkdaaaGreatBWeightForm1
import Derived.Test.YtofklmbljbkdaaaGreatBWeightForm2
import Derived.Test.YtofklmbljbkdaaaGreatBWeightForm3
import Derived.Test.YtofklmbljbkdaaaGreatBWeightForm4
import Derived.Shelf.SlSortCmp.WholeK
import Derived.Shelf.SlSortCmp.NoneTotal
import Derived.Lib.QuietBelow
import Derived.Shelf.SlLaysF0
import Derived.Test.YtofklmbljbkdaaaGreatChecked
set_option linter.unusedSimpArgs false
set_option linter.unusedVariables false
namespace Go.Proofs.YtofklmbljbkdaaaGreat
open Go.RowKit
open Go.Sort (grow HoldsK putRowK flatK SWO PermIn SortedIn Holds mapBlock onCells putRow putCells get_flatK size_flatK)
theorem kept_grow {w w' : World} (h : Kept True (fun _ => False) w.heap.size w w') : ∃ q os, w' = grow (w.drewN q) os := by
  obtain ⟨p, hp⟩ := regrown_of_below (w := w) (w' := w') ⟨h.os, h.tape, h.output, h.size, fun k hk => h.block k hk id⟩
  have hd := h.drawn trivial
  have e : p.d = w'.drawn := by rw [hp]; rfl
  refine ⟨w'.drawn - w.drawn, p.os, ?_⟩
  have e2 : redrawn w p.d = w.drewN (w'.drawn - w.drawn) := by
    unfold redrawn World.drewN
    rw [e, show w.drawn + (w'.drawn - w.drawn) = w'.drawn by omega]
  rw [← e2]
  exact hp
abbrev SRow (w : World) (S : Nat → Prop) (Q : List C → Prop) := {x : List C × List Value // Q x.1 ∧ RepVals w S x.1 x.2}
theorem srows_of {w : World} {S : Nat → Prop} {b k : Nat} {Q : List C → Prop} (hk : ∀ r, Q r → r.length = k) : ∀ (rows : List (List C)) (off : Nat), (∀ r ∈ rows, Q r) → RepRows w S b off rows → ∃ l : List (SRow w S Q), l.map (fun x => x.1.1) = rows ∧ ∀ (i : Nat) x, l[i]? = some x → ∀ j u, x.1.2[j]? = some u → w.cell? ⟨b, off + i * k + j, none⟩ = some u
  | [], off, _, _ => ⟨[], rfl, fun i x h => by simp at h⟩
  | r :: rs, off, hQ, h => by
    simp only [RepRows] at h
    obtain ⟨vs, h1, h2⟩ := h.1.vals
    obtain ⟨l, e, hl⟩ := srows_of hk rs (off + r.length) (fun x hx => hQ x (List.mem_cons_of_mem _ hx)) h.2
    have hr := hQ r List.mem_cons_self
    refine ⟨⟨(r, vs), hr, h1⟩ :: l, by simp [e], fun i x hi j u hj => ?_⟩
    cases i with
    | zero =>
      simp only [List.getElem?_cons_zero, Option.some.injEq] at hi
      subst hi
      have := h2 j u hj
      rwa [Nat.zero_mul, Nat.add_zero]
    | succ i =>
      have := hl i x (by simpa using hi) j u hj
      rw [hk r hr] at this
      rwa [show off + (i + 1) * k + j = off + k + i * k + j by rw [Nat.succ_mul]; omega]
theorem reprows_of {w W : World} {S S2 : Nat → Prop} {b k : Nat} {Q : List C → Prop} (hk : ∀ r, Q r → r.length = k) (hv : ∀ x : SRow w S Q, RepVals W S2 x.1.1 x.1.2) : ∀ (l : List (SRow w S Q)) (off : Nat), (∀ (i : Nat) x, l[i]? = some x → ∀ j u, x.1.2[j]? = some u → W.cell? ⟨b, off + i * k + j, none⟩ = some u) → RepRows W S2 b off (l.map (fun x => x.1.1))
  | [], off, _ => by simp [RepRows]
  | x :: l, off, h => by
    simp only [List.map_cons, RepRows]
    refine ⟨RepRow.of_vals _ _ off (hv x) fun j u hj => ?_, ?_⟩
    · have := h 0 x rfl j u hj
      rwa [Nat.zero_mul, Nat.add_zero] at this
    · rw [hk _ x.2.1]
      refine reprows_of hk hv l (off + k) fun i y hi j u hj => ?_
      have := h (i + 1) y (by simpa using hi) j u hj
      rwa [show off + (i + 1) * k + j = off + k + i * k + j by rw [Nat.succ_mul]; omega] at this
theorem cells_holdsK {α : Type} [Inhabited α] {enc : α → List Value} {k : Nat} {W : World} {b : Nat} {d : Array α} (hk : ∀ x, (enc x).length = k) (h : HoldsK enc k W b 0 d) {i : Nat} {x : α} (hi : d.toList[i]? = some x) {j : Nat} {u : Value} (hj : (enc x)[j]? = some u) : W.cell? ⟨b, 0 + i * k + j, none⟩ = some u := by
  have hil : i < d.size := by have := (List.getElem?_eq_some_iff.1 hi).1; simpa using this
  have hjl : j < k := by have := (List.getElem?_eq_some_iff.1 hj).1; rwa [hk] at this
  have ht : i * k + j < d.size * k := by
    have := Nat.mul_le_mul_right k (show i + 1 ≤ d.size from hil)
    rw [Nat.succ_mul] at this
    omega
  have h1 := (h (i * k + j) (by rw [size_flatK]; exact ht)).1
  rw [get_flatK _ _ _ _ ht, show (i * k + j) / k = i by rw [Nat.add_comm, Nat.add_mul_div_right _ _ (by omega), Nat.div_eq_of_lt hjl, Nat.zero_add], show (i * k + j) % k = j by rw [Nat.add_comm, Nat.add_mul_mod_self_right, Nat.mod_eq_of_lt hjl]] at h1
  have e1 : d[i]! = x := by
    rw [getElem!_pos d i hil]
    have := (List.getElem?_eq_some_iff.1 hi).2
    simpa using this
  have e2 : (enc x)[j]! = u := by
    rw [getElem!_pos (enc x) j (by rw [hk]; exact hjl)]
    exact (List.getElem?_eq_some_iff.1 hj).2
  rw [e1, e2, ← Nat.add_assoc] at h1
  exact h1
theorem holdsK_of {α : Type} [Inhabited α] {enc : α → List Value} {k : Nat} {w : World} {b : Nat} {l : List α} (hk : ∀ x, (enc x).length = k) (hf : ∀ o, w.frozen? ⟨b, o, none⟩ = false) (h : ∀ (i : Nat) x, l[i]? = some x → ∀ j u, (enc x)[j]? = some u → w.cell? ⟨b, 0 + i * k + j, none⟩ = some u) : HoldsK enc k w b 0 l.toArray := by
  intro t ht
  refine ⟨?_, hf _⟩
  rw [size_flatK] at ht
  have ht' : t < l.length * k := by simpa using ht
  have k0 : 0 < k := by rcases Nat.eq_zero_or_pos k with e | e; · subst e; simp at ht'
                        · exact e
  have hi : t / k < l.length := Nat.div_lt_of_lt_mul (by rw [Nat.mul_comm]; exact ht')
  have hj : t % k < k := Nat.mod_lt _ k0
  rw [get_flatK _ _ _ _ ht]
  have e1 : l.toArray[t / k]! = l[t / k] := by rw [getElem!_pos _ _ (by simpa using hi)]; rfl
  rw [e1, getElem!_pos _ _ (by rw [hk]; exact hj)]
  have := h (t / k) l[t / k] (List.getElem?_eq_getElem hi) (t % k) _ (List.getElem?_eq_getElem (by rw [hk]; exact hj))
  rwa [show 0 + t / k * k + t % k = 0 + t by have := Nat.div_add_mod' t k; omega] at this
theorem RepVals.one {w : World} {S : Nat → Prop} : ∀ {cs : List C} {us : List Value}, cs.all okCell = true → RepVals w S cs us → ∀ v ∈ us, v.oneCell' = true
  | [], [], _, _, v, h => by simp at h
  | c :: cs, u :: us, hc, h, v, hv => by
    simp only [List.all_cons, Bool.and_eq_true] at hc
    simp only [RepVals] at h
    rcases List.mem_cons.1 hv with rfl | hv
    · exact okCell_one hc.1 h.1
    · exact RepVals.one hc.2 h.2 v hv
  | [], _ :: _, _, h, _, _ => by simp [RepVals] at h
  | _ :: _, [], _, h, _, _ => by simp [RepVals] at h
theorem sw_block {α : Type} [Inhabited α] {enc : α → List Value} {k : Nat} {w : World} {b n : Nat} {d : Array α} {os : Array Obj} {cur : Array Value} {ty : Nat} (hh : w.heap[b]? = some (.cells cur ty (0, 0))) : (sortWorldK enc k w b 0 n d os).heap[b]? = some (.cells (putCells id 0 (flatK enc k d) cur) ty (0, 0)) := by
  have hb : b < w.heap.size := (Array.getElem?_eq_some_iff.1 hh).1
  show ((w.heap.modify b (onCells (putCells id 0 (flatK enc k d)))) ++ os)[b]? = _
  rw [Array.getElem?_append_left (by simpa using hb), Array.getElem?_modify, if_pos rfl, hh]
  rfl
theorem sw_other {α : Type} [Inhabited α] {enc : α → List Value} {k : Nat} {w : World} {b n j : Nat} {d : Array α} {os : Array Obj} (hj : j < w.heap.size) (hne : j ≠ b) : (sortWorldK enc k w b 0 n d os).heap[j]? = w.heap[j]? := by
  show ((w.heap.modify b (onCells (putCells id 0 (flatK enc k d)))) ++ os)[j]? = _
  rw [Array.getElem?_append_left (by simpa using hj), Array.getElem?_modify, if_neg (fun e => hne e.symm)]
theorem sw_size {α : Type} [Inhabited α] {enc : α → List Value} {k : Nat} {w : World} {b n : Nat} {d : Array α} {os : Array Obj} : w.heap.size ≤ (sortWorldK enc k w b 0 n d os).heap.size := by
  show _ ≤ ((w.heap.modify b (onCells (putCells id 0 (flatK enc k d)))) ++ os).size
  simp
set_option maxHeartbeats 2000000 in
theorem conI_sort {P : Program} (hP : e1.P = P) {ρ : Go.Shelf.Ren} (L : SlLaysF0.n6 P ρ) {k ty : Nat} (aE : ∀ w, (isAgg (ρ.t 24)).run P w = .ok true w) (zE : ∀ w, (Go.sizeOf (ρ.t 24)).run P w = .ok k w) (hbody : hasBody P (ρ.f 6) = true) {g : FuncId} (eg : ∀ args w, (callFunc g args).run P w = .ok (.enter g args) w)
    {rows rows' : List (List C)} {cf : List C → List C → Int} (hlen : rows.length < 4611686018427387904) (hg : ∀ a ∈ rows, ∀ b ∈ rows, Con e1 g [.agg a, .agg b] [.one (.lit (.int .i64 (cf a b)))])
    (h1 : ∀ a ∈ rows, ¬ cf a a < 0) (h2 : ∀ a ∈ rows, ∀ b ∈ rows, ∀ c ∈ rows, cf a b < 0 → cf b c < 0 → cf a c < 0) (h3 : ∀ a ∈ rows, ∀ b ∈ rows, ∀ c ∈ rows, ¬ cf a b < 0 → ¬ cf b c < 0 → ¬ cf a c < 0)
    (hu : ∀ l : List (List C), l.Perm rows → (∀ (i j : Nat) a b, i < j → l[i]? = some a → l[j]? = some b → ¬ cf b a < 0) → l = rows') : ConI e1 (ρ.f 6) ty k rows [.one (.fn g [])] rows' [] := by
  refine ⟨by rw [hP]; exact hbody, fun w S v0 vs hS hE hvE hG hbuf hargs => ?_⟩
  rw [hP]
  match vs, hargs with
  | [u], hargs =>
    obtain ⟨⟨us, rfl, hus⟩, _⟩ : (∃ us : List Value, u = .func (.func g) #[] us.toArray ∧ RepVals w S [] us) ∧ True := by simpa [DsRel, DRel, Rep] using hargs
    have hus0 : us = [] := by cases us with
      | nil => rfl
      | cons _ _ => simp [RepVals] at hus
    subst hus0
    obtain ⟨h0, hrl, hcase⟩ := hbuf
    by_cases hne : rows = []
    · subst hne
      have hr' : rows' = [] := (hu [] (List.Perm.refl _) (fun i j a b _ h => by simp at h)).symm
      subst hr'
      have hform : ∃ p cap, v0 = .slice p 0 cap := by
        rcases hcase with ⟨_, a, rfl⟩ | ⟨b, cap, cur, rfl, _⟩
        · exact ⟨a, 0, rfl⟩
        · exact ⟨_, cap, rfl⟩
      obtain ⟨p, cap, hv0⟩ := hform
      rw [hv0]
      refine (AnyF.slices_SortFunc_none (P := P) L p cap _ w).mono ?_
      rintro e w' ⟨rfl, rfl⟩
      rw [← hv0]
      have hs : (fun b => S b ∨ (w'.heap.size ≤ b ∧ b < w'.heap.size)) = S := by
        funext b
        exact propext ⟨fun h => h.elim id (fun h => absurd h.2 (by omega)), .inl⟩
      refine ⟨_, rfl, Kept.refl .., trivial, ?_, [], rfl, trivial⟩
      rw [hs]
      exact ⟨h0, hrl, hcase⟩
    · rcases hcase with ⟨e, _⟩ | ⟨b, cap, cur, rfl, hc, hbz, hSb, hh, hle, hmx, hcs, hrows⟩
      · exact absurd e hne
      have hkr : ∀ r, r ∈ rows → r.length = k := fun r hr => (hrl r hr).1
      obtain ⟨l, hl, hcell⟩ := srows_of (k := k) (Q := fun r => r ∈ rows) hkr rows 0 (fun r h => h) hrows
      have hll : l.length = rows.length := by have := congrArg List.length hl; rwa [List.length_map] at this
      obtain ⟨x0, hx0⟩ : ∃ x, x ∈ l := List.exists_mem_of_ne_nil _ (fun e => hne (List.eq_nil_of_length_eq_zero (by rw [← hll, e]; rfl)))
      letI : Inhabited (SRow w S (fun r => r ∈ rows)) := ⟨x0⟩
      have hk : ∀ x : SRow w S (fun r => r ∈ rows), x.1.2.length = k := fun x => by rw [x.2.2.len]; exact hkr _ x.2.1
      have h1c : ∀ x : SRow w S (fun r => r ∈ rows), ∀ v ∈ x.1.2, v.oneCell' = true := fun x => RepVals.one (hrl _ x.2.1).2 x.2.2
      have hH : HoldsK (fun x : SRow w S (fun r => r ∈ rows) => x.1.2) k w b 0 l.toArray := holdsK_of hk (fun o => frozen_of_row w b o cur ty hh) hcell
      have keepV : ∀ (m : Nat) (os : Array Obj) (dk : Array (SRow w S (fun r => r ∈ rows))) (S2 : Nat → Prop), (∀ b, S b → S2 b) → ∀ x : SRow w S (fun r => r ∈ rows), RepVals (sortWorldK (fun x : SRow w S (fun r => r ∈ rows) => x.1.2) k w b 0 m dk os) S2 x.1.1 x.1.2 := fun m os dk S2 hS2 x =>
        RepVals.keep2 sw_size (fun b' o hb' => cell_of_heap (sw_other (hS b' hb').1 (fun e : b' = b => hSb (by rw [← e]; exact hb'))) o) hS2 x.2.2
      have hcmp : CmpLays P g #[] (fun x : SRow w S (fun r => r ∈ rows) => x.1.2) k (fun x y => cf x.1.1 y.1.1) b 0 l.toArray.size w := by
        intro m os dk hdk x y
        have hc := (hg _ x.2.1 _ y.2.1).2 (sortWorldK (fun x : SRow w S (fun r => r ∈ rows) => x.1.2) k w b 0 m dk os) S [.agg x.1.2.toArray, .agg y.1.2.toArray] (fun b' hb' => ⟨Nat.lt_of_lt_of_le (hS b' hb').1 sw_size, id⟩) (fun b' h => h.elim) trivial
          ⟨⟨_, rfl, keepV m os dk S (fun _ h => h) x⟩, ⟨_, rfl, keepV m os dk S (fun _ h => h) y⟩, trivial⟩
        rw [hP] at hc
        refine hc.mono ?_
        rintro e w' ⟨v, rfl, hK, _, hv⟩
        have hv : v = .int .i64 (cf x.1.1 y.1.1) := by simpa [retA, ARel, DRel, Rep] using hv
        exact ⟨by rw [hv], kept_grow hK⟩
      have hO : SWO (ltOf (fun x y : SRow w S (fun r => r ∈ rows) => cf x.1.1 y.1.1)) := by
        refine ⟨fun x => ?_, fun x y z => ?_, fun x y z => ?_⟩ <;> simp only [ltOf, decide_eq_false_iff_not, decide_eq_true_eq]
        · exact h1 _ x.2.1
        · exact h2 _ x.2.1 _ y.2.1 _ z.2.1
        · exact h3 _ x.2.1 _ y.2.1 _ z.2.1
      have hsort := AnyQ.slices_SortFunc L k aE zE (fun x : SRow w S (fun r => r ∈ rows) => x.1.2) hk h1c (fun x y => cf x.1.1 y.1.1) hO g #[] b 0 cap l.toArray w eg hcmp hH hbz (by simp only [List.size_toArray]; omega)
      have hlz : l.toArray.size = rows.length := by simpa using hll
      rw [hlz] at hsort
      refine hsort.mono ?_
      rintro e w' ⟨rfl, d', n, os, hp, hs, rfl⟩
      obtain ⟨hp1, _, hp3⟩ := hp
      rw [hlz] at hp1
      have hex : ∀ a : Array (SRow w S (fun r => r ∈ rows)), a.size = rows.length → a.extract 0 rows.length = a := fun a ha => by rw [← ha]; simp
      rw [hex d' hp1, hex _ hlz] at hp3
      have hperm : (d'.toList.map (fun x => x.1.1)).Perm rows := by
        have := hp3.map (fun x : SRow w S (fun r => r ∈ rows) => x.1.1)
        rwa [show l.toArray.toList = l from rfl, hl] at this
      have hrows' : d'.toList.map (fun x => x.1.1) = rows' := hu _ hperm fun i j a c hij ha hc => by
        simp only [List.getElem?_map, Option.map_eq_some_iff] at ha hc
        obtain ⟨x, hx, rfl⟩ := ha
        obtain ⟨y, hy, rfl⟩ := hc
        have hjl : j < rows.length := by have := (List.getElem?_eq_some_iff.1 hy).1; simpa [hp1] using this
        have := hs i j (Nat.zero_le _) hij hjl
        have ex : d'[i]! = x := by
          rw [getElem!_pos d' i (by omega)]
          have := (List.getElem?_eq_some_iff.1 hx).2
          simpa using this
        have ey : d'[j]! = y := by
          rw [getElem!_pos d' j (by omega)]
          have := (List.getElem?_eq_some_iff.1 hy).2
          simpa using this
        rw [ex, ey] at this
        simpa [ltOf] using this
      have hlr : rows'.length = rows.length := by rw [← hrows', List.length_map, Array.length_toList, hp1]
      have hW : HoldsK (fun x : SRow w S (fun r => r ∈ rows) => x.1.2) k (sortWorldK (fun x : SRow w S (fun r => r ∈ rows) => x.1.2) k w b 0 n d' os) b 0 d' := SWK.holds (d0 := l.toArray) ⟨n, os, rfl⟩ hbz hH (by rw [hp1, hlz])
      have hvb : vblk (.slice (some ⟨b, 0, none⟩) rows.length cap) = some b := by simp only [vblk]; rw [if_neg (by omega)]
      refine ⟨_, rfl, ⟨rfl, rfl, rfl, fun _ => Nat.le_add_right _ _, sw_size, fun j hj hn => sw_other hj (fun e => hn (.inr (by rw [hvb, e])))⟩, trivial, ⟨h0, fun r hr => ?_, .inr ⟨b, cap, _, by rw [hlr], hc, Nat.lt_of_lt_of_le hbz sw_size, fun hn => ?_, sw_block hh, by omega, hmx, by simp [putCells, hcs], ?_⟩⟩, [], rfl, trivial⟩
      · rw [← hrows'] at hr
        exact hrl r (hperm.mem_iff.1 hr)
      · rcases hn with hn | hn
        · exact hSb hn
        · omega
      · rw [← hrows']
        exact reprows_of (Q := fun r => r ∈ rows) hkr (keepV n os d' _ (fun b hb => .inl hb)) d'.toList 0 fun i x hi j u hj => cells_holdsK hk hW hi hj
end Go.Proofs.YtofklmbljbkdaaaGreat
namespace Go.Proofs.YtofklmbljbkdaaaGreat
open Go.Shelf
def sortT_ren : Ren := ⟨fun | 6 => 192 | 15 => 227 | 14 => 226 | 28 => 252 | 29 => 253 | 20 => 244 | 21 => 245 | 22 => 246 | 23 => 247 | 24 => 248 | 25 => 249 | 26 => 250 | 27 => 251 | 46 => 259 | 47 => 260 | 48 => 261 | 49 => 262 | 50 => 263 | 57 => 267 | n => n, fun | 22 => 71 | 24 => 73 | 25 => 238 | 3 => 3 | 39 => 267 | 0 => 0 | 53 => 294 | 55 => 296 | 4 => 4 | 46 => 287 | 45 => 286 | 50 => 291 | 5 => 5 | 9 => 9 | 66 => 298 | 70 => 302 | 76 => 307 | 77 => 308 | n => n, fun | n => n⟩
theorem sortT : Go.Proofs.SlLaysF0.n6 Tryz.prog sortT_ren := {
  mixed := by kernel_rfl,
  f6 := ⟨Tryz.f192.name, by decide, Tryz.func192.trans (congrArg some (by kernel_rfl))⟩,
  f14 := ⟨Tryz.f226.name, by decide, Tryz.func226.trans (congrArg some (by kernel_rfl))⟩,
  f15 := Tryz.func227.trans (congrArg some (by kernel_rfl)),
  f20 := ⟨Tryz.f244.name, by decide, Tryz.func244.trans (congrArg some (by kernel_rfl))⟩,
  f21 := ⟨Tryz.f245.name, by decide, Tryz.func245.trans (congrArg some (by kernel_rfl))⟩,
  f22 := ⟨Tryz.f246.name, by decide, Tryz.func246.trans (congrArg some (by kernel_rfl))⟩,
  f23 := ⟨Tryz.f247.name, by decide, Tryz.func247.trans (congrArg some (by kernel_rfl))⟩,
  f24 := ⟨Tryz.f248.name, by decide, Tryz.func248.trans (congrArg some (by kernel_rfl))⟩,
  f25 := ⟨Tryz.f249.name, by decide, Tryz.func249.trans (congrArg some (by kernel_rfl))⟩,
  f26 := ⟨Tryz.f250.name, by decide, Tryz.func250.trans (congrArg some (by kernel_rfl))⟩,
  f27 := ⟨Tryz.f251.name, by decide, Tryz.func251.trans (congrArg some (by kernel_rfl))⟩,
  f28 := Tryz.func252.trans (congrArg some (by kernel_rfl)),
  f29 := Tryz.func253.trans (congrArg some (by kernel_rfl)),
  f46 := ⟨Tryz.f259.name, by decide, Tryz.func259.trans (congrArg some (by kernel_rfl))⟩,
  f47 := Tryz.func260.trans (congrArg some (by kernel_rfl)),
  f48 := Tryz.func261.trans (congrArg some (by kernel_rfl)),
  f49 := ⟨Tryz.f262.name, by decide, Tryz.func262.trans (congrArg some (by kernel_rfl))⟩,
  f50 := ⟨Tryz.f263.name, by decide, Tryz.func263.trans (congrArg some (by kernel_rfl))⟩,
  f57 := ⟨Tryz.f267.name, by decide, Tryz.func267.trans (congrArg some (by kernel_rfl))⟩,
  t0 := Tryz.underlying0,
  a0 := Tryz.isAgg0,
  z0 := Tryz.sizeOf0,
  v0 := Tryz.zeroValue0,
  t3 := Tryz.underlying3,
  a3 := Tryz.isAgg3,
  z3 := Tryz.sizeOf3,
  v3 := Tryz.zeroValue3,
  t4 := Tryz.underlying4,
  a4 := Tryz.isAgg4,
  z4 := Tryz.sizeOf4,
  v4 := Tryz.zeroValue4,
  t5 := Tryz.underlying5,
  a5 := Tryz.isAgg5,
  z5 := Tryz.sizeOf5,
  v5 := Tryz.zeroValue5,
  t9 := Tryz.underlying9,
  a9 := Tryz.isAgg9,
  z9 := Tryz.sizeOf9,
  v9 := Tryz.zeroValue9,
  t22 := Tryz.underlying71,
  a22 := Tryz.isAgg71,
  z22 := Tryz.sizeOf71,
  v22 := Tryz.zeroValue71,
  t25 := Tryz.underlying238,
  a25 := Tryz.isAgg238,
  z25 := Tryz.sizeOf238,
  v25 := Tryz.zeroValue238,
  t39 := Tryz.underlying267,
  a39 := Tryz.isAgg267,
  z39 := Tryz.sizeOf267,
  v39 := Tryz.zeroValue267,
  t45 := Tryz.underlying286,
  a45 := Tryz.isAgg286,
  z45 := Tryz.sizeOf286,
  v45 := Tryz.zeroValue286,
  t46 := Tryz.underlying287,
  a46 := Tryz.isAgg287,
  z46 := Tryz.sizeOf287,
  v46 := Tryz.zeroValue287,
  t50 := Tryz.underlying291,
  a50 := Tryz.isAgg291,
  z50 := Tryz.sizeOf291,
  v50 := Tryz.zeroValue291,
  t53 := Tryz.underlying294,
  a53 := Tryz.isAgg294,
  z53 := Tryz.sizeOf294,
  v53 := Tryz.zeroValue294,
  t55 := Tryz.underlying296,
  a55 := Tryz.isAgg296,
  z55 := Tryz.sizeOf296,
  v55 := Tryz.zeroValue296,
  t66 := Tryz.underlying298,
  a66 := Tryz.isAgg298,
  z66 := Tryz.sizeOf298,
  v66 := Tryz.zeroValue298,
  t70 := Tryz.underlying302,
  a70 := Tryz.isAgg302,
  z70 := Tryz.sizeOf302,
  v70 := Tryz.zeroValue302,
  t76 := Tryz.underlying307,
  a76 := Tryz.isAgg307,
  z76 := Tryz.sizeOf307,
  v76 := Tryz.zeroValue307,
  t77 := Tryz.underlying308,
  a77 := Tryz.isAgg308,
  z77 := Tryz.sizeOf308,
  v77 := Tryz.zeroValue308 }
end Go.Proofs.YtofklmbljbkdaaaGreat
namespace Go.Proofs.YtofklmbljbkdaaaGreat
open Go.RowKit
def zTm0 : Tm := .mk 0 ByteArray.empty 0 []
def ddT : Option Tm → List Tm → List Tm
  | _, [] => []
  | none, x :: xs => x :: ddT (some x) xs
  | some y, x :: xs => if cmpTm x y = 0 then ddT (some x) xs else x :: ddT (some x) xs
def lastO : Option Tm → List Tm → Option Tm
  | p, [] => p
  | _, x :: xs => lastO (some x) xs
theorem ddT_snoc : ∀ (p : Option Tm) (l : List Tm) (x : Tm), ddT p (l ++ [x]) = match lastO p l with
    | none => ddT p l ++ [x]
    | some y => if cmpTm x y = 0 then ddT p l else ddT p l ++ [x]
  | none, [], x => rfl
  | some y, [], x => by simp only [List.nil_append, ddT, lastO]
  | none, a :: l, x => by
    simp only [List.cons_append, ddT, lastO, ddT_snoc (some a) l x]
    split
    · rfl
    · split <;> rfl
  | some y, a :: l, x => by
    simp only [List.cons_append, ddT, lastO, ddT_snoc (some a) l x]
    split
    · rfl
    · split
      · rfl
      · split <;> rfl
theorem lastO_take : ∀ (p : Option Tm) (l : List Tm) (i : Nat) (y : Tm), l[i]? = some y → lastO p (l.take (i + 1)) = some y
  | p, [], i, y, h => by simp at h
  | p, x :: xs, 0, y, h => by simp at h; subst h; simp [lastO]
  | p, x :: xs, i + 1, y, h => by
    simp only [List.take_succ_cons, lastO]
    exact lastO_take (some x) xs i y (by simpa using h)
theorem ddT_step {l : List Tm} {i : Nat} {x y : Tm} (hx : l[i + 1]? = some x) (hy : l[i]? = some y) : ddT none (l.take (i + 2)) = if cmpTm x y = 0 then ddT none (l.take (i + 1)) else ddT none (l.take (i + 1)) ++ [x] := by
  have e : l.take (i + 2) = l.take (i + 1) ++ [x] := by simp [List.take_add_one, hx]
  rw [e, ddT_snoc, lastO_take none l i y hy]
theorem ddT_one {l : List Tm} {x : Tm} (hx : l[0]? = some x) : ddT none (l.take 1) = [x] := by
  cases l with
  | nil => simp at hx
  | cons a l => simp at hx; subst hx; simp [ddT]
def Up (l : List Tm) : Prop := l.Pairwise fun a b => cmpTm a b ≤ 0
theorem ddT_up : ∀ (l : List Tm) (y : Tm), Up l → (∀ x ∈ l, cmpTm y x ≤ 0) → Asc (ddT (some y) l) ∧ (∀ z ∈ ddT (some y) l, cmpTm y z < 0) ∧ ∀ z, (z = y ∨ z ∈ ddT (some y) l) ↔ (z = y ∨ z ∈ l)
  | [], y, _, _ => ⟨List.Pairwise.nil, fun z h => by simp [ddT] at h, fun z => by simp [ddT]⟩
  | x :: xs, y, hu, hy => by
    have h1 := List.pairwise_cons.1 hu
    have hyx := hy x List.mem_cons_self
    obtain ⟨k1, k2, k3⟩ := ddT_up xs x h1.2 h1.1
    simp only [ddT]
    by_cases h0 : cmpTm x y = 0
    · rw [if_pos h0]
      have e := cmpTm_zero h0
      subst e
      exact ⟨k1, k2, fun z => by rw [k3 z]; simp⟩
    · rw [if_neg h0]
      have hlt : cmpTm y x < 0 := by rw [cmpTm_neg x y] at hyx ⊢; omega
      refine ⟨List.pairwise_cons.2 ⟨k2, k1⟩, fun z hz => ?_, fun z => ?_⟩
      · rcases List.mem_cons.1 hz with rfl | hz
        · exact hlt
        · exact cmpTm_lt_trans hlt (k2 z hz)
      · have := k3 z
        simp only [List.mem_cons]
        rw [this]
theorem ddT_dist {l : List Tm} (h : Up l) : ddT none l = distTm l := by
  cases l with
  | nil => rfl
  | cons x xs =>
    have h1 := List.pairwise_cons.1 h
    obtain ⟨k1, k2, k3⟩ := ddT_up xs x h1.2 h1.1
    simp only [ddT]
    refine (distTm_eq (List.pairwise_cons.2 ⟨k2, k1⟩) fun t => ?_).symm
    simp only [List.mem_cons]
    exact k3 t
def sortTm (l : List Tm) : List Tm := l.mergeSort fun a b => decide (cmpTm a b ≤ 0)
theorem sortTm_perm (l : List Tm) : (sortTm l).Perm l := List.mergeSort_perm l _
theorem sortTm_up (l : List Tm) : Up (sortTm l) := by
  have h := List.pairwise_mergeSort (le := fun a b => decide (cmpTm a b ≤ 0)) (fun a b c h1 h2 => by simp only [decide_eq_true_eq] at *; exact cmpTm_le_trans h1 h2) (fun a b => by
    simp only [Bool.or_eq_true, decide_eq_true_eq]
    have := cmpTm_neg a b
    omega) l
  exact h.imp fun h => by simpa using h
theorem up_perm : ∀ {l l' : List Tm}, Up l → Up l' → l.Perm l' → l = l'
  | [], l', _, _, h => by have := h.length_eq; cases l' with | nil => rfl | cons _ _ => simp at this
  | x :: xs, [], _, _, h => by have := h.length_eq; simp at this
  | x :: xs, y :: ys, h1, h2, h => by
    have p1 := List.pairwise_cons.1 h1
    have p2 := List.pairwise_cons.1 h2
    have hx : x ∈ y :: ys := h.mem_iff.1 List.mem_cons_self
    have hy : y ∈ x :: xs := h.mem_iff.2 List.mem_cons_self
    have e : x = y := by
      rcases List.mem_cons.1 hx with e | hx
      · exact e
      · rcases List.mem_cons.1 hy with e | hy
        · exact e.symm
        · have a1 := p2.1 x hx
          have a2 := p1.1 y hy
          refine cmpTm_zero ?_
          rw [cmpTm_neg x y] at a1
          omega
    subst e
    rw [up_perm p1.2 p2.2 h.cons_inv]
theorem distTm_perm {l l' : List Tm} (h : l.Perm l') : distTm l = distTm l' := (distTm_asc l).ext (distTm_asc l') fun t => by rw [mem_distTm, mem_distTm, h.mem_iff]
mutual
theorem encTm_inj : ∀ {a b : Tm}, encTm a = encTm b → a = b
  | .mk o n s a, .mk o' n' s' a', h => by
    simp only [encTm, List.cons.injEq, C.lit.injEq, C.sl.injEq, Value.int.injEq, Value.string.injEq, true_and, and_true] at h
    obtain ⟨rfl, rfl, rfl, h⟩ := h
    rw [encTms_inj h]
theorem encTms_inj : ∀ {a b : List Tm}, encTms a = encTms b → a = b
  | [], [], _ => rfl
  | [], _ :: _, h => by simp [encTms] at h
  | _ :: _, [], h => by simp [encTms] at h
  | x :: xs, y :: ys, h => by
    simp only [encTms, List.cons.injEq] at h
    rw [encTm_inj h.1, encTms_inj h.2]
end
open Classical in
noncomputable def unT (r : List C) : Tm := if h : ∃ t, r = encTm t then h.choose else zTm0
theorem unT_enc (t : Tm) : unT (encTm t) = t := by
  have h : ∃ t', encTm t = encTm t' := ⟨t, rfl⟩
  unfold unT
  rw [dif_pos h]
  exact (encTm_inj h.choose_spec).symm
theorem map_unT (l : List Tm) : (encTms l).map unT = l := by
  rw [encTms_eq, List.map_map]
  conv => rhs; rw [← List.map_id l]
  exact List.map_congr_left fun t _ => unT_enc t
theorem conI_10 {f : FuncId} {ty sz : Nat} {rows rows' : List (List C)} {args r : List D} (h : ConI e1 f ty sz rows args rows' r) : ConI e0 f ty sz rows args rows' r :=
  ⟨h.1, fun w S v0 vs h1 h2 h3 h4 h5 h6 => (h.2 w S v0 vs h1 h2 h3 h4 h5 h6).mono fun en w' ⟨v, k1, k2, k3⟩ => ⟨v, k1, ⟨k2.os, k2.tape, k2.output, fun d => d.elim, k2.size, k2.block⟩, k3⟩⟩
theorem conI_sortT (ts : List Tm) (hl : ts.length ≤ 4000000) : ConI e0 192 73 4 (encTms ts) [.one (.fn 193 [])] (encTms (sortTm ts)) [] := by
  have hrow : ∀ a ∈ encTms ts, a = encTm (unT a) := fun a ha => by
    rw [encTms_eq] at ha
    obtain ⟨t, _, rfl⟩ := List.mem_map.1 ha
    rw [unT_enc]
  exact conI_10 (conI_sort (P := Tryz.prog) rfl sortT (k := 4) (ty := 73) Tryz.isAgg73 Tryz.sizeOf73 (by kernel_rfl) (g := 193) (enters_of Tryz.func193 (by kernel_rfl) rfl) (rows := encTms ts) (rows' := encTms (sortTm ts)) (cf := fun a b => cmpTm (unT a) (unT b)) (by rw [encTms_len]; omega)
    (fun a ha b hb => by
      have h := con_cmp1 (unT a) (unT b)
      rwa [← hrow a ha, ← hrow b hb] at h)
    (fun a _ => by rw [cmpTm_self]; omega) (fun a _ b _ c _ h1 h2 => cmpTm_lt_trans h1 h2) (fun a _ b _ c _ h1 h2 => by
      rw [cmpTm_neg (unT b) (unT a)] at h1
      rw [cmpTm_neg (unT c) (unT b)] at h2
      rw [cmpTm_neg (unT c) (unT a)]
      have := cmpTm_le_trans (a := unT c) (b := unT b) (c := unT a) (by omega) (by omega)
      omega)
    (fun l hp hs => by
      have hmem : ∀ a ∈ l, a = encTm (unT a) := fun a ha => hrow a (hp.mem_iff.1 ha)
      have hp2 : (l.map unT).Perm ts := by have := hp.map unT; rwa [map_unT] at this
      have hup : Up (l.map unT) := by
        refine List.pairwise_iff_getElem.2 fun i j hi hj hij => ?_
        simp only [List.getElem_map]
        simp only [List.length_map] at hi hj
        have := hs i j l[i] l[j] hij (List.getElem?_eq_getElem hi) (List.getElem?_eq_getElem hj)
        rw [cmpTm_neg (unT l[j]) (unT l[i])]
        omega
      have e := up_perm (sortTm_up ts) hup ((sortTm_perm ts).trans hp2.symm)
      rw [e, encTms_eq, List.map_map]
      conv => lhs; rw [← List.map_id l]
      exact List.map_congr_left fun a ha => hmem a ha))
theorem con_implSame (a b : Tm) : Con e0 153 [.agg (encTm a), .agg (encTm b)] [.one (.lit (.bool (decide (cmpTm a b = 0))))] := by
  refine gI (ts := [.slot 4]) 31 Tryz.func153 ?_
  (have F := @tmz; refine gG ?_; clear F)
  refine gB ?_
  (have F := @tmz; refine gC (con_1 (con_cmp1 a b)) ?_; clear F)
  (have F := @tmz; refine gR ?_; clear F)
  (have F := @tmz; refine gG ?_; exact gTd)
end Go.Proofs.YtofklmbljbkdaaaGreat
namespace Go.Proofs.YtofklmbljbkdaaaGreat
open Go.RowKit
theorem var_self {g : Sgn} {t : Tm} (h : VarOk g t) : t ∈ varsTm t := by
  obtain ⟨op, nm, so, args⟩ := t
  have e1 := h.1
  have e2 := h.2.2.2.2
  simp only [Tm.op, Tm.args] at e1 e2
  subst e1 e2
  simp [varsTm]
theorem vars_arg {t b : Tm} (hop : 0 ≤ t.op) (hb : b ∈ t.args) : ∀ v ∈ varsTm b, v ∈ varsTm t := by
  obtain ⟨op, nm, so, args⟩ := t
  simp only [Tm.op, Tm.args] at hop hb
  have h : ¬ op = -1 := by omega
  intro v hv
  simp only [varsTm, if_neg h]
  clear hop h
  induction args with
  | nil => cases hb
  | cons x xs ih =>
    simp only [varsTms, List.mem_append]
    rcases List.mem_cons.1 hb with rfl | hb
    · exact .inl hv
    · exact .inr (ih hb)
set_option maxHeartbeats 4000000 in
set_option maxRecDepth 100000 in
theorem con_indexAt {ts : List Tm} {f : FuncId} {caps : List C} {P : Tm → Bool} (hl : ts.length ≤ big) (h : ∀ a ∈ ts, Con e0 f (.agg (encTm a) :: caps.map .one) [.one (.lit (.bool (P a)))]) :
    ∃ r : Int, ((∃ (k : Nat) (a : Tm), r = k ∧ ts[k]? = some a ∧ P a = true ∧ ∀ (j : Nat) a, j < k → ts[j]? = some a → P a = false) ∨ (r = -1 ∧ ts.any P = false)) ∧ Con e0 151 [.one (.sl (encTms ts)), .one (.fn f caps)] [.one (.lit (.int .i64 r))] := by
  unfold big at hl
  by_cases hA : ts.any P = true
  · obtain ⟨k, hk, hbef⟩ : ∃ k : Nat, (∃ a, ts[k]? = some a ∧ P a = true) ∧ ∀ (j : Nat) a, j < k → ts[j]? = some a → P a = false := by
      have hex : ∃ k : Nat, ∃ a, ts[k]? = some a ∧ P a = true := by
        obtain ⟨a, ha, hp⟩ := List.any_eq_true.1 hA
        obtain ⟨k, hk⟩ := List.getElem?_of_mem ha
        exact ⟨k, a, hk, hp⟩
      obtain ⟨k, hk, hmin⟩ := least hex
      refine ⟨k, hk, fun j a hj ha => ?_⟩
      cases hp : P a with
      | false => rfl
      | true => exact absurd ⟨a, ha, hp⟩ (hmin j hj)
    obtain ⟨a0, ha0, hp0⟩ := hk
    have hkl := (List.getElem?_eq_some_iff.1 ha0).1
    refine ⟨(k : Int), .inl ⟨k, a0, rfl, ha0, hp0, hbef⟩, ?_⟩
    refine gI 66483 Tryz.func151 ?_
    (have F := @tmz; refine gG ?_; clear F)
    (have F := @e0P; refine gL (ι := Nat) [4, 5, 8, 9, 16] [] (fun i => [(8, A.d (.one (.lit (.int .i64 i))))]) (fun i => []) (fun i => i ≤ k) (fun i => k + 1 - i) (0) (by omega) (fun i hi => ?_); clear F)
    have hl' : (i : Int) < (ts.length : Int) := by omega
    obtain ⟨a, ha⟩ : ∃ a, ts[i]? = some a := ⟨_, List.getElem?_eq_getElem (by omega)⟩
    have hw1 := wrap1 (k := i) (by omega)
    (have F := And.intro @tmz @hl'; refine gG ?_; clear F)
    refine gB ?_
    (have F := And.intro @tmz @ha; refine gC (h a (List.mem_of_getElem? ha)) ?_; clear F)
    by_cases hik : i = k
    · subst hik
      rw [ha] at ha0
      injection ha0 with ha0
      subst ha0
      (have F := And.intro @tmz @hp0; refine gR ?_; clear F)
      (have F := @tmz; refine gG ?_; exact gT)
    · have hpf := hbef i a (by omega) ha
      (have F := And.intro @tmz @hpf; refine gR ?_; clear F)
      (have F := And.intro @hw1 @tmz; refine gG ?_; exact ⟨i + 1, by omega, gw, gw, by omega⟩)
  · have hbef : ∀ (j : Nat) a, ts[j]? = some a → P a = false := fun j a ha => by
      cases hp : P a with
      | false => rfl
      | true => exact absurd (List.any_eq_true.2 ⟨a, List.mem_of_getElem? ha, hp⟩) hA
    refine ⟨-1, .inr ⟨rfl, by simpa using hA⟩, ?_⟩
    refine gI 66483 Tryz.func151 ?_
    (have F := @tmz; refine gG ?_; clear F)
    (have F := @e0P; refine gL (ι := Nat) [4, 5, 8, 9, 16] [] (fun i => [(8, A.d (.one (.lit (.int .i64 i))))]) (fun i => []) (fun i => i ≤ ts.length) (fun i => ts.length - i) (0) (by omega) (fun i hi => ?_); clear F)
    by_cases hi' : i < ts.length
    rotate_left
    · have hl' : ¬ ((i : Int) < (ts.length : Int)) := by omega
      (have F := And.intro @tmz @hl'; refine gG ?_; exact gT)
    have hl' : (i : Int) < (ts.length : Int) := by omega
    obtain ⟨a, ha⟩ : ∃ a, ts[i]? = some a := ⟨_, List.getElem?_eq_getElem (by omega)⟩
    have hw1 := wrap1 (k := i) (by omega)
    have hpf := hbef i a ha
    (have F := And.intro @tmz @hl'; refine gG ?_; clear F)
    refine gB ?_
    (have F := And.intro @tmz @ha; refine gC (h a (List.mem_of_getElem? ha)) ?_; clear F)
    (have F := And.intro @tmz @hpf; refine gR ?_; clear F)
    (have F := And.intro @hw1 @tmz; refine gG ?_; exact ⟨i + 1, by omega, gw, gw, by omega⟩)
end Go.Proofs.YtofklmbljbkdaaaGreat
namespace Go.Proofs.YtofklmbljbkdaaaGreat
open Go.RowKit
theorem con_weighC (t v : Tm) : Con e0 152 [.agg (encTm v), .one (.ptr (encTm t))] [.one (.lit (.bool (decide (cmpTm v t = 0))))] := by
  refine gI 15 Tryz.func152 ?_
  (have F := @tmz; refine gG ?_; clear F)
  refine gB ?_
  (have F := @tmz; refine gC (con_implSame v t) ?_; clear F)
  (have F := @tmz; refine gR ?_; clear F)
  (have F := @tmz; refine gG ?_; exact gT)
set_option maxHeartbeats 16000000 in
set_option maxRecDepth 100000 in
theorem con_implW_all {g : Sgn} {ws : List Wt} {vs : List Tm} (hI : InOk g ws) (hvs : vs.length ≤ 1048577) (hnd : vs.Nodup) : ∀ (n : Nat) (t : Tm), sizeTm t < n → FormOk g t → (∀ v ∈ varsTm t, v ∈ vs) →
    Con e0 89 [.agg (encSgn g), .one (.sl (ws.map encWt)), .agg (encTm t), .one (.sl (encTms vs))] (wOut g ws vs t) := by
  intro n
  induction n with
  | zero => exact fun _ h => by omega
  | succ n ih =>
    intro t hn hf hin
    have hrw := rb_wt ws
    rw [encSgn] at ih ⊢
    have hz := fun z h => numR_0 (vs := vs) z h
    have hmx : ((vs.length : Int) ≤ (maxApp : Int)) = True := eq_true (by unfold maxApp; omega)
    rcases op_cases hf.node with ⟨hvar, hop⟩ | ⟨hop, o, d, hap⟩
    · have q1 : (t.op < 0) = True := eq_true hop
      rw [wOut_ok (okW_var hop), wN_var hop]
      have hmem := hin t (var_self hvar)
      obtain ⟨r, hr, c⟩ := con_indexAt (ts := vs) (f := 152) (caps := [.ptr (encTm t)]) (P := fun v => decide (cmpTm v t = 0)) (by unfold big; omega) fun v _ => con_weighC t v
      rcases hr with ⟨k, v, rfl, hk, hp, hbef⟩ | ⟨rfl, hno⟩
      rotate_left
      · have := List.any_eq_false.1 hno t hmem
        simp [cmpTm_self] at this
      have hkl := (List.getElem?_eq_some_iff.1 hk).1
      have hst := numR_one hnd hk (by simpa using hp)
      have hfn : numR (fun v => wF g ws v t) vs = numR (fun v => if cmpTm v t = 0 then 1 else 0) vs := numR_congr fun v _ => wF_var hop
      rw [hfn]
      have hln := numR_len (f := fun _ => 0) (vs := vs)
      have hrn := numR_rows (f := fun _ => 0) (vs := vs)
      have hgn := numR_get (f := fun _ => 0) hk
      refine gI 11921513725999993503324533626165526367 Tryz.func89 ?_
      (have F := And.intro @tmz (And.intro @hmx (And.intro @Int.toNat_natCast @q1)); refine gG ?_; clear F)
      rw [hz _ rfl]
      refine gB ?_
      (have F := @tmz; refine gC (c) ?_; clear F)
      (have F := And.intro @tmz (And.intro @hln (And.intro @hrn (And.intro @hkl (And.intro @hgn @hst)))); refine gR ?_; clear F)
      (have F := @tmz; refine gG ?_; clear F)
      (have F := @tmz; refine gG ?_; exact gTz [9])
    · have q1 : (t.op < 0) = False := eq_false (by omega)
      have hat := hap.at'
      obtain ⟨x, hx⟩ : ∃ x, ws[t.op.toNat]? = some x := ⟨_, List.getElem?_eq_getElem (by rw [hI.len]; exact (List.getElem?_eq_some_iff.1 hat).1)⟩
      have hwo := hI.all _ o x hat hx
      have hlo := hwo.lo
      have hhi := hwo.hi
      have has : isAs g t.op = o.assoc := by simp [isAs, hat]
      have hla : t.args.length ≤ 7 := by
        cases hac : o.assoc with
        | true => exact (hap.asc hac).2
        | false =>
          rw [hap.nas hac]
          have := (hI.sgn.decls o (List.mem_of_getElem? hat)).ar d hap.fst
          omega
      have hb0 : pWn g ws t 0 = bsW g ws t.op t.args.length := rfl
      have hF0 : numR (fun _ => 0) vs = numR (fun v => pWf g ws v t 0) vs := numR_congr fun v _ => rfl
      have hs0 := small_0 (vs := vs) hI hap
      refine gI 11921513725999993503324533626165526367 Tryz.func89 ?_
      (have F := And.intro @tmz (And.intro @hmx (And.intro @Int.toNat_natCast (And.intro @q1 (And.intro @hop (And.intro @hx (And.intro @hrw (And.intro @encWt_u (And.intro @hat @encOpr_u)))))))); refine gG ?_; clear F)
      rw [hz _ rfl, hF0]
      refine gM (ι := Unit) [13] [] (fun u => [(13, .d (.one (.lit (.int .i64 (pWn g ws t 0)))))]) (fun u => []) (fun u => True) ?_ (fun u hu => Exists.intro _ (And.intro (Wk.refl _) ?_))
      · cases hac : o.assoc with
        | true =>
          have h2 := (hap.asc hac).1
          have w1 : IntKind.i64.wrap ((t.args.length : Int) - 1) = (t.args.length : Int) - 1 := IntWalk.i64_in _ (by omega)
          have hm := Int.mul_nonneg hlo (show 0 ≤ (t.args.length : Int) - 1 by omega)
          have hm2 := Int.mul_le_mul hhi (show (t.args.length : Int) - 1 ≤ 7 by omega) (by omega) (by omega)
          have w2 : IntKind.i64.wrap (x.const * ((t.args.length : Int) - 1)) = x.const * ((t.args.length : Int) - 1) := IntWalk.i64_in _ (by omega)
          have e1 : pWn g ws t 0 = x.const * ((t.args.length : Int) - 1) := by rw [hb0, bsW, has, hac, hx]; rfl
          rw [e1]
          (have F := And.intro @tmz (And.intro @hop (And.intro @hat (And.intro @encOpr_u (And.intro @hac (And.intro @w1 (And.intro @w2 @encWt_u)))))); refine gG ?_; exact ⟨(), trivial, gw, gw⟩)
        | false =>
          have e1 : pWn g ws t 0 = x.const := by rw [hb0, bsW, has, hac, hx]; simp
          rw [e1]
          (have F := And.intro @tmz (And.intro @hop (And.intro @hat (And.intro @encOpr_u (And.intro @hac @encWt_u)))); refine gG ?_; exact ⟨(), trivial, gw, gw⟩)
      clear hu
      (have F := @tmz; refine gG ?_; clear F)
      (have F := @e0P; refine gL (ι := Nat) [8, 9, 10, 11, 13, 14, 15, 16, 17, 18, 19, 20, 59, 60, 71, 87, 94, 95, 96] [11] (fun i => [(59, A.d (.one (.lit (.int .i64 i)))), (13, .d (.one (.lit (.int .i64 (pWn g ws t i))))), (11, .buf 11)]) (fun i => [(11, .buf none 3 1 (numR (fun v => pWf g ws v t i) vs))]) (fun i => i ≤ t.args.length ∧ smallW g ws vs t i ∧ (∀ j u, j < i → t.args[j]? = some u → okW g ws vs u)) (fun i => t.args.length - i) (0) (⟨Nat.zero_le _, hs0, fun j u h => absurd h (by omega)⟩) (fun i hi => ?_); clear F)
      obtain ⟨hil, hsm, hsub⟩ := hi
      by_cases hlt : i < t.args.length
      · have q2 : (i : Int) < (t.args.length : Int) := by omega
        obtain ⟨b, hb⟩ : ∃ b, t.args[i]? = some b := ⟨_, List.getElem?_eq_getElem hlt⟩
        have hbm := List.mem_of_getElem? hb
        have hw1 := wrap1 (k := i) (by omega)
        have hsz : sizeTm b < sizeTm t := by
          have h1 := sizeTms_mem hbm
          have h2 : sizeTm t = 1 + sizeTms t.args := by obtain ⟨op, nm, so, args⟩ := t; rfl
          omega
        have cI := ih b (by omega) ((FormOk_iff.1 hf).2.1 b hbm) (fun v hvm => hin v (vars_arg hop hbm v hvm))
        have hcf : o.assoc = false → ∃ c, x.coefs[i]? = some c ∧ c = cfW g ws t.op i := fun hac => by
          have hl := hwo.len d hap.fst
          rw [← hap.nas hac] at hl
          refine ⟨_, List.getElem?_eq_getElem (by omega), ?_⟩
          rw [cfW, has, hac, hx]
          simp [List.getD_eq_getElem?_getD, List.getElem?_eq_getElem (show i < x.coefs.length by omega)]
        have hct : o.assoc = true → cfW g ws t.op i = 1 := fun hac => by rw [cfW, has, hac]; rfl
        (have F := And.intro @tmz (And.intro @q2 (And.intro @hb (And.intro @hop (And.intro @hat @encOpr_u)))); refine gG ?_; clear F)
        refine gM (ι := Unit) [16] [] (fun u => [(16, .d (.one (.lit (.int .i64 (cfW g ws t.op i)))))]) (fun u => []) (fun u => True) ?_ (fun u hu => Exists.intro _ (And.intro (Wk.refl _) ?_))
        · cases hac : o.assoc with
          | true =>
            have e1 := hct hac
            rw [e1]
            (have F := And.intro @tmz (And.intro @hop (And.intro @hat (And.intro @encOpr_u @hac))); refine gG ?_; exact ⟨(), trivial, gw, gw⟩)
          | false =>
            obtain ⟨c, hc, e1⟩ := hcf hac
            rw [← e1]
            (have F := And.intro @tmz (And.intro @hop (And.intro @hat (And.intro @encOpr_u (And.intro @hac (And.intro @hc (And.intro @encInt_u @encWt_u)))))); refine gG ?_; exact ⟨(), trivial, gw, gw⟩)
        clear hu hcf hct
        (have F := @tmz; refine gG ?_; clear F)
        refine gB ?_
        by_cases hok : okW g ws vs b
        rotate_left
        · rw [wOut_no hok] at cI
          have hno := wOut_no (fun h => hok (okW_arg hI hap hf hb h))
          rw [hno]
          (have F := @tmz; refine gC (cI) ?_; clear F)
          (have F := @tmz; refine gR ?_; clear F)
          (have F := @tmz; refine gG ?_; exact gTz [9])
        rw [wOut_ok hok] at cI
        obtain ⟨s1, s2, s3⟩ := step_small hI hap hf hb hok
        have hsm' := small_step hI hap hf hb hok hsm
        have e2 := pWn_step (g := g) (ws := ws) hb
        have b1 := hsm'.1
        have w1 : IntKind.i64.wrap (cfW g ws t.op i * wN g ws b) = cfW g ws t.op i * wN g ws b := IntWalk.i64_in _ (by omega)
        have w2 : IntKind.i64.wrap (pWn g ws t i + cfW g ws t.op i * wN g ws b) = pWn g ws t (i + 1) := by rw [← e2]; exact IntWalk.i64_in _ (by omega)
        (have F := @tmz; refine gC (cI) ?_; clear F)
        (have F := @tmz; refine gR ?_; clear F)
        (have F := And.intro @tmz (And.intro @w1 (And.intro @w2 @numR_len)); refine gG ?_; clear F)
        (have F := @mixR_0; refine gL (ι := Nat) [11, 20, 95, 96] [11] (fun j => [(95, A.d (.one (.lit (.int .i64 j)))), (11, .buf 11)]) (fun j => [(11, .buf none 3 1 (mixR (fun v => pWf g ws v t (i + 1)) (fun v => pWf g ws v t i) vs j))]) (fun j => j ≤ vs.length) (fun j => vs.length - j) (0) (Nat.zero_le _) (fun j hj => ?_); clear F)
        by_cases hlj : j < vs.length
        · have q3 : (j : Int) < (vs.length : Int) := by omega
          obtain ⟨v, hv⟩ : ∃ v, vs[j]? = some v := ⟨_, List.getElem?_eq_getElem hlj⟩
          have hwj := wrap1 (k := j) (by omega)
          have hvm := List.mem_of_getElem? hv
          have m1 := mixR_get (f := fun v => pWf g ws v t (i + 1)) (g := fun v => pWf g ws v t i) hv
          have m2 := mixR_set (f := fun v => pWf g ws v t (i + 1)) (g := fun v => pWf g ws v t i) hv
          have m3 := mixR_len (f := fun v => pWf g ws v t (i + 1)) (g := fun v => pWf g ws v t i) (vs := vs) j
          have m4 := mixR_rows (f := fun v => pWf g ws v t (i + 1)) (g := fun v => pWf g ws v t i) (vs := vs) j
          have m5 := numR_get (f := fun v => wF g ws v b) hv
          have m6 := numR_rows (f := fun v => wF g ws v b) (vs := vs)
          have b2 := hsm'.2 v hvm
          have b3 := s3 v hvm
          have e3 := pWf_step (g := g) (ws := ws) (v := v) hb
          have w3 : IntKind.i64.wrap (cfW g ws t.op i * wF g ws v b) = cfW g ws t.op i * wF g ws v b := IntWalk.i64_in _ (by omega)
          have w4 : IntKind.i64.wrap (pWf g ws v t i + cfW g ws t.op i * wF g ws v b) = pWf g ws v t (i + 1) := by rw [← e3]; exact IntWalk.i64_in _ (by omega)
          (have F := And.intro @tmz (And.intro @q3 (And.intro @m1 (And.intro @m2 (And.intro @m3 (And.intro @m4 (And.intro @m5 (And.intro @m6 (And.intro @w3 (And.intro @w4 (And.intro @hwj @hlj)))))))))); refine gG ?_; exact ⟨j + 1, hlj, gw, gw, by omega⟩)
        obtain rfl : j = vs.length := by omega
        have q3 : ¬ ((vs.length : Int) < (vs.length : Int)) := by omega
        have hq : i + 1 ≤ t.args.length ∧ smallW g ws vs t (i + 1) ∧ (∀ j u, j < i + 1 → t.args[j]? = some u → okW g ws vs u) := ⟨hlt, hsm', fun j u hj hu => by
          by_cases hij : j = i
          · subst hij; rw [hb] at hu; injection hu with hu; subst hu; exact hok
          · exact hsub j u (by omega) hu⟩
        rw [mixR_n]
        (have F := And.intro @tmz (And.intro @q3 @hw1); refine gG ?_; exact ⟨i + 1, hq, gw, gw, by omega⟩)
      obtain rfl : i = t.args.length := by omega
      have q2 : ¬ ((t.args.length : Int) < (t.args.length : Int)) := by omega
      have hokt := okW_app (g := g) (ws := ws) (vs := vs) (t := t) (by omega)
      rw [← wN_app (by omega)]
      have hFt : (fun v => pWf g ws v t t.args.length) = fun v => wF g ws v t := funext fun v => (wF_app (by omega)).symm
      rw [hFt]
      by_cases hN : wN g ws t ≤ 1000000000
      rotate_left
      · have q3 : (1000000000 < wN g ws t) = True := eq_true (by omega)
        rw [wOut_no fun h => hN h.1]
        (have F := And.intro @tmz (And.intro @q2 @q3); refine gG ?_; exact gTz [9])
      have q3 : (1000000000 < wN g ws t) = False := eq_false (by omega)
      (have F := And.intro @tmz (And.intro @q2 (And.intro @q3 @numR_len)); refine gG ?_; clear F)
      (have F := @e0P; refine gL (ι := Nat) [8, 9, 10, 22, 118, 119, 123] [] (fun j => [(118, A.d (.one (.lit (.int .i64 j))))]) (fun j => []) (fun j => j ≤ vs.length ∧ ∀ (i : Nat) v, i < j → vs[i]? = some v → wF g ws v t ≤ 1000000000) (fun j => vs.length - j) (0) (⟨Nat.zero_le _, fun i v h => absurd h (by omega)⟩) (fun j hj => ?_); clear F)
      obtain ⟨hjl, hall⟩ := hj
      by_cases hlj : j < vs.length
      · have q4 : (j : Int) < (vs.length : Int) := by omega
        obtain ⟨v, hv⟩ : ∃ v, vs[j]? = some v := ⟨_, List.getElem?_eq_getElem hlj⟩
        have hwj := wrap1 (k := j) (by omega)
        have hvm := List.mem_of_getElem? hv
        have m1 := numR_get (f := fun v => wF g ws v t) hv
        have m2 := numR_len (f := fun v => wF g ws v t) (vs := vs)
        have m3 := numR_rows (f := fun v => wF g ws v t) (vs := vs)
        by_cases hF : wF g ws v t ≤ 1000000000
        rotate_left
        · have q5 : (1000000000 < wF g ws v t) = True := eq_true (by omega)
          rw [wOut_no fun h => hF (h.2 v hvm)]
          (have F := And.intro @tmz (And.intro @q4 (And.intro @m1 (And.intro @m2 (And.intro @m3 (And.intro @q5 @hlj))))); refine gG ?_; exact gTz [9])
        have q5 : (1000000000 < wF g ws v t) = False := eq_false (by omega)
        have hq : j + 1 ≤ vs.length ∧ ∀ (i : Nat) v, i < j + 1 → vs[i]? = some v → wF g ws v t ≤ 1000000000 := ⟨hlj, fun i u hi hu => by
          by_cases hij : i = j
          · subst hij; rw [hv] at hu; injection hu with hu; subst hu; exact hF
          · exact hall i u (by omega) hu⟩
        (have F := And.intro @tmz (And.intro @q4 (And.intro @m1 (And.intro @m2 (And.intro @m3 (And.intro @q5 (And.intro @hwj @hlj)))))); refine gG ?_; exact ⟨j + 1, hq, gw, gw, by omega⟩)
      obtain rfl : j = vs.length := by omega
      have q4 : ¬ ((vs.length : Int) < (vs.length : Int)) := by omega
      rw [wOut_ok ⟨hN, fun v hv => by obtain ⟨i, hi⟩ := List.getElem?_of_mem hv; exact hall i v (List.getElem?_eq_some_iff.1 hi).1 hi⟩]
      (have F := And.intro @tmz @q4; refine gG ?_; clear F)
      (have F := @tmz; refine gG ?_; exact gTz [9])
end Go.Proofs.YtofklmbljbkdaaaGreat
namespace Go.Proofs.YtofklmbljbkdaaaGreat
open Go.RowKit
theorem ownVs_lits {w : World} : ∀ (us : List (List Value)), OwnVs w (us.map litRow) (fun _ => False) us
  | [] => trivial
  | u :: us => ⟨fun _ => False, fun _ => False, fun _ h => h, fun _ h => h, fun _ h _ => h, by
    induction u with
    | nil => exact OwnVals.nil
    | cons x u ih => exact ⟨fun _ => False, fun _ => False, fun _ h => h, fun _ h => h, fun _ h _ => h, by simp [Own], ih⟩, ownVs_lits us⟩
theorem re_rows {a : Option Addr} {cap ety sz : Nat} {rows : List (List C)} {us : List (List Value)} (h : rows = us.map litRow) : ∃ E : Nat → Prop, Retold [.buf (some (a, cap)) ety sz rows] [.set E (fun w => Own w (.sl rows) E (.slice a rows.length cap))] := by
  subst h
  rw [List.length_map]
  refine ⟨fun b => vblk (.slice a us.length cap) = some b ∨ False, fun w S h ha => ?_⟩
  obtain ⟨h1, h2, h3⟩ := re_close (a := a) (cap := cap) (ety := ety) (sz := sz) (uss := us) (rows := us.map litRow) (E := fun _ => False) (G' := fun w => Own w (.sl (us.map litRow)) (fun b => vblk (.slice a us.length cap) = some b ∨ False) (.slice a us.length cap)) (fun w h => h) (Own.stable _ _ _) w S (fun x hx => by
    simp only [List.mem_cons, List.not_mem_nil, or_false] at hx
    rcases hx with rfl | rfl
    · exact h _ (by simp)
    · exact ⟨fun b hb => hb.elim, ownVs_lits us, OwnVs.stable _ _ _⟩) (apart_2 fun g _ hg => hg)
  refine ⟨h1, h2, fun g hg => ?_⟩
  obtain ⟨x, hx, hg⟩ := h3 g hg
  simp only [List.mem_cons, List.not_mem_nil, or_false] at hx
  rcases hx with rfl | rfl
  · exact ⟨_, List.mem_cons_self, hg⟩
  · exact hg.elim
theorem numR_lits (f : Tm → Int) (vs : List Tm) : numR f vs = (vs.map fun v => [Value.int .i64 (f v)]).map litRow := by
  rw [numR, List.map_map]; rfl
def RTree3 (n : Int) (rows : List (List C)) (ok : Bool) (r : List D) (pm : List Bk) : Prop := ∃ v E, r = [.one (.lit (.int .i64 n)), .one (.lit v), .one (.lit (.bool ok))] ∧ okCell (.lit v) = true ∧ pm = [.set E (fun w => Own w (.sl rows) E v)]
open Classical in
noncomputable def wTree (g : Sgn) (ws : List Wt) (vs : List Tm) (t : Tm) : List D → List Bk → Prop := if okW g ws vs t then RTree3 (wN g ws t) (numR (fun v => wF g ws v t) vs) true else RTree3 0 [] false
theorem wTree_ok {g : Sgn} {ws : List Wt} {vs : List Tm} {t : Tm} (h : okW g ws vs t) : wTree g ws vs t = RTree3 (wN g ws t) (numR (fun v => wF g ws v t) vs) true := if_pos h
theorem wTree_no {g : Sgn} {ws : List Wt} {vs : List Tm} {t : Tm} (h : ¬ okW g ws vs t) : wTree g ws vs t = RTree3 0 [] false := if_neg h
set_option maxHeartbeats 16000000 in
set_option maxRecDepth 100000 in
theorem conP_implW {g : Sgn} {ws : List Wt} {vs : List Tm} (hI : InOk g ws) (hvs : vs.length ≤ 1048577) (hnd : vs.Nodup) (t : Tm) (hf : FormOk g t) (hin : ∀ v ∈ varsTm t, v ∈ vs) :
    ConP e0 89 [.agg (encSgn g), .one (.sl (ws.map encWt)), .agg (encTm t), .one (.sl (encTms vs))] [] (wTree g ws vs t) := by
    have ih := fun b h1 h2 => con_implW_all hI hvs hnd (sizeTm b + 1) b (Nat.lt_succ_self _) h1 h2
    have hrw := rb_wt ws
    rw [encSgn] at ih ⊢
    have hz := fun z h => numR_0 (vs := vs) z h
    have hmx : ((vs.length : Int) ≤ (maxApp : Int)) = True := eq_true (by unfold maxApp; omega)
    rcases op_cases hf.node with ⟨hvar, hop⟩ | ⟨hop, o, d, hap⟩
    · have q1 : (t.op < 0) = True := eq_true hop
      have hRok := wTree_ok (okW_var (g := g) (ws := ws) (vs := vs) hop)
      rw [wN_var hop] at hRok
      have hmem := hin t (var_self hvar)
      obtain ⟨r, hr, c⟩ := con_indexAt (ts := vs) (f := 152) (caps := [.ptr (encTm t)]) (P := fun v => decide (cmpTm v t = 0)) (by unfold big; omega) fun v _ => con_weighC t v
      rcases hr with ⟨k, v, rfl, hk, hp, hbef⟩ | ⟨rfl, hno⟩
      rotate_left
      · have := List.any_eq_false.1 hno t hmem
        simp [cmpTm_self] at this
      have hkl := (List.getElem?_eq_some_iff.1 hk).1
      have hst := numR_one hnd hk (by simpa using hp)
      have hfn : numR (fun v => wF g ws v t) vs = numR (fun v => if cmpTm v t = 0 then 1 else 0) vs := numR_congr fun v _ => wF_var hop
      rw [hfn] at hRok
      have hln := numR_len (f := fun _ => 0) (vs := vs)
      have hrn := numR_rows (f := fun _ => 0) (vs := vs)
      have hgn := numR_get (f := fun _ => 0) hk
      refine gIP (ts := [.slot 8, .slot 9, .slot 10]) [] 11921513725999993503324533626165526367 Tryz.func89 ?_
      (have F := And.intro @tmz (And.intro @hmx (And.intro @Int.toNat_natCast @q1)); refine gG ?_; clear F)
      rw [hz _ rfl]
      refine gB ?_
      (have F := @tmz; refine gC (c) ?_; clear F)
      (have F := And.intro @tmz (And.intro @hln (And.intro @hrn (And.intro @hkl (And.intro @hgn @hst)))); refine gR ?_; clear F)
      (have F := @tmz; refine gG ?_; clear F)
      (have F := @tmz; refine gG ?_; clear F)
      rw [hRok]
      refine pS 9 (fun a cap => ?_)
      obtain ⟨E9, hre⟩ := re_rows (a := a) (cap := cap) (ety := 3) (sz := 1) (numR_lits (fun v => if cmpTm v t = 0 then 1 else 0) vs)
      refine pE [9] [9] hre ?_
      exact (have F := hmx; gTP (R := RTree3 0 (numR (fun v => if cmpTm v t = 0 then 1 else 0) vs) true) [9] ⟨_, E9, rfl, rfl, rfl⟩)
    · have q1 : (t.op < 0) = False := eq_false (by omega)
      have hat := hap.at'
      obtain ⟨x, hx⟩ : ∃ x, ws[t.op.toNat]? = some x := ⟨_, List.getElem?_eq_getElem (by rw [hI.len]; exact (List.getElem?_eq_some_iff.1 hat).1)⟩
      have hwo := hI.all _ o x hat hx
      have hlo := hwo.lo
      have hhi := hwo.hi
      have has : isAs g t.op = o.assoc := by simp [isAs, hat]
      have hla : t.args.length ≤ 7 := by
        cases hac : o.assoc with
        | true => exact (hap.asc hac).2
        | false =>
          rw [hap.nas hac]
          have := (hI.sgn.decls o (List.mem_of_getElem? hat)).ar d hap.fst
          omega
      have hb0 : pWn g ws t 0 = bsW g ws t.op t.args.length := rfl
      have hF0 : numR (fun _ => 0) vs = numR (fun v => pWf g ws v t 0) vs := numR_congr fun v _ => rfl
      have hs0 := small_0 (vs := vs) hI hap
      refine gIP (ts := [.slot 8, .slot 9, .slot 10]) [] 11921513725999993503324533626165526367 Tryz.func89 ?_
      (have F := And.intro @tmz (And.intro @hmx (And.intro @Int.toNat_natCast (And.intro @q1 (And.intro @hop (And.intro @hx (And.intro @hrw (And.intro @encWt_u (And.intro @hat @encOpr_u)))))))); refine gG ?_; clear F)
      rw [hz _ rfl, hF0]
      refine gM (ι := Unit) [13] [] (fun u => [(13, .d (.one (.lit (.int .i64 (pWn g ws t 0)))))]) (fun u => []) (fun u => True) ?_ (fun u hu => Exists.intro _ (And.intro (Wk.refl _) ?_))
      · cases hac : o.assoc with
        | true =>
          have h2 := (hap.asc hac).1
          have w1 : IntKind.i64.wrap ((t.args.length : Int) - 1) = (t.args.length : Int) - 1 := IntWalk.i64_in _ (by omega)
          have hm := Int.mul_nonneg hlo (show 0 ≤ (t.args.length : Int) - 1 by omega)
          have hm2 := Int.mul_le_mul hhi (show (t.args.length : Int) - 1 ≤ 7 by omega) (by omega) (by omega)
          have w2 : IntKind.i64.wrap (x.const * ((t.args.length : Int) - 1)) = x.const * ((t.args.length : Int) - 1) := IntWalk.i64_in _ (by omega)
          have e1 : pWn g ws t 0 = x.const * ((t.args.length : Int) - 1) := by rw [hb0, bsW, has, hac, hx]; rfl
          rw [e1]
          (have F := And.intro @tmz (And.intro @hop (And.intro @hat (And.intro @encOpr_u (And.intro @hac (And.intro @w1 (And.intro @w2 @encWt_u)))))); refine gG ?_; exact ⟨(), trivial, gw, gw⟩)
        | false =>
          have e1 : pWn g ws t 0 = x.const := by rw [hb0, bsW, has, hac, hx]; simp
          rw [e1]
          (have F := And.intro @tmz (And.intro @hop (And.intro @hat (And.intro @encOpr_u (And.intro @hac @encWt_u)))); refine gG ?_; exact ⟨(), trivial, gw, gw⟩)
      clear hu
      (have F := @tmz; refine gG ?_; clear F)
      (have F := @e0P; refine gL (ι := Nat) [8, 9, 10, 11, 13, 14, 15, 16, 17, 18, 19, 20, 59, 60, 71, 87, 94, 95, 96] [11] (fun i => [(59, A.d (.one (.lit (.int .i64 i)))), (13, .d (.one (.lit (.int .i64 (pWn g ws t i))))), (11, .buf 11)]) (fun i => [(11, .buf none 3 1 (numR (fun v => pWf g ws v t i) vs))]) (fun i => i ≤ t.args.length ∧ smallW g ws vs t i ∧ (∀ j u, j < i → t.args[j]? = some u → okW g ws vs u)) (fun i => t.args.length - i) (0) (⟨Nat.zero_le _, hs0, fun j u h => absurd h (by omega)⟩) (fun i hi => ?_); clear F)
      obtain ⟨hil, hsm, hsub⟩ := hi
      by_cases hlt : i < t.args.length
      · have q2 : (i : Int) < (t.args.length : Int) := by omega
        obtain ⟨b, hb⟩ : ∃ b, t.args[i]? = some b := ⟨_, List.getElem?_eq_getElem hlt⟩
        have hbm := List.mem_of_getElem? hb
        have hw1 := wrap1 (k := i) (by omega)
        have hsz : sizeTm b < sizeTm t := by
          have h1 := sizeTms_mem hbm
          have h2 : sizeTm t = 1 + sizeTms t.args := by obtain ⟨op, nm, so, args⟩ := t; rfl
          omega
        have cI := ih b ((FormOk_iff.1 hf).2.1 b hbm) (fun v hvm => hin v (vars_arg hop hbm v hvm))
        have hcf : o.assoc = false → ∃ c, x.coefs[i]? = some c ∧ c = cfW g ws t.op i := fun hac => by
          have hl := hwo.len d hap.fst
          rw [← hap.nas hac] at hl
          refine ⟨_, List.getElem?_eq_getElem (by omega), ?_⟩
          rw [cfW, has, hac, hx]
          simp [List.getD_eq_getElem?_getD, List.getElem?_eq_getElem (show i < x.coefs.length by omega)]
        have hct : o.assoc = true → cfW g ws t.op i = 1 := fun hac => by rw [cfW, has, hac]; rfl
        (have F := And.intro @tmz (And.intro @q2 (And.intro @hb (And.intro @hop (And.intro @hat @encOpr_u)))); refine gG ?_; clear F)
        refine gM (ι := Unit) [16] [] (fun u => [(16, .d (.one (.lit (.int .i64 (cfW g ws t.op i)))))]) (fun u => []) (fun u => True) ?_ (fun u hu => Exists.intro _ (And.intro (Wk.refl _) ?_))
        · cases hac : o.assoc with
          | true =>
            have e1 := hct hac
            rw [e1]
            (have F := And.intro @tmz (And.intro @hop (And.intro @hat (And.intro @encOpr_u @hac))); refine gG ?_; exact ⟨(), trivial, gw, gw⟩)
          | false =>
            obtain ⟨c, hc, e1⟩ := hcf hac
            rw [← e1]
            (have F := And.intro @tmz (And.intro @hop (And.intro @hat (And.intro @encOpr_u (And.intro @hac (And.intro @hc (And.intro @encInt_u @encWt_u)))))); refine gG ?_; exact ⟨(), trivial, gw, gw⟩)
        clear hu hcf hct
        (have F := @tmz; refine gG ?_; clear F)
        refine gB ?_
        by_cases hok : okW g ws vs b
        rotate_left
        · rw [wOut_no hok] at cI
          have hRno := wTree_no (fun h => hok (okW_arg hI hap hf hb h))
          (have F := @tmz; refine gC (cI) ?_; clear F)
          (have F := @tmz; refine gR ?_; clear F)
          (have F := @tmz; refine gG ?_; clear F)
          rw [hRno]
          refine pS 9 (fun a cap => ?_)
          obtain ⟨E9, hre⟩ := re_rows (a := a) (cap := cap) (ety := 3) (sz := 1) (rows := []) (us := []) rfl
          refine pE [9] [9] hre ?_
          exact (have F := hmx; gTP (R := RTree3 0 [] false) [9] ⟨_, E9, rfl, rfl, rfl⟩)
        rw [wOut_ok hok] at cI
        obtain ⟨s1, s2, s3⟩ := step_small hI hap hf hb hok
        have hsm' := small_step hI hap hf hb hok hsm
        have e2 := pWn_step (g := g) (ws := ws) hb
        have b1 := hsm'.1
        have w1 : IntKind.i64.wrap (cfW g ws t.op i * wN g ws b) = cfW g ws t.op i * wN g ws b := IntWalk.i64_in _ (by omega)
        have w2 : IntKind.i64.wrap (pWn g ws t i + cfW g ws t.op i * wN g ws b) = pWn g ws t (i + 1) := by rw [← e2]; exact IntWalk.i64_in _ (by omega)
        (have F := @tmz; refine gC (cI) ?_; clear F)
        (have F := @tmz; refine gR ?_; clear F)
        (have F := And.intro @tmz (And.intro @w1 (And.intro @w2 @numR_len)); refine gG ?_; clear F)
        (have F := @mixR_0; refine gL (ι := Nat) [11, 20, 95, 96] [11] (fun j => [(95, A.d (.one (.lit (.int .i64 j)))), (11, .buf 11)]) (fun j => [(11, .buf none 3 1 (mixR (fun v => pWf g ws v t (i + 1)) (fun v => pWf g ws v t i) vs j))]) (fun j => j ≤ vs.length) (fun j => vs.length - j) (0) (Nat.zero_le _) (fun j hj => ?_); clear F)
        by_cases hlj : j < vs.length
        · have q3 : (j : Int) < (vs.length : Int) := by omega
          obtain ⟨v, hv⟩ : ∃ v, vs[j]? = some v := ⟨_, List.getElem?_eq_getElem hlj⟩
          have hwj := wrap1 (k := j) (by omega)
          have hvm := List.mem_of_getElem? hv
          have m1 := mixR_get (f := fun v => pWf g ws v t (i + 1)) (g := fun v => pWf g ws v t i) hv
          have m2 := mixR_set (f := fun v => pWf g ws v t (i + 1)) (g := fun v => pWf g ws v t i) hv
          have m3 := mixR_len (f := fun v => pWf g ws v t (i + 1)) (g := fun v => pWf g ws v t i) (vs := vs) j
          have m4 := mixR_rows (f := fun v => pWf g ws v t (i + 1)) (g := fun v => pWf g ws v t i) (vs := vs) j
          have m5 := numR_get (f := fun v => wF g ws v b) hv
          have m6 := numR_rows (f := fun v => wF g ws v b) (vs := vs)
          have b2 := hsm'.2 v hvm
          have b3 := s3 v hvm
          have e3 := pWf_step (g := g) (ws := ws) (v := v) hb
          have w3 : IntKind.i64.wrap (cfW g ws t.op i * wF g ws v b) = cfW g ws t.op i * wF g ws v b := IntWalk.i64_in _ (by omega)
          have w4 : IntKind.i64.wrap (pWf g ws v t i + cfW g ws t.op i * wF g ws v b) = pWf g ws v t (i + 1) := by rw [← e3]; exact IntWalk.i64_in _ (by omega)
          (have F := And.intro @tmz (And.intro @q3 (And.intro @m1 (And.intro @m2 (And.intro @m3 (And.intro @m4 (And.intro @m5 (And.intro @m6 (And.intro @w3 (And.intro @w4 (And.intro @hwj @hlj)))))))))); refine gG ?_; exact ⟨j + 1, hlj, gw, gw, by omega⟩)
        obtain rfl : j = vs.length := by omega
        have q3 : ¬ ((vs.length : Int) < (vs.length : Int)) := by omega
        have hq : i + 1 ≤ t.args.length ∧ smallW g ws vs t (i + 1) ∧ (∀ j u, j < i + 1 → t.args[j]? = some u → okW g ws vs u) := ⟨hlt, hsm', fun j u hj hu => by
          by_cases hij : j = i
          · subst hij; rw [hb] at hu; injection hu with hu; subst hu; exact hok
          · exact hsub j u (by omega) hu⟩
        rw [mixR_n]
        (have F := And.intro @tmz (And.intro @q3 @hw1); refine gG ?_; exact ⟨i + 1, hq, gw, gw, by omega⟩)
      obtain rfl : i = t.args.length := by omega
      have q2 : ¬ ((t.args.length : Int) < (t.args.length : Int)) := by omega
      have hokt := okW_app (g := g) (ws := ws) (vs := vs) (t := t) (by omega)
      rw [← wN_app (by omega)]
      have hFt : (fun v => pWf g ws v t t.args.length) = fun v => wF g ws v t := funext fun v => (wF_app (by omega)).symm
      rw [hFt]
      by_cases hN : wN g ws t ≤ 1000000000
      rotate_left
      · have q3 : (1000000000 < wN g ws t) = True := eq_true (by omega)
        have hRno := wTree_no (g := g) (ws := ws) (vs := vs) (t := t) fun h => hN h.1
        (have F := And.intro @tmz (And.intro @q2 @q3); refine gG ?_; clear F)
        rw [hRno]
        refine pS 9 (fun a cap => ?_)
        obtain ⟨E9, hre⟩ := re_rows (a := a) (cap := cap) (ety := 3) (sz := 1) (rows := []) (us := []) rfl
        refine pE [9] [9] hre ?_
        exact (have F := hmx; gTP (R := RTree3 0 [] false) [9] ⟨_, E9, rfl, rfl, rfl⟩)
      have q3 : (1000000000 < wN g ws t) = False := eq_false (by omega)
      (have F := And.intro @tmz (And.intro @q2 (And.intro @q3 @numR_len)); refine gG ?_; clear F)
      (have F := @e0P; refine gL (ι := Nat) [8, 9, 10, 22, 118, 119, 123] [] (fun j => [(118, A.d (.one (.lit (.int .i64 j))))]) (fun j => []) (fun j => j ≤ vs.length ∧ ∀ (i : Nat) v, i < j → vs[i]? = some v → wF g ws v t ≤ 1000000000) (fun j => vs.length - j) (0) (⟨Nat.zero_le _, fun i v h => absurd h (by omega)⟩) (fun j hj => ?_); clear F)
      obtain ⟨hjl, hall⟩ := hj
      by_cases hlj : j < vs.length
      · have q4 : (j : Int) < (vs.length : Int) := by omega
        obtain ⟨v, hv⟩ : ∃ v, vs[j]? = some v := ⟨_, List.getElem?_eq_getElem hlj⟩
        have hwj := wrap1 (k := j) (by omega)
        have hvm := List.mem_of_getElem? hv
        have m1 := numR_get (f := fun v => wF g ws v t) hv
        have m2 := numR_len (f := fun v => wF g ws v t) (vs := vs)
        have m3 := numR_rows (f := fun v => wF g ws v t) (vs := vs)
        by_cases hF : wF g ws v t ≤ 1000000000
        rotate_left
        · have q5 : (1000000000 < wF g ws v t) = True := eq_true (by omega)
          have hRno := wTree_no (g := g) (ws := ws) (vs := vs) (t := t) fun h => hF (h.2 v hvm)
          (have F := And.intro @tmz (And.intro @q4 (And.intro @m1 (And.intro @m2 (And.intro @m3 (And.intro @q5 @hlj))))); refine gG ?_; clear F)
          rw [hRno]
          refine pS 9 (fun a cap => ?_)
          obtain ⟨E9, hre⟩ := re_rows (a := a) (cap := cap) (ety := 3) (sz := 1) (rows := []) (us := []) rfl
          refine pE [9] [9] hre ?_
          exact (have F := hmx; gTP (R := RTree3 0 [] false) [9] ⟨_, E9, rfl, rfl, rfl⟩)
        have q5 : (1000000000 < wF g ws v t) = False := eq_false (by omega)
        have hq : j + 1 ≤ vs.length ∧ ∀ (i : Nat) v, i < j + 1 → vs[i]? = some v → wF g ws v t ≤ 1000000000 := ⟨hlj, fun i u hi hu => by
          by_cases hij : i = j
          · subst hij; rw [hv] at hu; injection hu with hu; subst hu; exact hF
          · exact hall i u (by omega) hu⟩
        (have F := And.intro @tmz (And.intro @q4 (And.intro @m1 (And.intro @m2 (And.intro @m3 (And.intro @q5 (And.intro @hwj @hlj)))))); refine gG ?_; exact ⟨j + 1, hq, gw, gw, by omega⟩)
      obtain rfl : j = vs.length := by omega
      have q4 : ¬ ((vs.length : Int) < (vs.length : Int)) := by omega
      have hRok := wTree_ok (g := g) (ws := ws) (vs := vs) (t := t) ⟨hN, fun v hv => by obtain ⟨i, hi⟩ := List.getElem?_of_mem hv; exact hall i v (List.getElem?_eq_some_iff.1 hi).1 hi⟩
      (have F := And.intro @tmz @q4; refine gG ?_; clear F)
      (have F := @tmz; refine gG ?_; clear F)
      rw [hRok]
      refine pS 9 (fun a cap => ?_)
      obtain ⟨E9, hre⟩ := re_rows (a := a) (cap := cap) (ety := 3) (sz := 1) (numR_lits (fun v => wF g ws v t) vs)
      refine pE [9] [9] hre ?_
      exact (have F := hmx; gTP (R := RTree3 (wN g ws t) (numR (fun v => wF g ws v t) vs) true) [9] ⟨_, E9, rfl, rfl, rfl⟩)
end Go.Proofs.YtofklmbljbkdaaaGreat
namespace Go.Proofs.YtofklmbljbkdaaaGreat
open Go.RowKit
set_option maxHeartbeats 16000000 in
set_option maxRecDepth 100000 in
theorem con_specW_all {g : Sgn} {ws : List Wt} {vs : List Tm} (hI : InOk g ws) (hvs : vs.length ≤ 1048577) (hvok : okTms vs) : ∀ (n : Nat) (t : Tm), sizeTm t < n → okTm t → FormOk g t →
    Con e0 83 [.one (.sl (ws.map encWt)), .agg (encTm t), .one (.sl (encTms vs))] (wOut g ws vs t) := by
  intro n
  induction n with
  | zero => exact fun _ h => by omega
  | succ n ih =>
    intro t hn hok hf
    have hrw := rb_wt ws
    have hz := fun z h => numR_0 (vs := vs) z h
    have hmx : ((vs.length : Int) ≤ (maxApp : Int)) = True := eq_true (by unfold maxApp; omega)
    refine gI 53169124902310938727441965340034596823 Tryz.func83 ?_
    rcases op_cases hf.node with ⟨hvar, hop⟩ | ⟨hop, o, d, hap⟩
    · have q1 : (t.op = -1) = True := eq_true hvar.1
      rw [wOut_ok (okW_var hop), wN_var hop]
      have hfn : numR (fun v => wF g ws v t) vs = numR (fun v => if cmpTm v t = 0 then 1 else 0) vs := numR_congr fun v _ => wF_var hop
      rw [hfn]
      (have F := And.intro @tmz (And.intro @hmx (And.intro @Int.toNat_natCast @q1)); refine gG ?_; clear F)
      rw [hz _ rfl]
      (have F := @mixR_0; refine gL (ι := Nat) [9, 10, 28, 36] [9] (fun j => [(10, A.d (.one (.lit (.int .i64 j)))), (9, .buf 9)]) (fun j => [(9, .buf none 3 1 (mixR (fun v => if cmpTm v t = 0 then 1 else 0) (fun _ => 0) vs j))]) (fun j => j ≤ vs.length) (fun j => vs.length - j) (0) (Nat.zero_le _) (fun j hj => ?_); clear F)
      by_cases hlj : j < vs.length
      · have q3 : (j : Int) < (vs.length : Int) := by omega
        obtain ⟨v, hv⟩ : ∃ v, vs[j]? = some v := ⟨_, List.getElem?_eq_getElem hlj⟩
        have hwj := wrap1 (k := j) (by omega)
        have hvm := List.mem_of_getElem? hv
        have cS := con_l5Same (hvok.mem hvm) hok
        have m1 := mixR_get (f := fun v => if cmpTm v t = 0 then (1 : Int) else 0) (g := fun _ => 0) hv
        have m2 := mixR_set (f := fun v => if cmpTm v t = 0 then (1 : Int) else 0) (g := fun _ => 0) hv
        have m3 := mixR_len (f := fun v => if cmpTm v t = 0 then (1 : Int) else 0) (g := fun _ => 0) (vs := vs) j
        have m4 := mixR_rows (f := fun v => if cmpTm v t = 0 then (1 : Int) else 0) (g := fun _ => 0) (vs := vs) j
        (have F := And.intro @tmz (And.intro @q3 @hv); refine gG ?_; clear F)
        refine gB ?_
        (have F := And.intro @tmz @hv; refine gC (cS) ?_; clear F)
        by_cases he : cmpTm v t = 0
        · have q4 : decide (cmpTm v t = 0) = true := decide_eq_true he
          simp only [if_pos he] at m2
          (have F := And.intro @tmz @q4; refine gR ?_; clear F)
          (have F := And.intro @tmz (And.intro @m1 (And.intro @m2 (And.intro @m3 (And.intro @m4 (And.intro @hwj @hlj))))); refine gG ?_; exact ⟨j + 1, hlj, gw, gw, by omega⟩)
        · have q4 : decide (cmpTm v t = 0) = false := decide_eq_false he
          have m5 := mixR_skip (f := fun v => if cmpTm v t = 0 then (1 : Int) else 0) (g := fun _ => 0) hv (if_neg he)
          rw [m5]
          (have F := And.intro @tmz @q4; refine gR ?_; clear F)
          (have F := And.intro @tmz @hwj; refine gG ?_; exact ⟨j + 1, hlj, gw, gw, by omega⟩)
      obtain rfl : j = vs.length := by omega
      have q3 : ¬ ((vs.length : Int) < (vs.length : Int)) := by omega
      rw [mixR_n]
      (have F := And.intro @tmz @q3; refine gG ?_; clear F)
      (have F := @tmz; refine gG ?_; exact gTz [7])
    · have q1 : (t.op = -1) = False := eq_false (by omega)
      have hat := hap.at'
      obtain ⟨x, hx⟩ : ∃ x, ws[t.op.toNat]? = some x := ⟨_, List.getElem?_eq_getElem (by rw [hI.len]; exact (List.getElem?_eq_some_iff.1 hat).1)⟩
      have hwo := hI.all _ o x hat hx
      have hlo := hwo.lo
      have hhi := hwo.hi
      have has : isAs g t.op = o.assoc := by simp [isAs, hat]
      have hdl := hwo.len d hap.fst
      have hla : t.args.length ≤ 7 := by
        cases hac : o.assoc with
        | true => exact (hap.asc hac).2
        | false =>
          rw [hap.nas hac]
          have := (hI.sgn.decls o (List.mem_of_getElem? hat)).ar d hap.fst
          omega
      have hb0 : pWn g ws t 0 = bsW g ws t.op t.args.length := rfl
      have hF0 : numR (fun _ => 0) vs = numR (fun v => pWf g ws v t 0) vs := numR_congr fun v _ => rfl
      obtain ⟨hcf, hbs0, hbs1⟩ := cf_ok hI hap
      have hcase : (x.coefs.length < t.args.length ∧ pWn g ws t 0 = x.const * ((t.args.length : Int) - 1) ∧ ∀ i, i < t.args.length → cfW g ws t.op i = 1) ∨ (t.args.length = x.coefs.length ∧ pWn g ws t 0 = x.const ∧ ∀ i, i < t.args.length → ∃ c, x.coefs[i]? = some c ∧ cfW g ws t.op i = c) := by
        cases hac : o.assoc with
        | true =>
          have h2 := (hI.sgn.axs o (List.mem_of_getElem? hat)).two (.inl hac) d hap.fst
          have h3 := (hap.asc hac).1
          by_cases h4 : t.args.length = 2
          · refine .inr ⟨by omega, by rw [hb0, bsW, has, hac, hx, h4]; simp, fun i hi => ?_⟩
            refine ⟨_, List.getElem?_eq_getElem (by omega), ?_⟩
            rw [cfW, has, hac]
            simp [hwo.one (.inl hac) _ (List.getElem_mem (show i < x.coefs.length by omega))]
          · exact .inl ⟨by omega, by rw [hb0, bsW, has, hac, hx]; rfl, fun i _ => by rw [cfW, has, hac]; rfl⟩
        | false =>
          have hl := hap.nas hac
          refine .inr ⟨by omega, by rw [hb0, bsW, has, hac, hx]; simp, fun i hi => ⟨_, List.getElem?_eq_getElem (by omega), ?_⟩⟩
          rw [cfW, has, hac, hx]
          simp [List.getD_eq_getElem?_getD, List.getElem?_eq_getElem (show i < x.coefs.length by omega)]
      (have F := And.intro @tmz (And.intro @hmx (And.intro @Int.toNat_natCast (And.intro @q1 (And.intro @hop (And.intro @hx (And.intro @hrw @encWt_u)))))); refine gG ?_; clear F)
      rw [hz _ rfl, hF0]
      refine gM (ι := Unit) [12, 54] [] (fun u => [(12, .d (.one (.lit (.int .i64 (pWn g ws t 0)))))]) (fun u => []) (fun u => True) ?_ (fun u hu => Exists.intro _ (And.intro (Wk.refl _) ?_))
      · rcases hcase with ⟨h1, e1, _⟩ | ⟨h1, e1, _⟩
        · have w1 : IntKind.i64.wrap ((t.args.length : Int) - 1) = (t.args.length : Int) - 1 := IntWalk.i64_in _ (by omega)
          have w2 : IntKind.i64.wrap (x.const * ((t.args.length : Int) - 1)) = x.const * ((t.args.length : Int) - 1) := IntWalk.i64_in _ (by rw [← e1, hb0]; omega)
          have q2 : decide ((x.coefs.length : Int) < (t.args.length : Int)) = true := decide_eq_true (by omega)
          rw [e1]
          (have F := And.intro @tmz (And.intro @q2 (And.intro @w1 (And.intro @w2 @encWt_u))); refine gG ?_; exact ⟨(), trivial, gw, gw⟩)
        · have q2 : decide ((x.coefs.length : Int) < (t.args.length : Int)) = false := decide_eq_false (by omega)
          rw [e1]
          (have F := And.intro @tmz (And.intro @q2 @encWt_u); refine gG ?_; exact ⟨(), trivial, gw, gw⟩)
      clear hu
      have hokt := okW_app (g := g) (ws := ws) (vs := vs) (t := t) (by omega)
      have hp0 : partW g ws vs t 0 := ⟨by rw [hb0]; omega, fun v _ => by simp [pWf, sumW]⟩
      have hpn0 : ∀ i, i ≤ t.args.length → 0 ≤ pWn g ws t i ∧ ∀ v, 0 ≤ pWf g ws v t i := fun i hi => by
        have h := p_mono (g := g) (ws := ws) hI hap hf (Nat.zero_le i) hi
        exact ⟨Int.le_trans (by rw [hb0]; exact hbs0) h.1, fun v => Int.le_trans (by simp [pWf, sumW]) (h.2 v)⟩
      (have F := @tmz; refine gG ?_; clear F)
      (have F := @e0P; refine gL (ι := Nat) [6, 7, 8, 9, 12, 13, 14, 15, 16, 17, 18, 65, 81, 88, 102, 123, 125] [9] (fun i => [(13, A.d (.one (.lit (.int .i64 i)))), (12, .d (.one (.lit (.int .i64 (pWn g ws t i))))), (9, .buf 9)]) (fun i => [(9, .buf none 3 1 (numR (fun v => pWf g ws v t i) vs))]) (fun i => i ≤ t.args.length ∧ partW g ws vs t i) (fun i => t.args.length - i) (0) (⟨Nat.zero_le _, hp0⟩) (fun i hi => ?_); clear F)
      obtain ⟨hil, hpi⟩ := hi
      by_cases hlt : i < t.args.length
      · have q2 : (i : Int) < (t.args.length : Int) := by omega
        obtain ⟨b, hb⟩ : ∃ b, t.args[i]? = some b := ⟨_, List.getElem?_eq_getElem hlt⟩
        have hbm := List.mem_of_getElem? hb
        have hw1 := wrap1 (k := i) (by omega)
        have hsz : sizeTm b < sizeTm t := by
          have h1 := sizeTms_mem hbm
          have h2 : sizeTm t = 1 + sizeTms t.args := by obtain ⟨op, nm, so, args⟩ := t; rfl
          omega
        have cI := ih b (by omega) ((okTm_iff.1 hok).2.2.2.mem hbm) ((FormOk_iff.1 hf).2.1 b hbm)
        (have F := And.intro @tmz @q2; refine gG ?_; clear F)
        refine gB ?_
        by_cases hokb : okW g ws vs b
        rotate_left
        · rw [wOut_no hokb] at cI
          have hno := wOut_no (fun h => hokb (okW_arg hI hap hf hb h))
          rw [hno]
          (have F := And.intro @tmz @hb; refine gC (cI) ?_; clear F)
          (have F := @tmz; refine gR ?_; clear F)
          (have F := @tmz; refine gG ?_; exact gTz [7])
        rw [wOut_ok hokb] at cI
        obtain ⟨s1, s2, s3⟩ := step_small hI hap hf hb hokb
        have e2 := pWn_step (g := g) (ws := ws) hb
        have b1 := hpi.1
        have b0 := (hpn0 i hil).1
        have w1 : IntKind.i64.wrap (cfW g ws t.op i * wN g ws b) = cfW g ws t.op i * wN g ws b := IntWalk.i64_in _ (by omega)
        have w2 : IntKind.i64.wrap (pWn g ws t i + cfW g ws t.op i * wN g ws b) = pWn g ws t (i + 1) := by rw [← e2]; exact IntWalk.i64_in _ (by omega)
        (have F := And.intro @tmz @hb; refine gC (cI) ?_; clear F)
        (have F := @tmz; refine gR ?_; clear F)
        (have F := And.intro @tmz (And.intro @w1 (And.intro @w2 @encWt_u)); refine gG ?_; clear F)
        refine gM (ι := Unit) [17, 88] [] (fun u => [(17, .d (.one (.lit (.int .i64 (cfW g ws t.op i)))))]) (fun u => []) (fun u => True) ?_ (fun u hu => Exists.intro _ (And.intro (Wk.refl _) ?_))
        · rcases hcase with ⟨h1, _, e1⟩ | ⟨h1, _, e1⟩
          · have e1 := e1 i hlt
            have q3 : decide ((t.args.length : Int) = (x.coefs.length : Int)) = false := decide_eq_false (by omega)
            rw [e1]
            (have F := And.intro @tmz (And.intro @q3 @encWt_u); refine gG ?_; exact ⟨(), trivial, gw, gw⟩)
          · obtain ⟨c, hc, e1⟩ := e1 i hlt
            have q3 : decide ((t.args.length : Int) = (x.coefs.length : Int)) = true := decide_eq_true (by omega)
            rw [e1]
            (have F := And.intro @tmz (And.intro @q3 (And.intro @hc (And.intro @encInt_u @encWt_u))); refine gG ?_; exact ⟨(), trivial, gw, gw⟩)
        clear hu
        have hpart : pWn g ws t (i + 1) ≤ 1000000000 → (∀ (j : Nat) v, vs[j]? = some v → pWf g ws v t (i + 1) ≤ 1000000000) → i + 1 ≤ t.args.length ∧ partW g ws vs t (i + 1) := fun h1 h2 => ⟨hlt, h1, fun v hv => by obtain ⟨j, hj⟩ := List.getElem?_of_mem hv; exact h2 j v hj⟩
        have hbad : ¬ partW g ws vs t (i + 1) → wOut g ws vs t = [.one (.lit (.int .i64 0)), .one (.sl []), .one (.lit (.bool false))] := fun h => wOut_no fun h2 => h (partW_of hI hap hf hlt h2)
        (have F := And.intro @tmz (And.intro @w1 (And.intro @w2 @numR_len)); refine gG ?_; clear F)
        (have F := @mixR_0; refine gL (ι := Nat) [6, 7, 8, 9, 18, 102, 123] [9] (fun j => [(18, A.d (.one (.lit (.int .i64 j)))), (9, .buf 9)]) (fun j => [(9, .buf none 3 1 (mixR (fun v => pWf g ws v t (i + 1)) (fun v => pWf g ws v t i) vs j))]) (fun j => j ≤ vs.length ∧ ∀ (k : Nat) v, k < j → vs[k]? = some v → pWf g ws v t (i + 1) ≤ 1000000000) (fun j => vs.length - j) (0) (⟨Nat.zero_le _, fun k v h => absurd h (by omega)⟩) (fun j hj => ?_); clear F)
        obtain ⟨hjl, hall⟩ := hj
        by_cases hlj : j < vs.length
        · have q3 : (j : Int) < (vs.length : Int) := by omega
          obtain ⟨v, hv⟩ : ∃ v, vs[j]? = some v := ⟨_, List.getElem?_eq_getElem hlj⟩
          have hwj := wrap1 (k := j) (by omega)
          have hvm := List.mem_of_getElem? hv
          have m1 := mixR_get (f := fun v => pWf g ws v t (i + 1)) (g := fun v => pWf g ws v t i) hv
          have m2 := mixR_set (f := fun v => pWf g ws v t (i + 1)) (g := fun v => pWf g ws v t i) hv
          have m3 := mixR_len (f := fun v => pWf g ws v t (i + 1)) (g := fun v => pWf g ws v t i) (vs := vs) j
          have m4 := mixR_rows (f := fun v => pWf g ws v t (i + 1)) (g := fun v => pWf g ws v t i) (vs := vs) j
          have m1' := mixR_get2 (f := fun v => pWf g ws v t (i + 1)) (g := fun v => pWf g ws v t i) hv
          have m3' := mixR_len (f := fun v => pWf g ws v t (i + 1)) (g := fun v => pWf g ws v t i) (vs := vs) (j + 1)
          have m4' := mixR_rows (f := fun v => pWf g ws v t (i + 1)) (g := fun v => pWf g ws v t i) (vs := vs) (j + 1)
          have m5 := numR_get (f := fun v => wF g ws v b) hv
          have m6 := numR_rows (f := fun v => wF g ws v b) (vs := vs)
          have b2 := hpi.2 v hvm
          have b20 := (hpn0 i hil).2 v
          have b3 := s3 v hvm
          have e3 := pWf_step (g := g) (ws := ws) (v := v) hb
          have w3 : IntKind.i64.wrap (cfW g ws t.op i * wF g ws v b) = cfW g ws t.op i * wF g ws v b := IntWalk.i64_in _ (by omega)
          have w4 : IntKind.i64.wrap (pWf g ws v t i + cfW g ws t.op i * wF g ws v b) = pWf g ws v t (i + 1) := by rw [← e3]; exact IntWalk.i64_in _ (by omega)
          by_cases hF : pWf g ws v t (i + 1) ≤ 1000000000
          rotate_left
          · have q5 : (1000000000 < pWf g ws v t (i + 1)) = True := eq_true (by omega)
            rw [hbad fun h => hF (h.2 v hvm)]
            (have F := And.intro @tmz (And.intro @q3 (And.intro @m1 (And.intro @m2 (And.intro @m3 (And.intro @m4 (And.intro @m1' (And.intro @m3' (And.intro @m4' (And.intro @m5 (And.intro @m6 (And.intro @w3 (And.intro @w4 (And.intro @hlj @q5))))))))))))); refine gG ?_; exact gTz [7])
          have q5 : (1000000000 < pWf g ws v t (i + 1)) = False := eq_false (by omega)
          have hq : j + 1 ≤ vs.length ∧ ∀ (k : Nat) v, k < j + 1 → vs[k]? = some v → pWf g ws v t (i + 1) ≤ 1000000000 := ⟨hlj, fun k u hk hu => by
            by_cases hkj : k = j
            · subst hkj; rw [hv] at hu; injection hu with hu; subst hu; exact hF
            · exact hall k u (by omega) hu⟩
          (have F := And.intro @tmz (And.intro @q3 (And.intro @m1 (And.intro @m2 (And.intro @m3 (And.intro @m4 (And.intro @m1' (And.intro @m3' (And.intro @m4' (And.intro @m5 (And.intro @m6 (And.intro @w3 (And.intro @w4 (And.intro @hwj (And.intro @hlj @q5)))))))))))))); refine gG ?_; exact ⟨j + 1, hq, gw, gw, by omega⟩)
        obtain rfl : j = vs.length := by omega
        have q3 : ¬ ((vs.length : Int) < (vs.length : Int)) := by omega
        rw [mixR_n]
        by_cases hN : pWn g ws t (i + 1) ≤ 1000000000
        rotate_left
        · have q5 : (1000000000 < pWn g ws t (i + 1)) = True := eq_true (by omega)
          rw [hbad fun h => hN h.1]
          (have F := And.intro @tmz (And.intro @numR_len (And.intro @q3 @q5)); refine gG ?_; exact gTz [7])
        have q5 : (1000000000 < pWn g ws t (i + 1)) = False := eq_false (by omega)
        have hq := hpart hN fun j v hv => hall j v (List.getElem?_eq_some_iff.1 hv).1 hv
        (have F := And.intro @tmz (And.intro @numR_len (And.intro @q3 (And.intro @q5 @hw1))); refine gG ?_; exact ⟨i + 1, hq, gw, gw, by omega⟩)
      obtain rfl : i = t.args.length := by omega
      have q2 : ¬ ((t.args.length : Int) < (t.args.length : Int)) := by omega
      rw [← wN_app (by omega)]
      have hFt : (fun v => pWf g ws v t t.args.length) = fun v => wF g ws v t := funext fun v => (wF_app (by omega)).symm
      rw [hFt, wOut_ok (hokt.2 hpi)]
      (have F := And.intro @tmz @q2; refine gG ?_; clear F)
      (have F := @tmz; refine gG ?_; exact gTz [7])
end Go.Proofs.YtofklmbljbkdaaaGreat
namespace Go.Proofs.YtofklmbljbkdaaaGreat
open Go.RowKit
end Go.Proofs.YtofklmbljbkdaaaGreat
namespace Go.Proofs.YtofklmbljbkdaaaGreat
open Go.RowKit
def RCut (a : Option Addr) (cap ty sz : Nat) (rows : List (List C)) (r : List D) (pm : List Bk) : Prop := r = [.one (.lit (.slice a rows.length cap))] ∧ pm = [.buf (some (a, cap)) ty sz rows]
theorem sliced_zero (a : Option Addr) (k cap sz : Nat) : sliced a 0 k cap sz = .slice a k cap := by
  cases a with
  | none => simp [sliced]
  | some p =>
    have : p.add 0 = p := by cases p; simp [Addr.add]
    simp [sliced, this]
theorem lenNrm {m : List (Nat × Bk)} {a : Option Addr} {n cap : Nat} : lenA m (some true) [nrm m (.d (.one (.lit (.slice a n cap))))] = some (.d (.one (.lit (.int .i64 (n : Int))))) := by
  show lenA m (some true) [nrmBK m a n cap (bufK a n cap m)] = _
  cases bufK a n cap m with
  | none => rfl
  | some k =>
    show lenA m (some true) [nrmB a n cap k (gm m k)] = _
    cases hg : gm m k with
    | none => rfl
    | some bk =>
      cases bk with
      | var o cs => rfl
      | set E G => rfl
      | buf o ty sz rows =>
        cases o with
        | none => rfl
        | some q =>
          obtain ⟨a', cap'⟩ := q
          simp only [nrmB]
          split
          · rename_i h
            show lenS (bufA (gm m k)) = _
            rw [hg, h.2.1]
            rfl
          · rfl
theorem lenSub {m : List (Nat × Bk)} {a : Option Addr} {l h cap sz : Nat} : lenA m (some true) [nrm m (.d (.one (.lit (sliced a l h cap sz))))] = some (.d (.one (.lit (.int .i64 ((h - l : Nat) : Int))))) := lenNrm
theorem encTms_set (l : List Tm) (k : Nat) (t : Tm) : (encTms l).set k (encTm t) = encTms (l.set k t) := by rw [encTms_eq, encTms_eq, List.map_set]
theorem encTms_take (l : List Tm) (k : Nat) : (encTms l).take k = encTms (l.take k) := by rw [encTms_eq, encTms_eq, List.map_take]
theorem set_take' {α : Type} {l : List α} {i : Nat} {x : α} (h : i < l.length) : (l.set i x).take (i + 1) = l.take i ++ [x] := by
  rw [List.take_add_one, List.take_set_of_le (Nat.le_refl _)]
  simp [h]
theorem drop_at {l l' : List Tm} {m : Nat} (h : l.drop m = l'.drop m) (i : Nat) : l[m + i]? = l'[m + i]? := by
  rw [← List.getElem?_drop, ← List.getElem?_drop, h]
theorem dd_short {ts : List Tm} (h : ts.length < 2) : ddT none ts = ts := by
  match ts, h with
  | [], _ => rfl
  | [x], _ => rfl
set_option maxHeartbeats 8000000 in
set_option maxRecDepth 100000 in
theorem conP_compact (ts : List Tm) (hl : ts.length ≤ 4000000) (a : Option Addr) (cap : Nat) : ConP e0 194 [.one (.lit (.slice a ts.length cap)), .one (.fn 153 [])] [.buf (some (a, cap)) 73 4 (encTms ts)] (RCut a cap 73 4 (encTms (ddT none ts))) := by
  refine gIP (ts := [.slot 4]) [1000] 562984581629171 Tryz.func194 ?_
  by_cases h2 : ts.length < 2
  · have q1 : ((ts.length : Int) < 2) = True := eq_true (by omega)
    (have F := And.intro @q1 @tmz; refine gG ?_; clear F)
    rw [dd_short h2]
    exact (have F := encTms_len; gTP (R := RCut a cap 73 4 (encTms ts)) [1000] ⟨by rw [encTms_len], rfl⟩)
  have q1 : ((ts.length : Int) < 2) = False := eq_false (by omega)
  (have F := And.intro @q1 @tmz; refine gG ?_; clear F)
  clear q1
  obtain ⟨t0, ht0⟩ : ∃ t, ts[0]? = some t := ⟨_, List.getElem?_eq_getElem (by omega)⟩
  (have F := @tmz; refine gL (ι := Nat) [4, 5, 6, 7, 15, 28, 35, 49] [] (fun x => [(5, .d (.one (.lit (.int .i64 (x : Int)))))]) (fun x => []) (fun x => 1 ≤ x ∧ x ≤ ts.length ∧ ddT none (ts.take x) = ts.take x) (fun x => ts.length - x) (1) (⟨Nat.le_refl _, by omega, by rw [ddT_one ht0]; cases ts with | nil => simp at ht0 | cons y ys => simp at ht0; simp [ht0]⟩) (fun x hx => ?_); clear F)
  obtain ⟨hx1, hxn, hxd⟩ := hx
  by_cases hlt : x < ts.length
  rotate_left
  · obtain rfl : x = ts.length := by omega
    have q1 : ((ts.length : Int) < (ts.length : Int)) = False := eq_false (by omega)
    rw [List.take_length] at hxd
    (have F := And.intro @q1 @tmz; refine gG ?_; clear F)
    rw [hxd]
    exact (have F := encTms_len; gTP (R := RCut a cap 73 4 (encTms ts)) [1000] ⟨by rw [encTms_len], rfl⟩)
  obtain ⟨u, hu⟩ : ∃ t, ts[x]? = some t := ⟨_, List.getElem?_eq_getElem hlt⟩
  obtain ⟨z, rfl⟩ : ∃ z, x = z + 1 := ⟨x - 1, by omega⟩
  obtain ⟨v, hv⟩ : ∃ t, ts[z]? = some t := ⟨_, List.getElem?_eq_getElem (by omega)⟩
  have q1 : (((z + 1 : Nat) : Int) < (ts.length : Int)) = True := eq_true (by omega)
  have w1 : IntKind.i64.wrap (((z + 1 : Nat) : Int) - 1) = (z : Int) := wrapN (by omega) (by omega) (by omega)
  have w2 : IntKind.i64.wrap (((z + 1 : Nat) : Int) + 1) = ((z + 1 + 1 : Nat) : Int) := wrapN (by omega) (by omega) (by omega)
  have hz1 : z + 1 < ts.length := hlt
  have hz0 : z < ts.length := by omega
  have hst := ddT_step hu hv
  generalize hxx : z + 1 = x at *
  rw [show z + 2 = x + 1 by omega] at hst
  (have F := And.intro @q1 @tmz; refine gG ?_; clear F)
  refine gB ?_
  (have F := And.intro @q1 (And.intro @tmz (And.intro @hu (And.intro @hv (And.intro @w1 (And.intro @hz1 (And.intro @hz0 @encTms_len)))))); refine gC (con_implSame u v) ?_; clear F)
  (have F := And.intro @q1 @tmz; refine gR ?_; clear F)
  by_cases h0 : cmpTm u v = 0
  rotate_left
  · have q3 : decide (cmpTm u v = 0) = false := decide_eq_false h0
    rw [if_neg h0, hxd] at hst
    (have F := And.intro @q3 @w2; refine gG ?_; exact ⟨x + 1, ⟨by omega, hlt, by rw [hst]; simp [List.take_add_one, hu]⟩, gw, gw, by omega⟩)
  have q3 : decide (cmpTm u v = 0) = true := decide_eq_true h0
  rw [if_pos h0, hxd] at hst
  (have F := And.intro @q3 @tmz; have NN : StopAt 7 := trivial; refine gGn ?_; clear F NN)
  refine gB ?_
  (have F := And.intro @q3 @tmz; refine gP 2 ?_; clear F)
  have F := encTms_len
  refine gSub 1000 x ts.length ⟨by omega, by rw [encTms_len]; exact Nat.le_refl _⟩ ?_
  clear F
  (have F := @tmz; refine gR ?_; clear F)
  (have F := @tmz; refine gG ?_; clear F)
  (have F := @tmz; refine gL (ι := Nat × Nat × List Tm) [5, 7, 35, 49] [1000] (fun y => [(7, .d (.one (.lit (.int .i64 (y.1 : Int))))), (5, .d (.one (.lit (.int .i64 (y.2.1 : Int)))))]) (fun y => [(1000, .buf (some (a, cap)) 73 4 (encTms y.2.2))]) (fun y => 1 ≤ y.1 ∧ x + y.1 ≤ ts.length ∧ y.2.1 + 1 ≤ x + y.1 ∧ y.2.2.length = ts.length ∧ y.2.2.take y.2.1 = ddT none (ts.take (x + y.1)) ∧ y.2.2.drop (x + y.1 - 1) = ts.drop (x + y.1 - 1)) (fun y => ts.length - y.1) ((1, x, ts)) (⟨Nat.le_refl _, hlt, Nat.le_refl _, rfl, hst.symm, rfl⟩) (fun y hy => ?_); clear F)
  obtain ⟨j, k, us⟩ := y
  obtain ⟨h1, h2', h3, h4, h5, h6⟩ := hy
  simp only at h1 h2' h3 h4 h5 h6
  dsimp only
  have hn4 : ts.length = us.length := h4.symm
  by_cases hj : j < ts.length - x
  · obtain ⟨i, rfl⟩ : ∃ i, j = i + 1 := ⟨j - 1, by omega⟩
    obtain ⟨u1, hu1⟩ : ∃ t, ts[x + i + 1]? = some t := ⟨_, List.getElem?_eq_getElem (by omega)⟩
    obtain ⟨v1, hv1⟩ : ∃ t, ts[x + i]? = some t := ⟨_, List.getElem?_eq_getElem (by omega)⟩
    have e1 : us[x + (i + 1)]? = some u1 := by
      rw [← hu1, show x + (i + 1) - 1 = x + i by omega] at *
      exact drop_at h6 1
    have e2 : us[x + i]? = some v1 := by
      rw [← hv1, show x + (i + 1) - 1 = x + i by omega] at *
      exact drop_at h6 0
    have q4 : (((i + 1 : Nat) : Int) < ((ts.length - x : Nat) : Int)) = True := eq_true (by omega)
    have w3 : IntKind.i64.wrap (((i + 1 : Nat) : Int) - 1) = (i : Int) := wrapN (by omega) (by omega) (by omega)
    have w4 : IntKind.i64.wrap (((i + 1 : Nat) : Int) + 1) = ((i + 1 + 1 : Nat) : Int) := wrapN (by omega) (by omega) (by omega)
    have hst2 := ddT_step hu1 hv1
    rw [show x + i + 2 = x + (i + 1 + 1) by omega, show x + i + 1 = x + (i + 1) by omega, ← h5] at hst2
    (have F := And.intro @q4 (And.intro @lenSub @tmz); have NN : StopAt 11 := trivial; refine gGn ?_; clear F NN)
    refine gB ?_
    (have F := And.intro @q4 @tmz; refine gP 3 ?_; clear F)
    have F := encTms_len
    refine gSubAq (l := x) (h := ts.length) (rows := encTms us) 1000 (i + 1) ⟨by omega, by rw [encTms_len]; omega⟩ ?_
    clear F
    (have F := And.intro @tmz (And.intro @e1 @w3); refine gP 4 ?_; clear F)
    have F := encTms_len
    refine gSubAq (l := x) (h := ts.length) (rows := encTms us) 1000 i ⟨by omega, by rw [encTms_len]; omega⟩ ?_
    clear F
    (have F := And.intro @tmz @e2; refine gC (con_implSame u1 v1) ?_; clear F)
    (have F := @tmz; refine gR ?_; clear F)
    by_cases h7 : cmpTm u1 v1 = 0
    · have q5 : decide (cmpTm u1 v1 = 0) = true := decide_eq_true h7
      rw [if_pos h7] at hst2
      (have F := And.intro @q5 @w4; refine gG ?_; exact ⟨(i + 1 + 1, k, us), ⟨by dsimp only; omega, by dsimp only; omega, by dsimp only; omega, h4, hst2.symm, by rw [show x + (i + 1 + 1) - 1 = x + (i + 1) - 1 + 1 by omega, ← List.drop_drop, ← List.drop_drop, h6]⟩, gw, gw, by omega⟩)
    · have q5 : decide (cmpTm u1 v1 = 0) = false := decide_eq_false h7
      rw [if_neg h7] at hst2
      obtain ⟨ok, hok⟩ : ∃ t, us[k]? = some t := ⟨_, List.getElem?_eq_getElem (by omega)⟩
      have w5 : IntKind.i64.wrap ((k : Int) + 1) = ((k + 1 : Nat) : Int) := wrapN (by omega) (by omega) (by omega)
      have hkl : k < us.length := by omega
      (have F := And.intro @q5 @tmz; have NN : StopAt 12 := trivial; refine gGn ?_; clear F NN)
      refine gB ?_
      (have F := And.intro @q5 @tmz; refine gP 4 ?_; clear F)
      have F := encTms_len
      refine gSubA (l := x) (h := ts.length) (rows := encTms us) 1000 (i + 1) ⟨by omega, by rw [encTms_len]; omega⟩ ?_
      clear F
      (have F := And.intro @tmz (And.intro @e1 (And.intro @hok (And.intro @hn4 (And.intro @hkl @encTms_set)))); refine gR ?_; clear F)
      (have F := And.intro @w4 (And.intro @w5 @hn4); refine gG ?_; exact ⟨(i + 1 + 1, k + 1, us.set k u1), ⟨by dsimp only; omega, by dsimp only; omega, by dsimp only; omega, by rw [List.length_set]; exact h4, by rw [hst2, set_take' hkl], by rw [List.drop_set_of_lt (by omega), show x + (i + 1 + 1) - 1 = x + (i + 1) - 1 + 1 by omega, ← List.drop_drop, ← List.drop_drop, h6]⟩, gw, gw, by omega⟩)
  · have q4 : ((j : Int) < ((ts.length - x : Nat) : Int)) = False := eq_false (by omega)
    have hjn : x + j = ts.length := by omega
    rw [hjn, List.take_length] at h5
    have hkl : k < us.length := by omega
    (have F := And.intro @q4 (And.intro @lenSub @tmz); have NN : StopAt 14 := trivial; refine gGn ?_; clear F NN)
    refine gB ?_
    (have F := And.intro @q4 @tmz; refine gP 2 ?_; clear F)
    have F := And.intro encTms_len hn4
    refine gSub 1000 k us.length ⟨by omega, by rw [encTms_len]; exact Nat.le_refl _⟩ ?_
    rw [show us.length = (encTms us).length by rw [encTms_len]]
    refine gClear 1000 (by rw [encTms_len]; exact hkl) ?_
    clear F
    have hRl : ((encTms us).take k ++ List.replicate ((encTms us).length - k) [C.lit (Value.int IntKind.i64 0), C.lit (Value.string ByteArray.empty), C.lit (Value.int IntKind.i64 0), C.sl []]).length = us.length := by simp [encTms_len]; omega
    have hRt : ((encTms us).take k ++ List.replicate ((encTms us).length - k) [C.lit (Value.int IntKind.i64 0), C.lit (Value.string ByteArray.empty), C.lit (Value.int IntKind.i64 0), C.sl []]).take k = encTms (ddT none ts) := by
      rw [List.take_append_of_le_length (by simp [encTms_len]; omega), List.take_take, Nat.min_self, encTms_take, h5]
    generalize (encTms us).take k ++ List.replicate ((encTms us).length - k) [C.lit (Value.int IntKind.i64 0), C.lit (Value.string ByteArray.empty), C.lit (Value.int IntKind.i64 0), C.sl []] = R at hRl hRt ⊢
    (have F := @tmz; refine gR ?_; clear F)
    (have F := And.intro @q4 @tmz; have NN : StopAt 15 := trivial; refine gGn ?_; clear F NN)
    refine gB ?_
    (have F := And.intro @q4 @tmz; refine gP 2 ?_; clear F)
    have F := And.intro hRl hn4
    refine gSub 1000 0 k ⟨by omega, by rw [hRl]; omega⟩ ?_
    clear F
    rw [sliced_zero]
    (have F := @tmz; refine gR ?_; clear F)
    (have F := @tmz; refine gG ?_; clear F)
    refine pE [1000] [1000] (re_cut k (by rw [hRl]; omega)) ?_
    rw [hRt]
    have hk2 : k = (encTms (ddT none ts)).length := by rw [encTms_len, ← h5, List.length_take]; omega
    exact (have F := encTms_len; gTP (R := RCut a cap 73 4 (encTms (ddT none ts))) [1000] ⟨by rw [← hk2], rfl⟩)
end Go.Proofs.YtofklmbljbkdaaaGreat
namespace Go.Proofs.YtofklmbljbkdaaaGreat
open Go.RowKit
theorem sortTm_len (ts : List Tm) : (sortTm ts).length = ts.length := (sortTm_perm ts).length_eq
theorem dd_sort (ts : List Tm) : ddT none (sortTm ts) = distTm ts := by rw [ddT_dist (sortTm_up ts), distTm_perm (sortTm_perm ts)]
set_option maxHeartbeats 4000000 in
theorem conP_distinct (ts : List Tm) (hl : ts.length ≤ 4000000) (a : Option Addr) (cap : Nat) : ConP e0 130 [.one (.lit (.slice a ts.length cap))] [.buf (some (a, cap)) 73 4 (encTms ts)] (RCut a cap 73 4 (encTms (distTm ts))) := by
  have hc := conP_compact (sortTm ts) (by rw [sortTm_len]; exact hl) a cap
  rw [sortTm_len, dd_sort] at hc
  refine gIP (ts := [.slot 2]) [1000] 5 Tryz.func130 ?_
  (have F := @tmz; refine gG ?_; clear F)
  refine gB ?_
  (have F := @tmz; refine gCI (conI_sortT ts hl) (by rw [encTms_len, encTms_len, sortTm_len]) ?_; clear F)
  (have F := @tmz; refine gR ?_; clear F)
  (have F := @tmz; refine gG ?_; clear F)
  refine gB ?_
  (have F := @tmz; refine gCP [1000] [1000] (hc) ?_; clear F)
  rintro r pm ⟨rfl, rfl⟩
  simp only [setA, retA, zipM, List.cons_append, List.nil_append]
  (have F := @tmz; refine gR ?_; clear F)
  (have F := @tmz; refine gG ?_; clear F)
  exact (have F := encTms_len; gTP (R := RCut a cap 73 4 (encTms (distTm ts))) [1000] ⟨rfl, rfl⟩)
mutual
theorem vars_len : ∀ t : Tm, (varsTm t).length ≤ 1 + bulkRow (encTm t)
  | .mk op nm so args => by
    have := varss_len args
    simp only [varsTm, encTm, bulkRow, bulkC, encTms_len]
    split
    · simp
    · omega
theorem varss_len : ∀ ts : List Tm, (varsTms ts).length ≤ ts.length + bulkRows (encTms ts)
  | [] => by simp [varsTms]
  | t :: ts => by
    have h1 := vars_len t
    have h2 := varss_len ts
    simp only [varsTms, encTms, bulkRows, List.length_append, List.length_cons]
    omega
end
theorem vars_len2 {t : Tm} (h : bulkRow (encTm t) ≤ 1048576) : (varsTm t).length ≤ 1048576 := by
  obtain ⟨op, nm, so, args⟩ := t
  have := varss_len args
  simp only [varsTm, encTm, bulkRow, bulkC, encTms_len] at h ⊢
  split
  · simp
  · omega
theorem varsTms_snoc : ∀ (l : List Tm) (t : Tm), varsTms (l ++ [t]) = varsTms l ++ varsTm t
  | [], t => by simp [varsTms]
  | x :: xs, t => by simp [varsTms, varsTms_snoc xs t]
theorem varsTms_take {l : List Tm} {i : Nat} {t : Tm} (h : l[i]? = some t) : varsTms (l.take (i + 1)) = varsTms (l.take i) ++ varsTm t := by
  rw [show l.take (i + 1) = l.take i ++ [t] by simp [List.take_add_one, h], varsTms_snoc]
theorem varsTms_le : ∀ (l : List Tm) (i : Nat), (varsTms (l.take i)).length ≤ (varsTms l).length
  | [], i => by simp [varsTms]
  | x :: xs, 0 => by simp [varsTms]
  | x :: xs, i + 1 => by have := varsTms_le xs i; simp only [List.take_succ_cons, varsTms, List.length_append]; omega
def visL (ts args : List Tm) (i : Nat) : List Tm := ts ++ varsTms (args.take i)
theorem visL_0 (ts args : List Tm) : visL ts args 0 = ts := by simp [visL, varsTms]
theorem visL_step {ts args : List Tm} {i : Nat} {b : Tm} (h : args[i]? = some b) : visL ts args (i + 1) = visL ts args i ++ varsTm b := by
  unfold visL
  rw [varsTms_take h, List.append_assoc]
theorem visL_end (ts args : List Tm) : visL ts args args.length = ts ++ varsTms args := by unfold visL; rw [List.take_length]
theorem ktF : kindT Tryz.prog 204 = some .one := by kernel_rfl
theorem ztF : sizeT Tryz.prog 204 = some 1 := by kernel_rfl
theorem otF : zeroT Tryz.prog 204 = some [.lit .nilFunc] := by kernel_rfl
theorem okNilF : okCell (.lit .nilFunc) = true := rfl
theorem okFn {f : FuncId} {cs : List C} : okCell (.fn f cs) = true := rfl
theorem encTms_nil' : encTms [] = [] := by simp [encTms]
theorem gTPn {X : Prop} {P : Program} {ts : List RS} {R : List D → List Bk → Prop} {σ : St} {r : List D} {pm : List Bk} (ks : List Nat) (hR : R r pm) (hx : retQP P ts R .normal σ → X := by first | exact fun h => h | exact fun h => ⟨_, Wk.refl _, h⟩) (hr : resD P σ ts = some r := by first | (simp only [pz, ↓reduceIte, Nat.reduceEqDiff, Nat.reduceAdd, Nat.reduceSub, Nat.reduceMul, Nat.reduceLeDiff, Nat.reduceBEq, Bool.false_eq_true, decide_true, decide_false, Int.reduceLE, Int.reduceToNat, Int.reduceLT, Int.reduceEq, eq_self, Nat.reduceShiftRight, Nat.reduceAnd, Nat.reduceBneDiff, F]; exact rfl) | simp only [pz, ↓reduceIte, Nat.reduceEqDiff, Nat.reduceAdd, Nat.reduceSub, Nat.reduceMul, Nat.reduceLeDiff, Nat.reduceBEq, Bool.false_eq_true, decide_true, decide_false, Int.reduceLE, Int.reduceToNat, Int.reduceLT, Int.reduceEq, eq_self, Nat.reduceShiftRight, Nat.reduceAnd, Nat.reduceBneDiff, F]) (hg : getM σ.m ks = some pm := by first | (simp only [pz, ↓reduceIte, Nat.reduceEqDiff, Nat.reduceAdd, Nat.reduceSub, Nat.reduceMul, Nat.reduceLeDiff, Nat.reduceBEq, Bool.false_eq_true, decide_true, decide_false, Int.reduceLE, Int.reduceToNat, Int.reduceLT, Int.reduceEq, eq_self, Nat.reduceShiftRight, Nat.reduceAnd, Nat.reduceBneDiff]; exact rfl) | simp only [pz, ↓reduceIte, Nat.reduceEqDiff, Nat.reduceAdd, Nat.reduceSub, Nat.reduceMul, Nat.reduceLeDiff, Nat.reduceBEq, Bool.false_eq_true, decide_true, decide_false, Int.reduceLE, Int.reduceToNat, Int.reduceLT, Int.reduceEq, eq_self, Nat.reduceShiftRight, Nat.reduceAnd, Nat.reduceBneDiff]) (hn : ks.Nodup := by decide) (hp : pm.all pinned = true := by simp only [pz, ↓reduceIte, Nat.reduceEqDiff, Nat.reduceAdd, Nat.reduceSub, Nat.reduceMul, Nat.reduceLeDiff, Nat.reduceBEq, Bool.false_eq_true, decide_true, decide_false, Int.reduceLE, Int.reduceToNat, Int.reduceLT, Int.reduceEq, eq_self, Nat.reduceShiftRight, Nat.reduceAnd, Nat.reduceBneDiff]) : X :=
  hx ⟨r, ks, pm, hg, hn, hp, hR, resOk_of hr⟩
def ptr0 (b : Nat) : Value := .pointer (some ⟨b, 0, none⟩)
def RVis (bo bv : Nat) (f : FuncId) (ty : Nat) (ts : List Tm) (r : List D) (pm : List Bk) : Prop := ∃ a cap, r = [] ∧ pm = [.var (some bo) [.lit (.slice a ts.length cap)], .buf (some (a, cap)) ty 4 (encTms ts), .var (some bv) [.fn f [.lit (ptr0 bo), .lit (ptr0 bv)]]]
set_option maxHeartbeats 8000000 in
set_option maxRecDepth 100000 in
theorem conP_visit_of (t : Tm) (ts : List Tm) (a : Option Addr) (cap bo bv : Nat) (hne : bo ≠ bv) (hb : bulkRow (encTm t) ≤ 1048576) (hl : ts.length + (varsTm t).length ≤ 4000000)
    (h : ∀ x ∈ t.args, ∀ (us : List Tm) (a : Option Addr) (cap : Nat), us.length + (varsTm x).length ≤ 4000000 → ConP e0 154 [.agg (encTm x), .one (.lit (ptr0 bo)), .one (.lit (ptr0 bv))] [.var (some bo) [.lit (.slice a us.length cap)], .buf (some (a, cap)) 73 4 (encTms us), .var (some bv) [.fn 154 [.lit (ptr0 bo), .lit (ptr0 bv)]]] (RVis bo bv 154 73 (us ++ varsTm x))) :
    ConP e0 154 [.agg (encTm t), .one (.lit (ptr0 bo)), .one (.lit (ptr0 bv))] [.var (some bo) [.lit (.slice a ts.length cap)], .buf (some (a, cap)) 73 4 (encTms ts), .var (some bv) [.fn 154 [.lit (ptr0 bo), .lit (ptr0 bv)]]] (RVis bo bv 154 73 (ts ++ varsTm t)) := by
  obtain ⟨op, nm, so, args⟩ := t
  have hc : encTm (.mk op nm so args) = [.lit (.int .i64 op), .lit (.string nm), .lit (.int .i64 so), .sl (encTms args)] := by simp only [encTm]
  have hn1 : (bo = bv) = False := eq_false hne
  have hn2 : (bv = bo) = False := eq_false (fun e => hne e.symm)
  simp only [Tm.args] at h
  simp only [encTm, bulkRow, bulkC, encTms_len] at hb
  simp only [ptr0] at h ⊢
  refine gIP (ts := []) [1001, 1000, 1002] 15728943 Tryz.func154 ?_
  by_cases ho : op = -1
  · have q1 : (op = -1) = True := eq_true ho
    have e1 : varsTm (.mk op nm so args) = [.mk (-1) nm so []] := by simp only [varsTm, if_pos ho]
    rw [e1] at hl ⊢
    simp only [List.length_cons, List.length_nil, Nat.zero_add] at hl
    have hm : ts.length + 1 ≤ maxApp := by unfold maxApp; omega
    have c1 : encTm (.mk (-1) nm so []) = [.lit (.int .i64 (-1)), .lit (.string nm), .lit (.int .i64 so), .sl []] := by simp only [encTm, encTms]
    (have F := And.intro @hc (And.intro @q1 @tmz); have NN : StopAt 2 := trivial; refine gGn ?_; clear F NN)
    have hR : ∀ (a2 : Option Addr) (cap2 : Nat), RVis bo bv 154 73 (ts ++ [.mk (-1) nm so []]) [] [.var (some bo) [.lit (.slice a2 (ts.length + 1) cap2)], .buf (some (a2, cap2)) 73 4 (encTms ts ++ [[.lit (.int .i64 (-1)), .lit (.string nm), .lit (.int .i64 so), .sl []]]), .var (some bv) [.fn 154 [.lit (.pointer (some ⟨bo, 0, none⟩)), .lit (.pointer (some ⟨bv, 0, none⟩))]]] := fun a2 cap2 => ⟨a2, cap2, rfl, by
      rw [show encTms (ts ++ [.mk (-1) nm so []]) = encTms ts ++ [[.lit (.int .i64 (-1)), .lit (.string nm), .lit (.int .i64 so), .sl []]] by rw [encTms_eq, List.map_append, ← encTms_eq, List.map_cons, List.map_nil, c1], List.length_append]
      rfl⟩
    have a1 : (ts.length < ts.length + 1) = True := eq_true (Nat.lt_succ_self _)
    have a2 : ∀ Z : List C, (encTms ts ++ [Z])[ts.length]? = some Z := fun Z => by rw [List.getElem?_append_right (by rw [encTms_len]; exact Nat.le_refl _), encTms_len, Nat.sub_self]; rfl
    have a3 : ∀ Z X : List C, (encTms ts ++ [Z]).set ts.length X = encTms ts ++ [X] := fun Z X => by rw [List.set_append_right _ _ (by rw [encTms_len]; exact Nat.le_refl _), encTms_len, Nat.sub_self]; rfl
    have F := And.intro a1 (And.intro a2 (And.intro a3 (And.intro hc (And.intro q1 (And.intro @lenNrm (And.intro hm (And.intro hn1 (And.intro hn2 tmz))))))))
    refine gTree 8 ?_
    refine gT1 8 ?_
    refine gS 17 fun a2 cap2 => ?_
    refine runs_nil ?_
    refine gT2 9 11 ?_ ?_
    · refine runs_nil ?_
      refine gT2 10 11 ?_ ?_
      · refine runs_nil ?_
        refine gT1 11 ?_
        refine runs_nil ?_
        refine gT0 ?_
        (refine wkI ?_; (have F := @tmz; refine gG ?_; clear F); exact (have F := tmz; gTP [1001, 17, 1002] (hR a2 cap2)))
      · refine runs_nil ?_
        refine gT1 10 ?_
        refine runs_nil ?_
        refine gT0 ?_
        (refine wkI ?_; (have F := @tmz; refine gG ?_; clear F); exact (have F := tmz; gTP [1001, 17, 1002] (hR a2 cap2)))
    · refine runs_nil ?_
      refine gT1 9 ?_
      refine runs_nil ?_
      refine gT1 10 ?_
      refine runs_nil ?_
      refine gT0 ?_
      (refine wkI ?_; (have F := @tmz; refine gG ?_; clear F); exact (have F := tmz; gTP [1001, 17, 1002] (hR a2 cap2)))
  · have q1 : (op = -1) = False := eq_false ho
    have e1 : varsTm (.mk op nm so args) = varsTms args := by simp only [varsTm, if_neg ho]
    rw [e1] at hl ⊢
    have hal : args.length ≤ 1048576 := by omega
    (have F := And.intro @hc (And.intro @q1 @tmz); refine gG ?_; clear F)
    (have F := @visL_0; refine gL (ι := Nat × Option Addr × Nat) [5, 22, 23] [1000, 1001, 1002] (fun x => [(22, .d (.one (.lit (.int .i64 (x.1 : Int)))))]) (fun x => [(1001, .var (some bo) [.lit (.slice x.2.1 (visL ts args x.1).length x.2.2)]), (1000, .buf (some (x.2.1, x.2.2)) 73 4 (encTms (visL ts args x.1))), (1002, .var (some bv) [.fn 154 [.lit (.pointer (some ⟨bo, 0, none⟩)), .lit (.pointer (some ⟨bv, 0, none⟩))]])]) (fun x => x.1 ≤ args.length) (fun x => args.length - x.1) ((0, a, cap)) (Nat.zero_le _) (fun x hx => ?_); clear F)
    obtain ⟨i, a2, cap2⟩ := x
    simp only at hx
    dsimp only
    by_cases hlt : i < args.length
    · obtain ⟨b, hg⟩ : ∃ b, args[i]? = some b := ⟨_, List.getElem?_eq_getElem hlt⟩
      have q2 : ((i : Int) < (args.length : Int)) = True := eq_true (by omega)
      have q4 : IntKind.i64.wrap ((i : Int) + 1) = (i : Int) + 1 := IntWalk.i64_in _ (by omega)
      have hvt := varsTms_take hg
      have hle := varsTms_le args (i + 1)
      rw [hvt, List.length_append] at hle
      have hcon := h b (List.mem_of_getElem? hg) (visL ts args i) a2 cap2 (by unfold visL; rw [List.length_append]; omega)
      rw [← visL_step hg] at hcon
      (have F := And.intro @q2 (And.intro @hc (And.intro @encTms_len (And.intro @encTms_get (And.intro @hg @tmz)))); refine gG ?_; clear F)
      refine gB ?_
      (have F := And.intro @ktF (And.intro @hn1 (And.intro @hn2 @tmz)); refine gCP [1001, 1000, 1002] [1001, 1000, 1002] (hcon) ?_; clear F)
      rintro r pm ⟨a3, cap3, rfl, rfl⟩
      simp only [ptr0, setA, retA, zipM, List.cons_append, List.nil_append]
      (have F := @tmz; refine gR ?_; clear F)
      (have F := @q4; refine gG ?_; exact ⟨(i + 1, a3, cap3), hlt, gw, gw, by omega⟩)
    · obtain rfl : i = args.length := by omega
      have q2 : ((args.length : Int) < (args.length : Int)) = False := eq_false (by omega)
      (have F := @q2; refine gG ?_; clear F)
      have hR : RVis bo bv 154 73 (ts ++ varsTms args) [] [.var (some bo) [.lit (.slice a2 (visL ts args args.length).length cap2)], .buf (some (a2, cap2)) 73 4 (encTms (visL ts args args.length)), .var (some bv) [.fn 154 [.lit (.pointer (some ⟨bo, 0, none⟩)), .lit (.pointer (some ⟨bv, 0, none⟩))]]] := by
        rw [← visL_end]
        exact ⟨a2, cap2, rfl, rfl⟩
      exact (have F := tmz; gTPn [1001, 1000, 1002] hR)
theorem conP_visit_n (bo bv : Nat) (hne : bo ≠ bv) (n : Nat) : ∀ (t : Tm), nodesRow (encTm t) < n → bulkRow (encTm t) ≤ 1048576 → ∀ (ts : List Tm) (a : Option Addr) (cap : Nat), ts.length + (varsTm t).length ≤ 4000000 → ConP e0 154 [.agg (encTm t), .one (.lit (ptr0 bo)), .one (.lit (ptr0 bv))] [.var (some bo) [.lit (.slice a ts.length cap)], .buf (some (a, cap)) 73 4 (encTms ts), .var (some bv) [.fn 154 [.lit (ptr0 bo), .lit (ptr0 bv)]]] (RVis bo bv 154 73 (ts ++ varsTm t)) := by
  induction n with
  | zero => exact fun _ h => by omega
  | succ n ih =>
    intro t hn hb ts a cap hl
    refine conP_visit_of t ts a cap bo bv hne hb hl fun x hx us a cap hl2 => ih x ?_ ?_ us a cap hl2
    · obtain ⟨op, nm, so, args⟩ := t
      simp only [encTm, nodesRow, nodesC] at hn
      simp only [Tm.args] at hx
      obtain ⟨i, hi⟩ := List.getElem?_of_mem hx
      have hi' : (encTms args)[i]? = some (encTm x) := by rw [encTms_get, hi]; rfl
      have h1 := nodes_get hi'
      omega
    · obtain ⟨op, nm, so, args⟩ := t
      simp only [encTm, bulkRow, bulkC] at hb
      simp only [Tm.args] at hx
      obtain ⟨i, hi⟩ := List.getElem?_of_mem hx
      have hi' : (encTms args)[i]? = some (encTm x) := by rw [encTms_get, hi]; rfl
      have h1 := bulk_get hi'
      omega
set_option maxHeartbeats 8000000 in
set_option maxRecDepth 100000 in
theorem con_implVars (t : Tm) (hb : bulkRow (encTm t) ≤ 1048576) : Con e0 90 [.agg (encTm t)] [.one (.sl (encTms (varsOf t)))] := by
  have hv := vars_len2 hb
  refine gI (ts := [.slot 2]) 31 Tryz.func90 ?_
  (have F := @tmz; have NN : StopAt 1 := trivial; refine gGn ?_; clear F NN)
  refine gB ?_
  (have F := @tmz; refine gP 1 ?_; clear F)
  refine gO 5 73 4 ?_
  refine gS 5 fun a cap => ?_
  (have F := @tmz; refine gR ?_; clear F)
  (have F := And.intro @otF (And.intro @ztF @tmz); have NN : StopAt 3 := trivial; refine gGn ?_; clear F NN)
  refine pV 3 fun b3 hb3 => ?_
  refine pV 4 fun b4 hb4 => ?_
  have hne : b3 ≠ b4 := fun e => hb4 3 b3 _ (by decide) rfl e.symm
  clear hb3 hb4
  have hn1 : (b3 = b4) = False := eq_false hne
  have hn2 : (b4 = b3) = False := eq_false (fun e => hne e.symm)
  (have F := And.intro @ktF (And.intro @ztF (And.intro @okNilF (And.intro @okFn (And.intro @hn1 (And.intro @hn2 @tmz))))); have NN : StopAt 4 := trivial; refine gGn ?_; clear F NN)
  refine gB ?_
  have hcon := conP_visit_n b3 b4 hne _ t (Nat.lt_succ_self _) (by omega) [] a cap (by simp; omega)
  have hdis := fun (a : Option Addr) (cap : Nat) => conP_distinct (varsTm t) (by omega) a cap
  simp only [ptr0, List.length_nil, List.nil_append, encTms_nil'] at hcon
  (have F := And.intro @ktF (And.intro @hn1 (And.intro @hn2 @tmz)); refine gCP [3, 5, 4] [3, 5, 4] (hcon) ?_; clear F)
  rintro r pm ⟨a2, cap2, rfl, rfl⟩
  simp only [ptr0, setA, retA, zipM, List.cons_append, List.nil_append]
  (have F := @tmz; refine gR ?_; clear F)
  (have F := @tmz; refine gG ?_; clear F)
  refine gB ?_
  (have F := And.intro @hn1 (And.intro @hn2 @tmz); refine gCP [5] [5] (hdis a2 cap2) ?_; clear F)
  rintro r pm ⟨rfl, rfl⟩
  simp only [setA, retA, zipM, List.cons_append, List.nil_append]
  (have F := @tmz; refine gR ?_; clear F)
  refine pD 5 [2] [] ?_ (hs := by simp only [pz, ↓reduceIte, Nat.reduceEqDiff, Nat.reduceAdd, Nat.reduceSub, Nat.reduceMul, Nat.reduceLeDiff, Nat.reduceBEq, Bool.false_eq_true, decide_true, decide_false, Int.reduceLE, Int.reduceToNat, Int.reduceLT, Int.reduceEq, eq_self, Nat.reduceShiftRight, Nat.reduceAnd, Nat.reduceBneDiff]; exact rfl)
  (have F := @tmz; refine gG ?_; exact gTd)
end Go.Proofs.YtofklmbljbkdaaaGreat
namespace Go.Proofs.YtofklmbljbkdaaaGreat
open Go.RowKit
theorem con_l5Var (nm : ByteArray) (so : Int) : Con e0 210 [.one (.lit (.string nm)), .one (.lit (.int .i64 so))] [.agg (encTm (.mk (-1) nm so []))] := by
  have c1 : encTm (.mk (-1) nm so []) = [.lit (.int .i64 (-1)), .lit (.string nm), .lit (.int .i64 so), .sl []] := by simp only [encTm, encTms]
  rw [c1]
  refine gI (ts := [.cell 4 73]) 19 Tryz.func210 ?_
  (have F := @e0P; refine gG ?_; exact gTd)
theorem insTm_step {t x : Tm} {ts : List Tm} {i : Nat} (hx : ts[i]? = some x) (h : insTm t ts = ts.take i ++ insTm t (ts.drop i)) (hc : cmpTm x t < 0) : insTm t ts = ts.take (i + 1) ++ insTm t (ts.drop (i + 1)) := by
  obtain ⟨hl, e⟩ := List.getElem?_eq_some_iff.1 hx
  rw [h, List.drop_eq_getElem_cons hl, e, insTm, if_pos hc]
  simp [List.take_add_one, hx]
theorem insTm_same {t x : Tm} {ts : List Tm} {i : Nat} (hx : ts[i]? = some x) (h : insTm t ts = ts.take i ++ insTm t (ts.drop i)) (hc : cmpTm x t = 0) : insTm t ts = ts := by
  obtain ⟨hl, e⟩ := List.getElem?_eq_some_iff.1 hx
  rw [h, List.drop_eq_getElem_cons hl, e, insTm, if_neg (by omega), if_pos hc, ← e, ← List.drop_eq_getElem_cons hl, List.take_append_drop]
theorem insTm_here {t x : Tm} {ts : List Tm} {i : Nat} (hx : ts[i]? = some x) (h : insTm t ts = ts.take i ++ insTm t (ts.drop i)) (h1 : ¬ cmpTm x t < 0) (h2 : ¬ cmpTm x t = 0) : insTm t ts = ts.take i ++ [t] ++ ts.drop i := by
  obtain ⟨hl, e⟩ := List.getElem?_eq_some_iff.1 hx
  rw [h, List.drop_eq_getElem_cons hl, e, insTm, if_neg h1, if_neg h2]
  simp
theorem insTm_end {t : Tm} {ts : List Tm} {i : Nat} (hi : ts.length ≤ i) (h : insTm t ts = ts.take i ++ insTm t (ts.drop i)) : insTm t ts = ts.take i ++ [t] ++ ts.drop i := by
  rw [h, List.drop_eq_nil_of_le hi, insTm]
  simp
theorem encTms_app (a b : List Tm) : encTms (a ++ b) = encTms a ++ encTms b := by rw [encTms_eq, encTms_eq, encTms_eq, List.map_append]
theorem encTms_drop (l : List Tm) (k : Nat) : (encTms l).drop k = encTms (l.drop k) := by rw [encTms_eq, encTms_eq, List.map_drop]
theorem encTms_one (t : Tm) : encTms [t] = [encTm t] := by simp [encTms]
set_option maxHeartbeats 8000000 in
set_option maxRecDepth 100000 in
theorem con_l5Insert (ts : List Tm) (t : Tm) (hts : okTms ts) (ht : okTm t) (hl : ts.length ≤ 8000000) : Con e0 124 [.one (.sl (encTms ts)), .agg (encTm t)] [.one (.sl (encTms (insTm t ts)))] := by
  refine gI (ts := [.slot 4]) 8590459003 Tryz.func124 ?_
  (have F := @tmz; refine gG ?_; clear F)
  (have F := @tmz; refine gL (ι := Nat) [5, 19] [] (fun x => [(5, .d (.one (.lit (.int .i64 (x : Int)))))]) (fun x => []) (fun x => x ≤ ts.length ∧ insTm t ts = ts.take x ++ insTm t (ts.drop x)) (fun x => ts.length - x) (0) (⟨Nat.zero_le _, rfl⟩) (fun x hx => ?_); clear F)
  obtain ⟨hi, hf⟩ := hx
  by_cases hlt : x < ts.length
  · obtain ⟨a, ha⟩ : ∃ n, ts[x]? = some n := ⟨_, List.getElem?_eq_getElem hlt⟩
    have q1 : ((x : Int) < (ts.length : Int)) = True := eq_true (by omega)
    have q4 : IntKind.i64.wrap ((x : Int) + 1) = (x : Int) + 1 := IntWalk.i64_in _ (by omega)
    have hcmp := con_specCmp (hts.mem (List.mem_of_getElem? ha)) ht
    (have F := And.intro @q1 @tmz; refine gG ?_; clear F)
    refine gB ?_
    (have F := And.intro @q1 (And.intro @tmz @ha); refine gC (hcmp) ?_; clear F)
    by_cases hc : cmpTm a t < 0
    · have q2 : (cmpTm a t < 0) = True := eq_true hc
      (have F := And.intro @q1 (And.intro @q2 @tmz); refine gR ?_; clear F)
      have hs := insTm_step ha hf hc
      (have F := And.intro @q4 @q2; refine gG ?_; exact ⟨x + 1, ⟨hlt, hs⟩, gw, gw, by omega⟩)
    · have q2 : (cmpTm a t < 0) = False := eq_false hc
      (have F := And.intro @q1 (And.intro @q2 @tmz); refine gR ?_; clear F)
      (have F := And.intro @q1 (And.intro @q2 @tmz); refine gG ?_; clear F)
      refine gB ?_
      (have F := And.intro @q1 (And.intro @tmz @ha); refine gC (con_l5Same (hts.mem (List.mem_of_getElem? ha)) ht) ?_; clear F)
      by_cases h0 : cmpTm a t = 0
      · have q3 : decide (cmpTm a t = 0) = true := decide_eq_true h0
        (have F := And.intro @q1 (And.intro @q3 @tmz); refine gR ?_; clear F)
        rw [insTm_same ha hf h0]
        (have F := And.intro @q3 @tmz; refine gG ?_; exact gTd)
      · have q3 : decide (cmpTm a t = 0) = false := decide_eq_false h0
        (have F := And.intro @q1 (And.intro @q3 @tmz); refine gR ?_; clear F)
        have hins := insTm_here ha hf hc h0
        (have F := And.intro @q3 @tmz; have NN : StopAt 6 := trivial; refine gGn ?_; clear F NN)
        rw [hins, encTms_app, encTms_app, encTms_one, ← encTms_take, ← encTms_drop]
        have hxl : ((x : Int) ≤ (ts.length : Int)) = True := eq_true (by omega)
        have r1 : rowsB 4 ((encTms ts).take x) = true := by rw [encTms_take]; exact rb_tm _
        have r2 : rowsB 4 ((encTms ts).drop x) = true := by rw [encTms_drop]; exact rb_tm _
        have n1 : ((encTms ts).take x).length ≤ 8000000 := by rw [List.length_take, encTms_len]; omega
        have n2 : ((encTms ts).drop x).length ≤ 8000000 := by rw [List.length_drop, encTms_len]; omega
        have n3 : ((encTms ts).take x).length + 1 ≤ maxApp := by unfold maxApp; omega
        have n4 : ((encTms ts).take x).length + 1 + ((encTms ts).drop x).length ≤ maxApp := by unfold maxApp; omega
        have F := And.intro r1 (And.intro r2 (And.intro hxl (And.intro n3 (And.intro n4 tmz))))
        refine gA 7 4 ?_ (.inl rfl) ?_
        · show 0 + _ ≤ maxApp
          unfold maxApp; omega
        clear F
        (have F := And.intro @r1 (And.intro @r2 (And.intro @hxl (And.intro @n3 (And.intro @n4 @tmz)))); refine gR ?_; clear F)
        have tkA : (encTms ts).take ts.length = encTms ts := by rw [← encTms_len ts, List.take_length]
        have n5 : ((encTms ts).take x ++ [encTm t]).length + ((encTms ts).drop x).length ≤ maxApp := by simp only [List.length_append, List.length_cons, List.length_nil]; omega
        have hll : ((ts.length : Int) ≤ (ts.length : Int)) = True := eq_true (Int.le_refl _)
        (have F := And.intro @r1 (And.intro @r2 (And.intro @hxl (And.intro @n3 (And.intro @n4 (And.intro @n5 (And.intro @hll (And.intro @tkA @tmz))))))); refine gG ?_; exact gTz [4])
  · have q1 : ((x : Int) < (ts.length : Int)) = False := eq_false (by omega)
    have hins := insTm_end (by omega) hf
    (have F := And.intro @q1 @tmz; have NN : StopAt 6 := trivial; refine gGn ?_; clear F NN)
    rw [hins, encTms_app, encTms_app, encTms_one, ← encTms_take, ← encTms_drop]
    have hxl : ((x : Int) ≤ (ts.length : Int)) = True := eq_true (by omega)
    have r1 : rowsB 4 ((encTms ts).take x) = true := by rw [encTms_take]; exact rb_tm _
    have r2 : rowsB 4 ((encTms ts).drop x) = true := by rw [encTms_drop]; exact rb_tm _
    have n1 : ((encTms ts).take x).length ≤ 8000000 := by rw [List.length_take, encTms_len]; omega
    have n2 : ((encTms ts).drop x).length ≤ 8000000 := by rw [List.length_drop, encTms_len]; omega
    have n3 : ((encTms ts).take x).length + 1 ≤ maxApp := by unfold maxApp; omega
    have n4 : ((encTms ts).take x).length + 1 + ((encTms ts).drop x).length ≤ maxApp := by unfold maxApp; omega
    have F := And.intro r1 (And.intro r2 (And.intro hxl (And.intro n3 (And.intro n4 tmz))))
    refine gA 7 4 ?_ (.inl rfl) ?_
    · show 0 + _ ≤ maxApp
      unfold maxApp; omega
    clear F
    (have F := And.intro @r1 (And.intro @r2 (And.intro @hxl (And.intro @n3 (And.intro @n4 @tmz)))); refine gR ?_; clear F)
    have tkA : (encTms ts).take ts.length = encTms ts := by rw [← encTms_len ts, List.take_length]
    have n5 : ((encTms ts).take x ++ [encTm t]).length + ((encTms ts).drop x).length ≤ maxApp := by simp only [List.length_append, List.length_cons, List.length_nil]; omega
    have hll : ((ts.length : Int) ≤ (ts.length : Int)) = True := eq_true (Int.le_refl _)
    (have F := And.intro @r1 (And.intro @r2 (And.intro @hxl (And.intro @n3 (And.intro @n4 (And.intro @n5 (And.intro @hll (And.intro @tkA @tmz))))))); refine gG ?_; exact gTz [4])
theorem con_clip2 {e : Env} {f : FuncId} {a : D} {rows : List (List C)} {r : List D} (h : Con e f [a, .one (.sl rows)] r) : Con e f [a, .clip rows] r :=
  ⟨h.1, fun w S vs h1 h2 h3 h4 => h.2 w S vs h1 h2 h3 (by
    match vs, h4 with
    | [x, y], h4 => exact ⟨h4.1, h4.2.1.1, trivial⟩)⟩
theorem okTm_var {op so : Int} {nm : ByteArray} {args : List Tm} (h : okTm (.mk op nm so args)) : okTm (.mk (-1) nm so []) := by
  simp only [okTm, okTms, and_true] at h ⊢
  exact ⟨by unfold I64; omega, h.2.1, h.2.2.1⟩
def colT (l : List Tm) (r : List Tm) : List Tm := l.foldl (fun r t => insTm t r) r
theorem colT_nil0 {ts : List Tm} : colT (varsTms []) ts = ts := by simp [colT, varsTms]
theorem colT_app (a b r : List Tm) : colT (a ++ b) r = colT b (colT a r) := by unfold colT; rw [List.foldl_append]
theorem insTm_len (t : Tm) : ∀ l : List Tm, (insTm t l).length ≤ l.length + 1
  | [] => by simp [insTm]
  | x :: xs => by
    have := insTm_len t xs
    simp only [insTm]
    split
    · simp only [List.length_cons]; omega
    · split <;> simp only [List.length_cons] <;> omega
theorem colT_len : ∀ (l r : List Tm), (colT l r).length ≤ r.length + l.length
  | [], r => by simp [colT]
  | x :: xs, r => by
    have h1 := colT_len xs (insTm x r)
    have h2 := insTm_len x r
    simp only [colT, List.foldl_cons, List.length_cons] at h1 ⊢
    omega
theorem insTm_ok {t : Tm} (ht : okTm t) : ∀ {l : List Tm}, okTms l → okTms (insTm t l)
  | [], _ => by simp only [insTm, okTms]; exact ⟨ht, trivial⟩
  | x :: xs, h => by
    simp only [okTms] at h
    simp only [insTm]
    split
    · simp only [okTms]; exact ⟨h.1, insTm_ok ht h.2⟩
    · split
      · simp only [okTms]; exact h
      · simp only [okTms]; exact ⟨ht, h⟩
theorem colT_ok : ∀ {l r : List Tm}, okTms l → okTms r → okTms (colT l r)
  | [], r, _, h => h
  | x :: xs, r, h1, h2 => by
    simp only [okTms] at h1
    exact colT_ok (l := xs) (r := insTm x r) h1.2 (insTm_ok h1.1 h2)
theorem okTms_app : ∀ {a b : List Tm}, okTms a → okTms b → okTms (a ++ b)
  | [], _, _, h => h
  | x :: xs, b, h1, h2 => by
    simp only [okTms] at h1
    simp only [List.cons_append, okTms]
    exact ⟨h1.1, okTms_app h1.2 h2⟩
mutual
theorem varsTm_ok : ∀ {t : Tm}, okTm t → okTms (varsTm t)
  | .mk op nm so args, h => by
    simp only [varsTm]
    split
    · simp only [okTms]; exact ⟨okTm_var h, trivial⟩
    · simp only [okTm] at h; exact varsTms_ok h.2.2.2
theorem varsTms_ok : ∀ {l : List Tm}, okTms l → okTms (varsTms l)
  | [], _ => by simp [varsTms, okTms]
  | x :: xs, h => by
    simp only [okTms] at h
    simp only [varsTms]
    exact okTms_app (varsTm_ok h.1) (varsTms_ok h.2)
end
theorem okTms_take : ∀ {l : List Tm} (i : Nat), okTms l → okTms (l.take i)
  | [], _, _ => by simp [okTms]
  | x :: xs, 0, _ => by simp [okTms]
  | x :: xs, i + 1, h => by
    simp only [okTms] at h
    simp only [List.take_succ_cons, okTms]
    exact ⟨h.1, okTms_take i h.2⟩
set_option maxHeartbeats 8000000 in
theorem con_l5Collect_of (t : Tm) (ts : List Tm) (ht : okTm t) (hts : okTms ts) (hb : bulkRow (encTm t) ≤ 1048576) (hl : ts.length + (varsTm t).length ≤ 7000000) (h : ∀ x ∈ t.args, ∀ us : List Tm, okTms us → us.length + (varsTm x).length ≤ 7000000 → Con e0 147 [.agg (encTm x), .one (.sl (encTms us))] [.one (.sl (encTms (colT (varsTm x) us)))]) :
    Con e0 147 [.agg (encTm t), .one (.sl (encTms ts))] [.one (.sl (encTms (colT (varsTm t) ts)))] := by
  obtain ⟨op, nm, so, args⟩ := t
  have hc : encTm (.mk op nm so args) = [.lit (.int .i64 op), .lit (.string nm), .lit (.int .i64 so), .sl (encTms args)] := by simp only [encTm]
  simp only [Tm.args] at h
  simp only [encTm, bulkRow, bulkC, encTms_len] at hb
  refine gI (ts := [.slot 4]) 1048887 Tryz.func147 ?_
  by_cases ho : op = -1
  · have q1 : (op = -1) = True := eq_true ho
    have e1 : varsTm (.mk op nm so args) = [.mk (-1) nm so []] := by simp only [varsTm, if_pos ho]
    rw [e1] at hl ⊢
    simp only [List.length_cons, List.length_nil, Nat.zero_add] at hl
    have hI := con_l5Insert ts (.mk (-1) nm so []) hts (okTm_var ht) (by omega)
    (have F := And.intro @hc (And.intro @q1 @tmz); refine gG ?_; clear F)
    refine gB ?_
    (have F := @hc; refine gC (con_l5Var nm so) ?_; clear F)
    (have F := @hc; refine gC (hI) ?_; clear F)
    (have F := @hc; refine gR ?_; clear F)
    simp only [colT, List.foldl_cons, List.foldl_nil]
    (have F := @tmz; refine gG ?_; exact gTd)
  · have q1 : (op = -1) = False := eq_false ho
    have e1 : varsTm (.mk op nm so args) = varsTms args := by simp only [varsTm, if_neg ho]
    rw [e1] at hl ⊢
    have hk : okTms args := by simp only [okTm] at ht; exact ht.2.2.2
    (have F := And.intro @hc (And.intro @q1 @tmz); refine gG ?_; clear F)
    (have F := And.intro ((fun (r : List Tm) => (colT_nil0 : colT (varsTms []) r = r))) @tmz; refine gL (ι := Nat) [1, 5, 20] [] (fun x => [(5, .d (.one (.lit (.int .i64 (x : Int))))), (1, .d (.one (.sl (encTms (colT (varsTms (args.take x)) ts)))))]) (fun x => []) (fun x => x ≤ args.length) (fun x => args.length - x) (0) (Nat.zero_le _) (fun x hx => ?_); clear F)
    by_cases hlt : x < args.length
    · obtain ⟨b, hg⟩ : ∃ b, args[x]? = some b := ⟨_, List.getElem?_eq_getElem hlt⟩
      have q2 : ((x : Int) < (args.length : Int)) = True := eq_true (by omega)
      have q4 : IntKind.i64.wrap ((x : Int) + 1) = (x : Int) + 1 := IntWalk.i64_in _ (by omega)
      have hvt := varsTms_take hg
      have hle := varsTms_le args (x + 1)
      rw [hvt, List.length_append] at hle
      have hcl := colT_len (varsTms (args.take x)) ts
      have hcon := h b (List.mem_of_getElem? hg) (colT (varsTms (args.take x)) ts) (colT_ok (varsTms_ok (okTms_take x hk)) hts) (by omega)
      rw [← colT_app, ← hvt] at hcon
      (have F := And.intro @q2 (And.intro @hc @tmz); refine gG ?_; clear F)
      refine gB ?_
      (have F := And.intro @q2 (And.intro @hc (And.intro @hg @tmz)); refine gC (hcon) ?_; clear F)
      (have F := @tmz; refine gR ?_; clear F)
      (have F := @q4; refine gG ?_; exact ⟨x + 1, hlt, gw, gw, by omega⟩)
    · obtain rfl : x = args.length := by omega
      have q2 : ((args.length : Int) < (args.length : Int)) = False := eq_false (by omega)
      rw [List.take_length]
      (have F := And.intro @q2 (And.intro @hc @tmz); refine gG ?_; exact gTd)
theorem con_l5Collect_n (n : Nat) : ∀ t : Tm, nodesRow (encTm t) < n → okTm t → bulkRow (encTm t) ≤ 1048576 → ∀ ts : List Tm, okTms ts → ts.length + (varsTm t).length ≤ 7000000 → Con e0 147 [.agg (encTm t), .one (.sl (encTms ts))] [.one (.sl (encTms (colT (varsTm t) ts)))] := by
  induction n with
  | zero => exact fun _ h => by omega
  | succ n ih =>
    intro t hn ht hb ts hts hl
    refine con_l5Collect_of t ts ht hts hb hl fun x hx us hus hl2 => ?_
    obtain ⟨op, nm, so, args⟩ := t
    simp only [encTm, nodesRow, nodesC] at hn
    simp only [encTm, bulkRow, bulkC] at hb
    simp only [okTm] at ht
    simp only [Tm.args] at hx
    obtain ⟨i, hi⟩ := List.getElem?_of_mem hx
    have hi' : (encTms args)[i]? = some (encTm x) := by rw [encTms_get, hi]; rfl
    have h1 := nodes_get hi'
    have h2 := bulk_get hi'
    exact ih x (by omega) (ht.2.2.2.mem hx) (by omega) us hus hl2
theorem con_specVars {t : Tm} (ht : okTm t) (hb : bulkRow (encTm t) ≤ 1048576) : Con e0 84 [.agg (encTm t)] [.one (.sl (encTms (varsOf t)))] := by
  have hv := vars_len t
  have hcon := con_l5Collect_n _ t (Nat.lt_succ_self _) ht hb [] trivial (by simp; omega)
  have hcon := con_clip2 (by rw [encTms_nil'] at hcon; exact hcon)
  rw [show colT (varsTm t) [] = varsOf t from rfl] at hcon
  refine gI (ts := [.slot 2]) 7 Tryz.func84 ?_
  (have F := @tmz; refine gG ?_; clear F)
  refine gB ?_
  (have F := @tmz; refine gC (hcon) ?_; clear F)
  (have F := @tmz; refine gR ?_; clear F)
  (have F := @tmz; refine gG ?_; exact gTd)
end Go.Proofs.YtofklmbljbkdaaaGreat
namespace Go.Proofs.YtofklmbljbkdaaaGreat
open Go.RowKit
theorem okTms_dist {l : List Tm} (h : okTms l) : okTms (distTm l) := colT_ok (r := []) h trivial
theorem okTms_vars {t : Tm} (h : okTm t) : okTms (varsOf t) := okTms_dist (varsTm_ok h)
theorem dist_len (l : List Tm) : (distTm l).length ≤ l.length := by have := colT_len l []; simpa [colT, distTm] using this
theorem varsOf_len (t : Tm) : (varsOf t).length ≤ 1 + bulkRow (encTm t) := Nat.le_trans (dist_len _) (vars_len t)
end Go.Proofs.YtofklmbljbkdaaaGreat
namespace Go.Proofs.YtofklmbljbkdaaaGreat
open Go.RowKit
theorem mem_varsOf {t v : Tm} : v ∈ varsTm t → v ∈ varsOf t := fun h => mem_distTm.2 h
set_option maxHeartbeats 8000000 in
set_option maxRecDepth 100000 in
theorem con_implIsTerm {g : Sgn} {t : Tm} (hok : okSgn g) (ht : okTm t) (hb : bulkRow (encTm t) ≤ 1048576) : Con e0 88 [.agg (encSgn g), .agg (encTm t)] [.one (.lit (.bool (isSgn g && isTerm g t)))] := by
  by_cases hg : SgnOk g
  rotate_left
  · have hf : isSgn g = false := isSgn_false hg
    have c := con_newAlg_not hok hg
    rw [encSgn] at c
    refine gI 127 Tryz.func88 ?_
    (have F := And.intro @tmz @encSgn_u; refine gG ?_; clear F)
    refine gB ?_
    (have F := @tmz; refine gC (c) ?_; clear F)
    (have F := @tmz; refine gR ?_; clear F)
    (have F := And.intro @tmz @hf; refine gG ?_; exact gT)
  have hs := isSgn_true hg
  have c := conE_newAlg hok hg
  rw [encSgn] at c
  refine gI 127 Tryz.func88 ?_
  (have F := And.intro @tmz @encSgn_u; refine gG ?_; clear F)
  refine gB ?_
  (have F := @tmz; refine gCE (c) ?_; clear F)
  rintro r ⟨b, rfl⟩
  have c1 := con_implIsT (mc := .lit (.map (some b))) hg ht (big_of_bulk hb)
  generalize C.lit (.map (some b)) = mc at c1 ⊢
  (have F := And.intro @retA_u @sa_some; refine gR ?_; clear F)
  (have F := @tmz; refine gG ?_; clear F)
  refine gB ?_
  (have F := @tmz; refine gC (c1) ?_; clear F)
  (have F := @tmz; refine gR ?_; clear F)
  (have F := And.intro @tmz @hs; refine gG ?_; exact gT)
section
variable {g : Sgn} {a : Alg} {t : Tm} {xs : List Int}
end
end Go.Proofs.YtofklmbljbkdaaaGreat
namespace Go.Proofs.YtofklmbljbkdaaaGreat
open Go.RowKit
end Go.Proofs.YtofklmbljbkdaaaGreat
namespace Go.Proofs.YtofklmbljbkdaaaGreat
open Go.RowKit
end Go.Proofs.YtofklmbljbkdaaaGreat
namespace Go.Proofs.YtofklmbljbkdaaaGreat
open Go.RowKit
theorem varsOf_nodup (t : Tm) : (varsOf t).Nodup := (distTm_asc (varsTm t)).imp fun h e => by rw [e, cmpTm_self] at h; exact absurd h (by decide)
section
variable {g : Sgn} {ws : List Wt} {a b : Tm}
end
end Go.Proofs.YtofklmbljbkdaaaGreat
namespace Go.Proofs.YtofklmbljbkdaaaGreat
open Go.RowKit
theorem okIntRow {a : Int} (h : I64 a) : okRow (fieldsOf .int) (encInt a) := mkRow_Int h
section
variable {g : Sgn} {ws : List Wt} {t : Tm}
open Classical in
noncomputable def wfB (g : Sgn) (ws : List Wt) (t : Tm) : Bool := decide (isIn g ws = true ∧ isTerm g t = true ∧ okW g ws (varsOf t) t)
noncomputable def wfN (g : Sgn) (ws : List Wt) (t : Tm) : Int := if wfB g ws t = true then wN g ws t else 0
noncomputable def wfL (g : Sgn) (ws : List Wt) (t : Tm) : List Int := if wfB g ws t = true then (varsOf t).map fun v => wF g ws v t else []
theorem wf_yes (h1 : isIn g ws = true) (h2 : isTerm g t = true) (h3 : okW g ws (varsOf t) t) : wfB g ws t = true ∧ wfN g ws t = wN g ws t ∧ (wfL g ws t).map encInt = numR (fun v => wF g ws v t) (varsOf t) := by
  have hb : wfB g ws t = true := by simp [wfB, h1, h2, h3]
  exact ⟨hb, by rw [wfN, if_pos hb], by rw [wfL, if_pos hb, numR, List.map_map]; rfl⟩
theorem wf_no (h : ¬ (isIn g ws = true ∧ isTerm g t = true ∧ okW g ws (varsOf t) t)) : wfB g ws t = false ∧ wfN g ws t = 0 ∧ (wfL g ws t).map encInt = [] := by
  have hb : wfB g ws t = false := by simp only [wfB, decide_eq_false_iff_not]; exact h
  exact ⟨hb, by rw [wfN, hb]; rfl, by rw [wfL, hb]; rfl⟩
set_option maxHeartbeats 8000000 in
set_option maxRecDepth 100000 in
theorem con_specWF (hok : okSgn g) (hwl : ws.length ≤ 1048576) (ht : okTm t) (hb : bulkRow (encTm t) ≤ 1048576) : Con e0 27 [.agg (encSgn g), .one (.sl (ws.map encWt)), .agg (encTm t)] [.one (.lit (.int .i64 (wfN g ws t))), .one (.sl ((wfL g ws t).map encInt)), .one (.lit (.bool (wfB g ws t)))] := by
  have cI := con_specIn (ws := ws) hok hwl
  have cT := con_specIsTerm hok ht (big_of_bulk hb)
  have cV := con_specVars ht hb
  have hvt := vars_len2 hb
  have hvl := varsOf_len t
  rw [encSgn] at cI cT ⊢
  refine gI 4297068527 Tryz.func27 ?_
  (have F := @tmz; refine gG ?_; clear F)
  refine gB ?_
  (have F := @tmz; refine gC (cI) ?_; clear F)
  cases hI : isIn g ws with
  | false =>
    obtain ⟨h1, h2, h3⟩ := wf_no (g := g) (ws := ws) (t := t) fun h => by rw [hI] at h; cases h.1
    rw [h1, h2, h3]
    (have F := @tmz; refine gR ?_; clear F)
    (have F := @tmz; refine gG ?_; exact gTz [7])
  | true =>
  have hII := isIn_iff.1 hI
  rw [isSgn_true hII.sgn, Bool.true_and] at cT
  (have F := @tmz; refine gC (cT) ?_; clear F)
  cases hT : isTerm g t with
  | false =>
    obtain ⟨h1, h2, h3⟩ := wf_no (g := g) (ws := ws) (t := t) fun h => by rw [hT] at h; cases h.2.1
    rw [h1, h2, h3]
    (have F := @tmz; refine gR ?_; clear F)
    (have F := @tmz; refine gG ?_; exact gTz [7])
  | true =>
  have cW := con_specW_all (vs := varsOf t) hII (by omega) (okTms_vars ht) (sizeTm t + 1) t (Nat.lt_succ_self _) ht (isTerm_iff.1 hT).form
  (have F := @tmz; refine gR ?_; clear F)
  (have F := @tmz; refine gG ?_; clear F)
  refine gB ?_
  (have F := @tmz; refine gC (cV) ?_; clear F)
  by_cases hk : okW g ws (varsOf t) t
  · obtain ⟨h1, h2, h3⟩ := wf_yes hI hT hk
    rw [wOut_ok hk] at cW
    rw [h1, h2, h3]
    (have F := @tmz; refine gC (cW) ?_; clear F)
    (have F := @tmz; refine gP 4 ?_; clear F)
    refine (have F := hI; gAq ?_)
    refine (have F := hI; gAq ?_)
    (have F := @tmz; refine gR ?_; clear F)
    (have F := @tmz; refine gG ?_; exact gT)
  · obtain ⟨h1, h2, h3⟩ := wf_no (g := g) (ws := ws) (t := t) fun h => hk h.2.2
    rw [wOut_no hk] at cW
    rw [h1, h2, h3]
    (have F := @tmz; refine gC (cW) ?_; clear F)
    (have F := @tmz; refine gP 4 ?_; clear F)
    refine (have F := hI; gAq ?_)
    refine (have F := hI; gAq ?_)
    (have F := @tmz; refine gR ?_; clear F)
    (have F := @tmz; refine gG ?_; exact gTz [7])
end
abbrev WX := { x : Value × (Nat → Prop) // okCell (.lit x.1) = true }
def wx0 : WX := ⟨(.bool false, fun _ => False), rfl⟩
def wxS (g : Sgn) (ws : List Wt) (t : Tm) (n : Int) (ok : Bool) (x : WX) : Nat → List (Nat × A)
  | 0 => [(19, .d (.agg (encSgn g)))]
  | 1 => [(20, .d (.one (.sl (ws.map encWt))))]
  | 2 => [(21, .d (.agg (encTm t)))]
  | 3 => [(22, .d (.agg (encTm t)))]
  | 4 => [(23, .d (.one (.sl (encTms (varsOf t)))))]
  | 5 => [(24, .tup [.one (.lit (.int .i64 n)), .one (.lit x.1.1), .one (.lit (.bool ok))])]
  | 6 => [(25, .d (.one (.lit (.int .i64 n))))]
  | 7 => [(26, .d (.one (.lit x.1.1)))]
  | 8 => [(27, .d (.one (.lit (.bool ok))))]
  | 9 => [(6, .d (.one (.lit (.int .i64 n))))]
  | 10 => [(7, .d (.one (.lit x.1.1)))]
  | 11 => [(8, .d (.one (.lit (.bool ok))))]
  | _ => []
def wxM (rows : List (List C)) (x : WX) : Nat → List (Nat × Bk)
  | 5 => [(1100, .set x.1.2 (fun w => Own w (.sl rows) x.1.2 x.1.1))]
  | 7 => [(1100, .set x.1.2 (fun w => Own w (.sl rows) x.1.2 x.1.1))]
  | 10 => [(1100, .set x.1.2 (fun w => Own w (.sl rows) x.1.2 x.1.1))]
  | _ => []
def wxB (g : Sgn) (ws : List Wt) (t : Tm) (σ : St) : Prop := Lks [(1, .d (.one (.sl (ws.map encWt)))), (3, .ref 3 0), (5, .ref 5 0)] [(3, .var none (encSgn g)), (5, .var none (encTm t))] σ
section
variable {g : Sgn} {ws : List Wt} {t : Tm}
set_option maxHeartbeats 8000000 in
set_option maxRecDepth 100000 in
theorem conP_implWF (hok : okSgn g) (hwl : ws.length ≤ 1048576) (ht : okTm t) (hb : bulkRow (encTm t) ≤ 1048576) : ConP e0 30 [.agg (encSgn g), .one (.sl (ws.map encWt)), .agg (encTm t)] [] (RTree3 (wfN g ws t) ((wfL g ws t).map encInt) (wfB g ws t)) := by
  have cI := con_implIn (ws := ws) hok hwl
  have cT := con_implIsTerm hok ht hb
  have cV := con_implVars t hb
  have hvt := vars_len2 hb
  have hvl := varsOf_len t
  have cX := fun h1 => conP_implW (g := g) (ws := ws) (vs := varsOf t) h1 (by omega) (varsOf_nodup t) t
  rw [encSgn] at cI cT cX ⊢
  refine gIP (ts := [.slot 6, .slot 7, .slot 8]) [] 262639 Tryz.func30 ?_
  (have F := @tmz; refine gG ?_; clear F)
  refine gB ?_
  (have F := @tmz; refine gC (cI) ?_; clear F)
  cases hI : isIn g ws with
  | false =>
    obtain ⟨h1, h2, h3⟩ := wf_no (g := g) (ws := ws) (t := t) fun h => by rw [hI] at h; cases h.1
    rw [h1, h2, h3]
    (have F := @tmz; refine gR ?_; clear F)
    (have F := @tmz; refine gG ?_; clear F)
    refine pS 7 (fun a cap => ?_)
    obtain ⟨E9, hre⟩ := re_rows (a := a) (cap := cap) (ety := 3) (sz := 1) (rows := []) (us := []) rfl
    refine pE [7] [7] hre ?_
    exact (have F := hI; gTP (R := RTree3 0 [] false) [7] ⟨_, E9, rfl, rfl, rfl⟩)
  | true =>
  have hII := isIn_iff.1 hI
  rw [isSgn_true hII.sgn, Bool.true_and] at cT
  (have F := @tmz; refine gC (cT) ?_; clear F)
  cases hT : isTerm g t with
  | false =>
    obtain ⟨h1, h2, h3⟩ := wf_no (g := g) (ws := ws) (t := t) fun h => by rw [hT] at h; cases h.2.1
    rw [h1, h2, h3]
    (have F := @tmz; refine gR ?_; clear F)
    (have F := @tmz; refine gG ?_; clear F)
    refine pS 7 (fun a cap => ?_)
    obtain ⟨E9, hre⟩ := re_rows (a := a) (cap := cap) (ety := 3) (sz := 1) (rows := []) (us := []) rfl
    refine pE [7] [7] hre ?_
    exact (have F := hI; gTP (R := RTree3 0 [] false) [7] ⟨_, E9, rfl, rfl, rfl⟩)
  | true =>
  have cW := cX hII (isTerm_iff.1 hT).form fun v hv => mem_varsOf hv
  (have F := @tmz; refine gR ?_; clear F)
  (have F := @tmz; have NN : StopAt 3 := trivial; refine gGn ?_; clear F NN)
  obtain ⟨n, rows, ok, hWT, h1, h2, h3⟩ : ∃ n rows ok, wTree g ws (varsOf t) t = RTree3 n rows ok ∧ wfB g ws t = ok ∧ wfN g ws t = n ∧ (wfL g ws t).map encInt = rows := by
    by_cases hk : okW g ws (varsOf t) t
    · exact ⟨_, _, _, wTree_ok hk, wf_yes hI hT hk⟩
    · exact ⟨_, _, _, wTree_no hk, wf_no fun h => hk h.2.2⟩
  rw [hWT] at cW
  rw [h1, h2, h3]
  refine gGd (wxB g ws t) (PG (wxS g ws t n ok) (wxM rows)) ⟨by simp [gs], by simp [gm, encSgn]⟩ ⟨?_, ?_, ?_, ?_, ?_, ?_, ?_, ?_, ?_, ?_, ?_, ?_, trivial⟩ ?_
  rotate_right
  all_goals (intro s' m' hB)
  all_goals (have g1 : gs s' 1 = .d (.one (.sl (ws.map encWt))) := hB.1 (1, _) (by simp))
  all_goals (have g3 : gs s' 3 = .ref 3 0 := hB.1 (3, _) (by simp))
  all_goals (have g5 : gs s' 5 = .ref 5 0 := hB.1 (5, _) (by simp))
  all_goals (have k3 : gm m' 3 = some (.var none [.sl (g.sorts.names.map encStr), .sl (g.sorts.subs.map encSub), .sl (g.ops.map encOpr)]) := hB.2 (3, _) (by simp [encSgn]))
  all_goals (have k5 : gm m' 5 = some (.var none (encTm t)) := hB.2 (5, _) (by simp))
  · intro hP
    obtain ⟨x9, q9⟩ := hP 9 (by decide)
    obtain ⟨x10, q10⟩ := hP 10 (by decide)
    obtain ⟨x11, q11⟩ := hP 11 (by decide)
    refine ⟨_, _, (q9.app q10).app q11, ?_⟩
    simp only [wxS, wxM, List.cons_append, List.nil_append]
    obtain ⟨⟨v, E⟩, hcv⟩ := x10
    clear g1 g3 g5 k3 k5 hB hP q9 q10 q11 x9 x11
    refine ⟨_, Wk.refl _, ?_⟩
    exact (have F := hcv; gTP (R := RTree3 n rows ok) [1100] ⟨v, E, rfl, hcv, rfl⟩)
  · intro _
    refine (have F := And.intro g3 k3; gO3 ?_)
    exact ⟨hB.slot rfl, ⟨wx0, by simp [wxS, gs, encSgn], by simp [wxM]⟩, PG.slot (by intro j h1 h2 x; rcases j with _ | _ | _ | _ | _ | _ | _ | _ | _ | _ | _ | _ | j <;> first | rfl | exact absurd rfl h1 | exact absurd (by decide) h2)⟩
  · intro _
    refine (have F := g1; gO3 ?_)
    exact ⟨hB.slot rfl, ⟨wx0, by simp [wxS, gs], by simp [wxM]⟩, PG.slot (by intro j h1 h2 x; rcases j with _ | _ | _ | _ | _ | _ | _ | _ | _ | _ | _ | _ | j <;> first | rfl | exact absurd rfl h1 | exact absurd (by decide) h2)⟩
  · intro _
    refine (have F := And.intro g5 (And.intro k5 tmz); gO3 ?_)
    exact ⟨hB.slot rfl, ⟨wx0, by simp [wxS, gs], by simp [wxM]⟩, PG.slot (by intro j h1 h2 x; rcases j with _ | _ | _ | _ | _ | _ | _ | _ | _ | _ | _ | _ | j <;> first | rfl | exact absurd rfl h1 | exact absurd (by decide) h2)⟩
  · intro _
    refine (have F := And.intro g5 (And.intro k5 tmz); gO3 ?_)
    exact ⟨hB.slot rfl, ⟨wx0, by simp [wxS, gs], by simp [wxM]⟩, PG.slot (by intro j h1 h2 x; rcases j with _ | _ | _ | _ | _ | _ | _ | _ | _ | _ | _ | _ | j <;> first | rfl | exact absurd rfl h1 | exact absurd (by decide) h2)⟩
  · intro hP
    obtain ⟨f, h0, _⟩ := hP 3 (by decide)
    have g22 : gs s' 22 = .d (.agg (encTm t)) := h0 (_, _) (by simp [wxS])
    refine (have F := g22; gC cV ?_)
    refine runs_nil ?_
    exact ⟨hB.slot rfl, ⟨wx0, by simp [wxS, gs], by simp [wxM]⟩, PG.slot (by intro j h1 h2 x; rcases j with _ | _ | _ | _ | _ | _ | _ | _ | _ | _ | _ | _ | j <;> first | rfl | exact absurd rfl h1 | exact absurd (by decide) h2)⟩
  · intro hP
    obtain ⟨_, q0, _⟩ := hP 0 (by decide)
    obtain ⟨_, q1, _⟩ := hP 1 (by decide)
    obtain ⟨_, q2, _⟩ := hP 2 (by decide)
    obtain ⟨_, q4, _⟩ := hP 4 (by decide)
    have g19 : gs s' 19 = .d (.agg [.sl (g.sorts.names.map encStr), .sl (g.sorts.subs.map encSub), .sl (g.ops.map encOpr)]) := q0 (_, _) (by simp [wxS, encSgn])
    have g20 : gs s' 20 = .d (.one (.sl (ws.map encWt))) := q1 (_, _) (by simp [wxS])
    have g21 : gs s' 21 = .d (.agg (encTm t)) := q2 (_, _) (by simp [wxS])
    have g23 : gs s' 23 = .d (.one (.sl (encTms (varsOf t)))) := q4 (_, _) (by simp [wxS])
    refine (have F := And.intro g19 (And.intro g20 (And.intro g21 g23)); gCP [] [1100] cW ?_)
    rintro r pm ⟨v, E, rfl, hcv, rfl⟩
    simp only [setA, retA, zipM, List.cons_append, List.nil_append]
    refine runs_nil ?_
    exact ⟨hB.bornK rfl, ⟨⟨(v, E), hcv⟩, by simp [wxS, gs], by simp [wxM, gm]⟩, PG.bornK (by intro j h1 h2 x; rcases j with _ | _ | _ | _ | _ | _ | _ | _ | _ | _ | _ | _ | j <;> first | rfl | exact absurd rfl h1 | exact absurd (by decide) h2)⟩
  · intro hP
    obtain ⟨x, q, _⟩ := hP 5 (by decide)
    have g24 : gs s' 24 = .tup [.one (.lit (.int .i64 n)), .one (.lit x.1.1), .one (.lit (.bool ok))] := q (_, _) (by simp [wxS])
    refine (have F := g24; gO3 ?_)
    exact ⟨hB.slot rfl, ⟨wx0, by simp [wxS, gs], by simp [wxM]⟩, PG.slot (by intro j h1 h2 x; rcases j with _ | _ | _ | _ | _ | _ | _ | _ | _ | _ | _ | _ | j <;> first | rfl | exact absurd rfl h1 | exact absurd (by decide) h2)⟩
  · intro hP
    obtain ⟨x, q, qm⟩ := hP 5 (by decide)
    have g24 : gs s' 24 = .tup [.one (.lit (.int .i64 n)), .one (.lit x.1.1), .one (.lit (.bool ok))] := q (_, _) (by simp [wxS])
    have kx := qm (1100, _) (by simp [wxM]; rfl)
    refine (have F := And.intro g24 x.2; gO3 ?_)
    exact ⟨hB.slot rfl, ⟨x, by simp [wxS, gs], by simp [wxM]; exact kx⟩, PG.slot (by intro j h1 h2 x; rcases j with _ | _ | _ | _ | _ | _ | _ | _ | _ | _ | _ | _ | j <;> first | rfl | exact absurd rfl h1 | exact absurd (by decide) h2)⟩
  · intro hP
    obtain ⟨x, q, _⟩ := hP 5 (by decide)
    have g24 : gs s' 24 = .tup [.one (.lit (.int .i64 n)), .one (.lit x.1.1), .one (.lit (.bool ok))] := q (_, _) (by simp [wxS])
    refine (have F := g24; gO3 ?_)
    exact ⟨hB.slot rfl, ⟨wx0, by simp [wxS, gs], by simp [wxM]⟩, PG.slot (by intro j h1 h2 x; rcases j with _ | _ | _ | _ | _ | _ | _ | _ | _ | _ | _ | _ | j <;> first | rfl | exact absurd rfl h1 | exact absurd (by decide) h2)⟩
  · intro hP
    obtain ⟨x, q, _⟩ := hP 6 (by decide)
    have g25 : gs s' 25 = .d (.one (.lit (.int .i64 n))) := q (_, _) (by simp [wxS])
    refine (have F := g25; gO3 ?_)
    exact ⟨hB.slot rfl, ⟨wx0, by simp [wxS, gs], by simp [wxM]⟩, PG.slot (by intro j h1 h2 x; rcases j with _ | _ | _ | _ | _ | _ | _ | _ | _ | _ | _ | _ | j <;> first | rfl | exact absurd rfl h1 | exact absurd (by decide) h2)⟩
  · intro hP
    obtain ⟨x, q, qm⟩ := hP 7 (by decide)
    have g26 : gs s' 26 = .d (.one (.lit x.1.1)) := q (_, _) (by simp [wxS])
    have kx := qm (1100, _) (by simp [wxM]; rfl)
    refine (have F := And.intro g26 x.2; gO3 ?_)
    exact ⟨hB.slot rfl, ⟨x, by simp [wxS, gs], by simp [wxM]; exact kx⟩, PG.slot (by intro j h1 h2 x; rcases j with _ | _ | _ | _ | _ | _ | _ | _ | _ | _ | _ | _ | j <;> first | rfl | exact absurd rfl h1 | exact absurd (by decide) h2)⟩
  · intro hP
    obtain ⟨x, q, _⟩ := hP 8 (by decide)
    have g27 : gs s' 27 = .d (.one (.lit (.bool ok))) := q (_, _) (by simp [wxS])
    refine (have F := g27; gO3 ?_)
    exact ⟨hB.slot rfl, ⟨wx0, by simp [wxS, gs], by simp [wxM]⟩, PG.slot (by intro j h1 h2 x; rcases j with _ | _ | _ | _ | _ | _ | _ | _ | _ | _ | _ | _ | j <;> first | rfl | exact absurd rfl h1 | exact absurd (by decide) h2)⟩
theorem okRows_wf : okRows (fieldsOf .int) ((wfL g ws t).map encInt) := by
  refine okL (p := I64) (fun a h => okIntRow h) fun x hx => ?_
  by_cases hb : wfB g ws t = true
  · rw [wfL, if_pos hb] at hx
    obtain ⟨v, hv, rfl⟩ := List.mem_map.1 hx
    simp only [wfB, decide_eq_true_eq] at hb
    obtain ⟨h1, h2, h3⟩ := hb
    have h4 := (w_nonneg (isIn_iff.1 h1) (sizeTm t + 1) t (Nat.lt_succ_self _) (isTerm_iff.1 h2).form).2 v
    have h5 := h3.2 v hv
    unfold I64
    omega
  · rw [wfL, if_neg hb] at hx
    cases hx
theorem big_wf (b : bulkRow (encTm t) ≤ 1048576) : ((wfL g ws t).map encInt).length + bulkRows ((wfL g ws t).map encInt) ≤ 1048576 := by
  rw [ints_bulk okRows_wf, List.length_map, wfL]
  split
  · rw [List.length_map]
    exact Nat.le_trans (dist_len _) (vars_len2 b)
  · exact Nat.zero_le _
end
end Go.Proofs.YtofklmbljbkdaaaGreat
namespace Go.Proofs.YtofklmbljbkdaaaGreat
open Go.RowKit
theorem conP_toSignature {row : List C} (hok : okRow (sigF) row) (hb : bulkRow row ≤ 1048576) : ConP e0 28 [.agg row] [] (RTree row) :=
  conP_tree (by kernel_rfl) hok.cells fun w S vs h => by
    match vs, h with
    | [v], h =>
      obtain ⟨⟨us, rfl, hu⟩, _⟩ := h
      exact toSignature_any row S us w hok hu hb
theorem conP_toWeightS {rows : List (List C)} (hok : okRows (fieldsOf .weight) rows) (hb : rows.length + bulkRows rows ≤ 1048576) : ConP e0 20 [.one (.sl rows)] [] (RTreeS rows) :=
  conP_treeS (by kernel_rfl) fun w S vs h => by
    match vs, h with
    | [v], h =>
      obtain ⟨hv, _⟩ := h
      exact toWeightS_any rows S v w hok hv hb
theorem RTree3.lits {n : Int} {rows : List (List C)} {b : Bool} {r : List D} {q : List Bk} (h : RTree3 n rows b r q) : r.all litD = true ∧ q.all isSet = true := by
  obtain ⟨v, E, rfl, _, rfl⟩ := h
  exact ⟨rfl, rfl⟩
set_option maxHeartbeats 8000000 in
set_option maxRecDepth 100000 in
theorem heldIntS_all {rows : List (List C)} (hok : okRows (fieldsOf .int) rows) (hmx : rows.length ≤ 1048576) : HeldS 38 rows := by
  intro k hk hb
  have hrb : rowsB 1 (mkRows k rows) = true := rb_mk k hok.rowsLen
  have hml := mkRows_len k rows
  refine gI (ts := [.slot 4]) 131635 Tryz.func38 ?_
  (have F := @e0P; refine gG ?_; clear F)
  (have F := And.intro @mkRows_nil (And.intro @cnt_nil (And.intro @Int.add_zero @Int.natCast_zero)); refine gL (ι := Nat) [1, 4, 5, 9, 17] [] (fun x => [(5, .d (.one (.lit (.int .i64 (x : Int))))), (1, .d (.one (.lit (.int .i64 (k + (cntRows (rows.take x) : Nat))))))]) (fun x => []) (fun x => x ≤ rows.length) (fun x => rows.length - x) (0) (Nat.zero_le _) (fun x hx => ?_); clear F)
  by_cases hlt : x < rows.length
  · obtain ⟨r, hr⟩ : ∃ r, rows[x]? = some r := ⟨_, List.getElem?_eq_getElem hlt⟩
    obtain ⟨i0, rfl, _⟩ := okRow_Int (hok.get hr)
    have hc1 : cntRows (rows.take (x + 1)) = cntRows (rows.take x) + 1 := by
      rw [tk_snoc hr, cnt_snoc]; simp only [cntRow, cntC]
    have hc2 := cnt_take_le rows (x + 1)
    have hg := mkRows_get k hr
    simp only [mkRow, mkC, mkV, cntC, Int.natCast_one] at hg
    have e5 : k + (cntRows (rows.take (x + 1)) : Int) = k + (cntRows (rows.take x) : Int) + 1 := by rw [hc1]; omega
    have b1 : k + (cntRows (rows.take x) : Int) + 1 ≤ 1000000000 := by omega
    have b0 : 0 ≤ k + (cntRows (rows.take x) : Int) := by omega
    generalize k + (cntRows (rows.take x) : Int) = kk at hg e5 b1 b0 ⊢
    have q1 : ((x : Int) < (rows.length : Int)) = True := eq_true (by omega)
    have w1 : IntKind.i64.wrap (kk + 1) = kk + 1 := IntWalk.i64_in _ (by omega)
    have w4 : IntKind.i64.wrap ((x : Int) + 1) = (x : Int) + 1 := IntWalk.i64_in _ (by omega)
    (have F := And.intro @q1 (And.intro @hml (And.intro @hrb (And.intro @hg (And.intro @beq_self_eq_true.{0} (And.intro @w1 (And.intro @w4 @e5)))))); refine gG ?_; exact ⟨x + 1, hlt, gw, gw, by omega⟩)
  · obtain rfl : x = rows.length := by omega
    have q1 : ((rows.length : Int) < (rows.length : Int)) = False := eq_false (by omega)
    rw [List.take_length]
    (have F := And.intro @q1 @hml; refine gG ?_; exact gTd)
end Go.Proofs.YtofklmbljbkdaaaGreat
namespace Go.Proofs.YtofklmbljbkdaaaGreat
open Go.RowKit
abbrev MX := { x : Value × (Nat → Prop) // okCell (.lit x.1) = true }
def mx0 : MX := ⟨(.bool false, fun _ => False), rfl⟩
def mWeightFormS (row0 : List C) (rows1 : List (List C)) (row2 : List C) (R0 : Int) (wr : List (List C)) (R2 : Bool) (x : MX) : Nat → List (Nat × A)
  | 0 => [(131, .d (.agg row0))]
  | 1 => [(132, .d (.agg row0))]
  | 2 => [(133, .d (.one (.sl rows1)))]
  | 3 => [(134, .d (.one (.sl rows1)))]
  | 4 => [(135, .d (.agg row2))]
  | 5 => [(136, .d (.agg row2))]
  | 6 => [(137, .tup [.one (.lit (.int .i64 R0)), .one (.lit x.1.1), .one (.lit (.bool R2))])]
  | 7 => [(130, .tup [.one (.lit (.int .i64 R0)), .one (.lit x.1.1), .one (.lit (.bool R2))])]
  | 8 => [(138, .d (.one (.lit (.int .i64 R0))))]
  | 9 => [(139, .d (.one (.lit x.1.1)))]
  | 10 => [(140, .d (.one (.lit (.bool R2))))]
  | 11 => [(20, .d (.one (.lit (.int .i64 R0))))]
  | 12 => [(21, .d (.one (.lit x.1.1)))]
  | 13 => [(22, .d (.one (.lit (.bool R2))))]
  | _ => []
def mWeightFormM (wr : List (List C)) (x : MX) : Nat → List (Nat × Bk)
  | 6 => [(1200, .set x.1.2 (fun w => Own w (.sl wr) x.1.2 x.1.1))]
  | 7 => [(1200, .set x.1.2 (fun w => Own w (.sl wr) x.1.2 x.1.1))]
  | 9 => [(1200, .set x.1.2 (fun w => Own w (.sl wr) x.1.2 x.1.1))]
  | 12 => [(1200, .set x.1.2 (fun w => Own w (.sl wr) x.1.2 x.1.1))]
  | _ => []
set_option maxHeartbeats 40000000 in
set_option maxRecDepth 100000 in
theorem con_lawWeightForm {row0 : List C} (hok0 : okRow (sigF) row0) {rows1 : List (List C)} (hok1 : okRows (fieldsOf .weight) rows1) {row2 : List C} (hok2 : okRow (fieldsOf .term) row2) {R0 : Int} {wr : List (List C)} (hokw : okRows (fieldsOf .int) wr) {R2 : Bool} (hBw0 : bulkRow row0 ≤ 1048576 → rows1.length + bulkRows rows1 ≤ 1048576 → bulkRow row2 ≤ 1048576 → (bulkRow row0) + (rows1.length + bulkRows rows1) + (bulkRow row2) ≤ 1048576 → wr.length + bulkRows wr ≤ 1048576) (hsp0 : bulkRow row0 ≤ 1048576 → rows1.length + bulkRows rows1 ≤ 1048576 → bulkRow row2 ≤ 1048576 → (bulkRow row0) + (rows1.length + bulkRows rows1) + (bulkRow row2) ≤ 1048576 → Con e0 27 [.agg row0, .one (.sl rows1), .agg row2] [.one (.lit (.int .i64 R0)), .one (.sl wr), .one (.lit (.bool R2))]) (him0 : bulkRow row0 ≤ 1048576 → rows1.length + bulkRows rows1 ≤ 1048576 → bulkRow row2 ≤ 1048576 → (bulkRow row0) + (rows1.length + bulkRows rows1) + (bulkRow row2) ≤ 1048576 → ConP e0 30 [.agg row0, .one (.sl rows1), .agg row2] [] (RTree3 R0 wr R2)) : Con e0 6 [.agg row0, .one (.sl rows1), .agg row2] [.one (.lit (.bool true))] := by
  have okc0 := hok0.cells
  obtain ⟨len0, tk0, dr0⟩ := hok0.take (n := 3) rfl
  have okc2 := hok2.cells
  obtain ⟨len2, tk2, dr2⟩ := hok2.take (n := 4) rfl
  refine gI 6599593331838326122587127839235813381251897753583 Tryz.func6 ?_
  (have F := And.intro @okc0 (And.intro @len0 (And.intro @tk0 (And.intro @dr0 (And.intro @okc2 (And.intro @len2 (And.intro @tk2 (And.intro @dr2 @drop0))))))); refine gG ?_; clear F)
  have hL0_0 : (0 : Int) ≤ 1048576 := by omega
  have hL0_1 : (1048576 : Int) ≤ 1048576 := by omega
  refine gB ?_
  (have F := And.intro @okc0 (And.intro @len0 (And.intro @tk0 (And.intro @dr0 (And.intro @okc2 (And.intro @len2 (And.intro @tk2 (And.intro @dr2 @drop0))))))); refine gC (con_szSignature hok0 hL0_0 hL0_1) ?_; clear F)
  (have F := And.intro @okc0 (And.intro @len0 (And.intro @tk0 (And.intro @dr0 (And.intro @okc2 (And.intro @len2 (And.intro @tk2 (And.intro @dr2 @drop0))))))); refine gR ?_; clear F)
  by_cases hb0 : ((bulkRow row0 : Nat) : Int) ≤ 1048576
  rotate_left
  · have n1 : sub 1048576 (bulkRow row0 : Nat) = -1 := sub_neg (by omega)
    have n2 : (-1 : Int) < 0 := by omega
    (have F := And.intro @n1 @n2; refine gG ?_; exact gT)
  have nq : sub 1048576 (bulkRow row0 : Nat) = 1048576 - ((bulkRow row0 : Nat) : Nat) := sub_pos (by omega)
  rw [nq]
  clear nq
  have hB0 : bulkRow row0 ≤ 1048576 := by omega
  have hL1_0 : (0 : Int) ≤ 1048576 - ((bulkRow row0 : Nat) : Nat) := by omega
  have hL1_1 : (1048576 : Int) - ((bulkRow row0 : Nat) : Nat) ≤ 1048576 := by omega
  generalize hgl0 : (1048576 : Int) - ((bulkRow row0 : Nat) : Nat) = L1 at *
  have n2 : ¬ (L1 < 0) := by omega
  (have F := And.intro @n2 (And.intro @okc0 (And.intro @len0 (And.intro @tk0 (And.intro @dr0 (And.intro @okc2 (And.intro @len2 (And.intro @tk2 (And.intro @dr2 @drop0)))))))); refine gG ?_; clear F)
  clear n2 hb0
  refine gB ?_
  (have F := And.intro @okc0 (And.intro @len0 (And.intro @tk0 (And.intro @dr0 (And.intro @okc2 (And.intro @len2 (And.intro @tk2 (And.intro @dr2 @drop0))))))); refine gC (con_szWeightS hok1 hL1_0 hL1_1) ?_; clear F)
  (have F := And.intro @okc0 (And.intro @len0 (And.intro @tk0 (And.intro @dr0 (And.intro @okc2 (And.intro @len2 (And.intro @tk2 (And.intro @dr2 @drop0))))))); refine gR ?_; clear F)
  by_cases hb1 : ((rows1.length + bulkRows rows1 : Nat) : Int) ≤ L1
  rotate_left
  · have n1 : sub L1 (rows1.length + bulkRows rows1 : Nat) = -1 := sub_neg (by omega)
    have n2 : (-1 : Int) < 0 := by omega
    (have F := And.intro @n1 @n2; refine gG ?_; exact gT)
  have nq : sub L1 (rows1.length + bulkRows rows1 : Nat) = L1 - ((rows1.length + bulkRows rows1 : Nat) : Nat) := sub_pos (by omega)
  rw [nq]
  clear nq
  have hB1 : rows1.length + bulkRows rows1 ≤ 1048576 := by omega
  have hL2_0 : (0 : Int) ≤ L1 - ((rows1.length + bulkRows rows1 : Nat) : Nat) := by omega
  have hL2_1 : (L1 : Int) - ((rows1.length + bulkRows rows1 : Nat) : Nat) ≤ 1048576 := by omega
  generalize hgl1 : (L1 : Int) - ((rows1.length + bulkRows rows1 : Nat) : Nat) = L2 at *
  have n2 : ¬ (L2 < 0) := by omega
  (have F := And.intro @n2 (And.intro @okc0 (And.intro @len0 (And.intro @tk0 (And.intro @dr0 (And.intro @okc2 (And.intro @len2 (And.intro @tk2 (And.intro @dr2 @drop0)))))))); refine gG ?_; clear F)
  clear n2 hb1
  refine gB ?_
  (have F := And.intro @okc0 (And.intro @len0 (And.intro @tk0 (And.intro @dr0 (And.intro @okc2 (And.intro @len2 (And.intro @tk2 (And.intro @dr2 @drop0))))))); refine gC (con_szTerm hok2 hL2_0 hL2_1) ?_; clear F)
  (have F := And.intro @okc0 (And.intro @len0 (And.intro @tk0 (And.intro @dr0 (And.intro @okc2 (And.intro @len2 (And.intro @tk2 (And.intro @dr2 @drop0))))))); refine gR ?_; clear F)
  by_cases hb2 : ((bulkRow row2 : Nat) : Int) ≤ L2
  rotate_left
  · have n1 : sub L2 (bulkRow row2 : Nat) = -1 := sub_neg (by omega)
    have n2 : (-1 : Int) < 0 := by omega
    (have F := And.intro @n1 @n2; refine gG ?_; exact gT)
  have nq : sub L2 (bulkRow row2 : Nat) = L2 - ((bulkRow row2 : Nat) : Nat) := sub_pos (by omega)
  rw [nq]
  clear nq
  have hB2 : bulkRow row2 ≤ 1048576 := by omega
  have hL3_0 : (0 : Int) ≤ L2 - ((bulkRow row2 : Nat) : Nat) := by omega
  have hL3_1 : (L2 : Int) - ((bulkRow row2 : Nat) : Nat) ≤ 1048576 := by omega
  generalize hgl2 : (L2 : Int) - ((bulkRow row2 : Nat) : Nat) = L3 at *
  have n2 : ¬ (L3 < 0) := by omega
  (have F := And.intro @n2 (And.intro @okc0 (And.intro @len0 (And.intro @tk0 (And.intro @dr0 (And.intro @okc2 (And.intro @len2 (And.intro @tk2 (And.intro @dr2 @drop0)))))))); refine gG ?_; clear F)
  clear n2 hb2
  have hBt : (bulkRow row0) + (rows1.length + bulkRows rows1) + (bulkRow row2) ≤ 1048576 := by omega
  have hsp := hsp0 hB0 hB1 hB2 hBt
  have him := him0 hB0 hB1 hB2 hBt
  have hBw := hBw0 hB0 hB1 hB2 hBt
  have hcw : cntRows wr ≤ 16 * (wr.length + bulkRows wr) := cnt_okRows _ _ (fields_le _) hokw
  have cE := con_eqIntS hokw
  have cT0 := con_toSignature hok0 hB0
  have cP0 := conP_toSignature hok0 hB0
  have cQ0 := con_eqSignature hok0
  have hc0 : cntTop row0 ≤ 16 * bulkRow row0 := cntTop_ok _ _ hok0
  have cT1 := con_toWeightS hok1 hB1
  have cP1 := conP_toWeightS hok1 hB1
  have cQ1 := con_eqWeightS hok1
  have hc1 : cntRows rows1 ≤ 16 * (rows1.length + bulkRows rows1) := cnt_okRows _ _ (fields_le _) hok1
  have cT2 := con_toTerm hok2 hB2
  have cP2 := conP_toTerm hok2 hB2
  have cQ2 := con_eqTerm hok2
  have hc2 : cntTop row2 ≤ 16 * bulkRow row2 := cntTop_ok _ _ hok2
  refine gB ?_
  (have F := And.intro @okc0 (And.intro @len0 (And.intro @tk0 (And.intro @dr0 (And.intro @okc2 (And.intro @len2 (And.intro @tk2 (And.intro @dr2 @drop0))))))); refine gC (cT0) ?_; clear F)
  (have F := And.intro @okc0 (And.intro @len0 (And.intro @tk0 (And.intro @dr0 (And.intro @okc2 (And.intro @len2 (And.intro @tk2 (And.intro @dr2 @drop0))))))); refine gC (cT1) ?_; clear F)
  (have F := And.intro @okc0 (And.intro @len0 (And.intro @tk0 (And.intro @dr0 (And.intro @okc2 (And.intro @len2 (And.intro @tk2 (And.intro @dr2 @drop0))))))); refine gC (cT2) ?_; clear F)
  (have F := And.intro @okc0 (And.intro @len0 (And.intro @tk0 (And.intro @dr0 (And.intro @okc2 (And.intro @len2 (And.intro @tk2 (And.intro @dr2 @drop0))))))); refine gC (hsp) ?_; clear F)
  (have F := And.intro @okc0 (And.intro @len0 (And.intro @tk0 (And.intro @dr0 (And.intro @okc2 (And.intro @len2 (And.intro @tk2 (And.intro @dr2 @drop0))))))); refine gP 4 ?_; clear F)
  refine (have F := hsp; gAq ?_)
  refine (have F := hsp; gAq ?_)
  (have F := And.intro @okc0 (And.intro @len0 (And.intro @tk0 (And.intro @dr0 (And.intro @okc2 (And.intro @len2 (And.intro @tk2 (And.intro @dr2 @drop0))))))); refine gR ?_; clear F)
  (have F := And.intro @okc0 (And.intro @len0 (And.intro @tk0 (And.intro @dr0 (And.intro @okc2 (And.intro @len2 (And.intro @tk2 (And.intro @dr2 @drop0))))))); refine gG ?_; clear F)
  refine gB ?_
  (have F := And.intro @okc0 (And.intro @len0 (And.intro @tk0 (And.intro @dr0 (And.intro @okc2 (And.intro @len2 (And.intro @tk2 (And.intro @dr2 @drop0))))))); refine gCP [] [1000] (cP0) ?_; clear F)
  rintro r pm ⟨us0, E0, rfl, hu0, cu0, rfl⟩
  rw [len0] at hu0
  obtain ⟨lu0, tu0, du0⟩ := lits_len hu0
  simp only [setA, retA, zipM, List.cons_append, List.nil_append]
  (have F := And.intro @okc0 (And.intro @len0 (And.intro @tk0 (And.intro @dr0 (And.intro @okc2 (And.intro @len2 (And.intro @tk2 (And.intro @dr2 (And.intro @drop0 (And.intro @lu0 (And.intro @tu0 (And.intro @du0 @cu0))))))))))); refine gR ?_; clear F)
  (have F := And.intro @okc0 (And.intro @len0 (And.intro @tk0 (And.intro @dr0 (And.intro @okc2 (And.intro @len2 (And.intro @tk2 (And.intro @dr2 (And.intro @drop0 (And.intro @lu0 (And.intro @tu0 (And.intro @du0 @cu0))))))))))); refine gG ?_; clear F)
  refine gB ?_
  (have F := And.intro @okc0 (And.intro @len0 (And.intro @tk0 (And.intro @dr0 (And.intro @okc2 (And.intro @len2 (And.intro @tk2 (And.intro @dr2 (And.intro @drop0 (And.intro @lu0 (And.intro @tu0 (And.intro @du0 @cu0))))))))))); refine gCP [] [1001] (cP1) ?_; clear F)
  rintro r pm ⟨v1, E1, rfl, cu1, rfl⟩
  simp only [setA, retA, zipM, List.cons_append, List.nil_append]
  (have F := And.intro @okc0 (And.intro @len0 (And.intro @tk0 (And.intro @dr0 (And.intro @okc2 (And.intro @len2 (And.intro @tk2 (And.intro @dr2 (And.intro @drop0 (And.intro @lu0 (And.intro @tu0 (And.intro @du0 (And.intro @cu0 @cu1)))))))))))); refine gR ?_; clear F)
  (have F := And.intro @okc0 (And.intro @len0 (And.intro @tk0 (And.intro @dr0 (And.intro @okc2 (And.intro @len2 (And.intro @tk2 (And.intro @dr2 (And.intro @drop0 (And.intro @lu0 (And.intro @tu0 (And.intro @du0 (And.intro @cu0 @cu1)))))))))))); refine gG ?_; clear F)
  refine gB ?_
  (have F := And.intro @okc0 (And.intro @len0 (And.intro @tk0 (And.intro @dr0 (And.intro @okc2 (And.intro @len2 (And.intro @tk2 (And.intro @dr2 (And.intro @drop0 (And.intro @lu0 (And.intro @tu0 (And.intro @du0 (And.intro @cu0 @cu1)))))))))))); refine gCP [] [1002] (cP2) ?_; clear F)
  rintro r pm ⟨us2, E2, rfl, hu2, cu2, rfl⟩
  rw [len2] at hu2
  obtain ⟨lu2, tu2, du2⟩ := lits_len hu2
  simp only [setA, retA, zipM, List.cons_append, List.nil_append]
  (have F := And.intro @okc0 (And.intro @len0 (And.intro @tk0 (And.intro @dr0 (And.intro @okc2 (And.intro @len2 (And.intro @tk2 (And.intro @dr2 (And.intro @drop0 (And.intro @lu0 (And.intro @tu0 (And.intro @du0 (And.intro @cu0 (And.intro @cu1 (And.intro @lu2 (And.intro @tu2 (And.intro @du2 @cu2)))))))))))))))); refine gR ?_; clear F)
  (have F := And.intro @okc0 (And.intro @len0 (And.intro @tk0 (And.intro @dr0 (And.intro @okc2 (And.intro @len2 (And.intro @tk2 (And.intro @dr2 (And.intro @drop0 (And.intro @lu0 (And.intro @tu0 (And.intro @du0 (And.intro @cu0 (And.intro @cu1 (And.intro @lu2 (And.intro @tu2 (And.intro @du2 @cu2)))))))))))))))); refine gG ?_; clear F)
  refine gB ?_
  (have F := And.intro @okc0 (And.intro @len0 (And.intro @tk0 (And.intro @dr0 (And.intro @okc2 (And.intro @len2 (And.intro @tk2 (And.intro @dr2 (And.intro @drop0 (And.intro @lu0 (And.intro @tu0 (And.intro @du0 (And.intro @cu0 (And.intro @cu1 (And.intro @lu2 (And.intro @tu2 (And.intro @du2 @cu2)))))))))))))))); refine gCP [1000, 1001, 1002] [1100, 1000, 1001, 1002] (conP_rd (lits := [.agg (litRow us0), .one (.lit v1), .agg (litRow us2)]) [.set E0 (fun w => OwnVals w row0 E0 us0), .set E1 (fun w => Own w (.sl rows1) E1 v1), .set E2 (fun w => OwnVals w row2 E2 us2)] him ⟨.tree List.mem_cons_self, .treeS (List.mem_cons_of_mem _ List.mem_cons_self), .tree (List.mem_cons_of_mem _ (List.mem_cons_of_mem _ List.mem_cons_self)), trivial⟩ rfl (fun _ _ h => RTree3.lits h)) ?_; clear F)
  rintro r pm ⟨q1, ⟨vg, Eg, rfl, cug, rfl⟩, rfl⟩
  simp only [setA, retA, zipM, List.cons_append, List.nil_append]
  (have F := And.intro @okc0 (And.intro @len0 (And.intro @tk0 (And.intro @dr0 (And.intro @okc2 (And.intro @len2 (And.intro @tk2 (And.intro @dr2 (And.intro @drop0 (And.intro @lu0 (And.intro @tu0 (And.intro @du0 (And.intro @cu0 (And.intro @cu1 (And.intro @lu2 (And.intro @tu2 (And.intro @du2 (And.intro @cu2 @cug))))))))))))))))); refine gR ?_; clear F)
  (have F := And.intro @okc0 (And.intro @len0 (And.intro @tk0 (And.intro @dr0 (And.intro @okc2 (And.intro @len2 (And.intro @tk2 (And.intro @dr2 (And.intro @drop0 (And.intro @lu0 (And.intro @tu0 (And.intro @du0 (And.intro @cu0 (And.intro @cu1 (And.intro @lu2 (And.intro @tu2 (And.intro @du2 (And.intro @cu2 @cug))))))))))))))))); refine gG ?_; clear F)
  refine gB ?_
  (have F := And.intro @okc0 (And.intro @len0 (And.intro @tk0 (And.intro @dr0 (And.intro @okc2 (And.intro @len2 (And.intro @tk2 (And.intro @dr2 (And.intro @drop0 (And.intro @lu0 (And.intro @tu0 (And.intro @du0 (And.intro @cu0 (And.intro @cu1 (And.intro @lu2 (And.intro @tu2 (And.intro @du2 (And.intro @cu2 @cug))))))))))))))))); refine gCP [1100] [1100] (con_rd (lits := [.one (.lit vg), .one (.sl wr)]) [.set Eg (fun w => Own w (.sl wr) Eg vg)] cE ⟨.treeS List.mem_cons_self, .same, trivial⟩ rfl rfl) ?_; clear F)
  rintro r pm ⟨rfl, rfl⟩
  simp only [setA, retA, zipM, List.cons_append, List.nil_append]
  (have F := And.intro @okc0 (And.intro @len0 (And.intro @tk0 (And.intro @dr0 (And.intro @okc2 (And.intro @len2 (And.intro @tk2 (And.intro @dr2 (And.intro @drop0 (And.intro @lu0 (And.intro @tu0 (And.intro @du0 (And.intro @cu0 (And.intro @cu1 (And.intro @lu2 (And.intro @tu2 (And.intro @du2 (And.intro @cu2 (And.intro @cug @beq_self_eq_true.{0})))))))))))))))))); refine gR ?_; clear F)
  (have F := And.intro @okc0 (And.intro @len0 (And.intro @tk0 (And.intro @dr0 (And.intro @okc2 (And.intro @len2 (And.intro @tk2 (And.intro @dr2 (And.intro @drop0 (And.intro @lu0 (And.intro @tu0 (And.intro @du0 (And.intro @cu0 (And.intro @cu1 (And.intro @lu2 (And.intro @tu2 (And.intro @du2 (And.intro @cu2 (And.intro @cug @beq_self_eq_true.{0})))))))))))))))))); refine gG ?_; clear F)
  refine gB ?_
  (have F := And.intro @okc0 (And.intro @len0 (And.intro @tk0 (And.intro @dr0 (And.intro @okc2 (And.intro @len2 (And.intro @tk2 (And.intro @dr2 (And.intro @drop0 (And.intro @lu0 (And.intro @tu0 (And.intro @du0 (And.intro @cu0 (And.intro @cu1 (And.intro @lu2 (And.intro @tu2 (And.intro @du2 (And.intro @cu2 @cug))))))))))))))))); refine gC (cT0) ?_; clear F)
  (have F := And.intro @okc0 (And.intro @len0 (And.intro @tk0 (And.intro @dr0 (And.intro @okc2 (And.intro @len2 (And.intro @tk2 (And.intro @dr2 (And.intro @drop0 (And.intro @lu0 (And.intro @tu0 (And.intro @du0 (And.intro @cu0 (And.intro @cu1 (And.intro @lu2 (And.intro @tu2 (And.intro @du2 (And.intro @cu2 @cug))))))))))))))))); refine gCP [1000] [1000] (con_rd (lits := [.agg (litRow us0), .agg row0]) [.set E0 (fun w => OwnVals w row0 E0 us0)] cQ0 ⟨.tree List.mem_cons_self, .same, trivial⟩ rfl rfl) ?_; clear F)
  rintro r pm ⟨rfl, rfl⟩
  simp only [setA, retA, zipM, List.cons_append, List.nil_append]
  (have F := And.intro @okc0 (And.intro @len0 (And.intro @tk0 (And.intro @dr0 (And.intro @okc2 (And.intro @len2 (And.intro @tk2 (And.intro @dr2 (And.intro @drop0 (And.intro @lu0 (And.intro @tu0 (And.intro @du0 (And.intro @cu0 (And.intro @cu1 (And.intro @lu2 (And.intro @tu2 (And.intro @du2 (And.intro @cu2 @cug))))))))))))))))); refine gR ?_; clear F)
  (have F := And.intro @okc0 (And.intro @len0 (And.intro @tk0 (And.intro @dr0 (And.intro @okc2 (And.intro @len2 (And.intro @tk2 (And.intro @dr2 (And.intro @drop0 (And.intro @lu0 (And.intro @tu0 (And.intro @du0 (And.intro @cu0 (And.intro @cu1 (And.intro @lu2 (And.intro @tu2 (And.intro @du2 (And.intro @cu2 @cug))))))))))))))))); refine gG ?_; clear F)
  refine gB ?_
  (have F := And.intro @okc0 (And.intro @len0 (And.intro @tk0 (And.intro @dr0 (And.intro @okc2 (And.intro @len2 (And.intro @tk2 (And.intro @dr2 (And.intro @drop0 (And.intro @lu0 (And.intro @tu0 (And.intro @du0 (And.intro @cu0 (And.intro @cu1 (And.intro @lu2 (And.intro @tu2 (And.intro @du2 (And.intro @cu2 @cug))))))))))))))))); refine gC (cT1) ?_; clear F)
  (have F := And.intro @okc0 (And.intro @len0 (And.intro @tk0 (And.intro @dr0 (And.intro @okc2 (And.intro @len2 (And.intro @tk2 (And.intro @dr2 (And.intro @drop0 (And.intro @lu0 (And.intro @tu0 (And.intro @du0 (And.intro @cu0 (And.intro @cu1 (And.intro @lu2 (And.intro @tu2 (And.intro @du2 (And.intro @cu2 @cug))))))))))))))))); refine gCP [1001] [1001] (con_rd (lits := [.one (.lit v1), .one (.sl rows1)]) [.set E1 (fun w => Own w (.sl rows1) E1 v1)] cQ1 ⟨.treeS List.mem_cons_self, .same, trivial⟩ rfl rfl) ?_; clear F)
  rintro r pm ⟨rfl, rfl⟩
  simp only [setA, retA, zipM, List.cons_append, List.nil_append]
  (have F := And.intro @okc0 (And.intro @len0 (And.intro @tk0 (And.intro @dr0 (And.intro @okc2 (And.intro @len2 (And.intro @tk2 (And.intro @dr2 (And.intro @drop0 (And.intro @lu0 (And.intro @tu0 (And.intro @du0 (And.intro @cu0 (And.intro @cu1 (And.intro @lu2 (And.intro @tu2 (And.intro @du2 (And.intro @cu2 @cug))))))))))))))))); refine gR ?_; clear F)
  (have F := And.intro @okc0 (And.intro @len0 (And.intro @tk0 (And.intro @dr0 (And.intro @okc2 (And.intro @len2 (And.intro @tk2 (And.intro @dr2 (And.intro @drop0 (And.intro @lu0 (And.intro @tu0 (And.intro @du0 (And.intro @cu0 (And.intro @cu1 (And.intro @lu2 (And.intro @tu2 (And.intro @du2 (And.intro @cu2 @cug))))))))))))))))); refine gG ?_; clear F)
  refine gB ?_
  (have F := And.intro @okc0 (And.intro @len0 (And.intro @tk0 (And.intro @dr0 (And.intro @okc2 (And.intro @len2 (And.intro @tk2 (And.intro @dr2 (And.intro @drop0 (And.intro @lu0 (And.intro @tu0 (And.intro @du0 (And.intro @cu0 (And.intro @cu1 (And.intro @lu2 (And.intro @tu2 (And.intro @du2 (And.intro @cu2 @cug))))))))))))))))); refine gC (cT2) ?_; clear F)
  (have F := And.intro @okc0 (And.intro @len0 (And.intro @tk0 (And.intro @dr0 (And.intro @okc2 (And.intro @len2 (And.intro @tk2 (And.intro @dr2 (And.intro @drop0 (And.intro @lu0 (And.intro @tu0 (And.intro @du0 (And.intro @cu0 (And.intro @cu1 (And.intro @lu2 (And.intro @tu2 (And.intro @du2 (And.intro @cu2 @cug))))))))))))))))); refine gCP [1002] [1002] (con_rd (lits := [.agg (litRow us2), .agg row2]) [.set E2 (fun w => OwnVals w row2 E2 us2)] cQ2 ⟨.tree List.mem_cons_self, .same, trivial⟩ rfl rfl) ?_; clear F)
  rintro r pm ⟨rfl, rfl⟩
  simp only [setA, retA, zipM, List.cons_append, List.nil_append]
  (have F := And.intro @okc0 (And.intro @len0 (And.intro @tk0 (And.intro @dr0 (And.intro @okc2 (And.intro @len2 (And.intro @tk2 (And.intro @dr2 (And.intro @drop0 (And.intro @lu0 (And.intro @tu0 (And.intro @du0 (And.intro @cu0 (And.intro @cu1 (And.intro @lu2 (And.intro @tu2 (And.intro @du2 (And.intro @cu2 @cug))))))))))))))))); refine gR ?_; clear F)
  (have F := And.intro @okc0 (And.intro @len0 (And.intro @tk0 (And.intro @dr0 (And.intro @okc2 (And.intro @len2 (And.intro @tk2 (And.intro @dr2 (And.intro @drop0 (And.intro @lu0 (And.intro @tu0 (And.intro @du0 (And.intro @cu0 (And.intro @cu1 (And.intro @lu2 (And.intro @tu2 (And.intro @du2 (And.intro @cu2 @cug))))))))))))))))); refine gG ?_; clear F)
  refine gB ?_
  (have F := And.intro @okc0 (And.intro @len0 (And.intro @tk0 (And.intro @dr0 (And.intro @okc2 (And.intro @len2 (And.intro @tk2 (And.intro @dr2 (And.intro @drop0 (And.intro @lu0 (And.intro @tu0 (And.intro @du0 (And.intro @cu0 (And.intro @cu1 (And.intro @lu2 (And.intro @tu2 (And.intro @du2 (And.intro @cu2 @cug))))))))))))))))); refine gCP [1000] [1000] (markSignature_all hok0 (1) E0 us0 (by omega) cu0 (by omega) (by omega)) ?_; clear F)
  rintro r pm ⟨F0, rfl, rfl⟩
  simp only [setA, retA, zipM, List.cons_append, List.nil_append]
  (have F := And.intro @okc0 (And.intro @len0 (And.intro @tk0 (And.intro @dr0 (And.intro @okc2 (And.intro @len2 (And.intro @tk2 (And.intro @dr2 (And.intro @drop0 (And.intro @lu0 (And.intro @tu0 (And.intro @du0 (And.intro @cu0 (And.intro @cu1 (And.intro @lu2 (And.intro @tu2 (And.intro @du2 (And.intro @cu2 @cug))))))))))))))))); refine gR ?_; clear F)
  (have F := And.intro @okc0 (And.intro @len0 (And.intro @tk0 (And.intro @dr0 (And.intro @okc2 (And.intro @len2 (And.intro @tk2 (And.intro @dr2 (And.intro @drop0 (And.intro @lu0 (And.intro @tu0 (And.intro @du0 (And.intro @cu0 (And.intro @cu1 (And.intro @lu2 (And.intro @tu2 (And.intro @du2 (And.intro @cu2 @cug))))))))))))))))); refine gG ?_; clear F)
  refine gB ?_
  (have F := And.intro @okc0 (And.intro @len0 (And.intro @tk0 (And.intro @dr0 (And.intro @okc2 (And.intro @len2 (And.intro @tk2 (And.intro @dr2 (And.intro @drop0 (And.intro @lu0 (And.intro @tu0 (And.intro @du0 (And.intro @cu0 (And.intro @cu1 (And.intro @lu2 (And.intro @tu2 (And.intro @du2 (And.intro @cu2 @cug))))))))))))))))); refine gCP [1001] [1001] (markWeightS_all hok1 (1 + (cntTop row0 : Int)) E1 v1 (by omega) (by omega)) ?_; clear F)
  rintro r pm ⟨F1, rfl, rfl⟩
  simp only [setA, retA, zipM, List.cons_append, List.nil_append]
  (have F := And.intro @okc0 (And.intro @len0 (And.intro @tk0 (And.intro @dr0 (And.intro @okc2 (And.intro @len2 (And.intro @tk2 (And.intro @dr2 (And.intro @drop0 (And.intro @lu0 (And.intro @tu0 (And.intro @du0 (And.intro @cu0 (And.intro @cu1 (And.intro @lu2 (And.intro @tu2 (And.intro @du2 (And.intro @cu2 @cug))))))))))))))))); refine gR ?_; clear F)
  (have F := And.intro @okc0 (And.intro @len0 (And.intro @tk0 (And.intro @dr0 (And.intro @okc2 (And.intro @len2 (And.intro @tk2 (And.intro @dr2 (And.intro @drop0 (And.intro @lu0 (And.intro @tu0 (And.intro @du0 (And.intro @cu0 (And.intro @cu1 (And.intro @lu2 (And.intro @tu2 (And.intro @du2 (And.intro @cu2 @cug))))))))))))))))); refine gG ?_; clear F)
  refine gB ?_
  (have F := And.intro @okc0 (And.intro @len0 (And.intro @tk0 (And.intro @dr0 (And.intro @okc2 (And.intro @len2 (And.intro @tk2 (And.intro @dr2 (And.intro @drop0 (And.intro @lu0 (And.intro @tu0 (And.intro @du0 (And.intro @cu0 (And.intro @cu1 (And.intro @lu2 (And.intro @tu2 (And.intro @du2 (And.intro @cu2 @cug))))))))))))))))); refine gCP [1002] [1002] (markTerm_all hok2 (1 + (cntTop row0 : Int) + (cntRows rows1 : Int)) E2 us2 (by omega) cu2 (by omega) (by omega)) ?_; clear F)
  rintro r pm ⟨F2, rfl, rfl⟩
  simp only [setA, retA, zipM, List.cons_append, List.nil_append]
  (have F := And.intro @okc0 (And.intro @len0 (And.intro @tk0 (And.intro @dr0 (And.intro @okc2 (And.intro @len2 (And.intro @tk2 (And.intro @dr2 (And.intro @drop0 (And.intro @lu0 (And.intro @tu0 (And.intro @du0 (And.intro @cu0 (And.intro @cu1 (And.intro @lu2 (And.intro @tu2 (And.intro @du2 (And.intro @cu2 @cug))))))))))))))))); refine gR ?_; clear F)
  (have F := And.intro @okc0 (And.intro @len0 (And.intro @tk0 (And.intro @dr0 (And.intro @okc2 (And.intro @len2 (And.intro @tk2 (And.intro @dr2 (And.intro @drop0 (And.intro @lu0 (And.intro @tu0 (And.intro @du0 (And.intro @cu0 (And.intro @cu1 (And.intro @lu2 (And.intro @tu2 (And.intro @du2 (And.intro @cu2 @cug))))))))))))))))); refine gG ?_; clear F)
  have nk : (1 + (cntTop row0 : Int) + (cntRows rows1 : Int) + (cntTop row2 : Int) < 0) = False := eq_false (by omega)
  refine gB ?_
  (have F := And.intro @okc0 (And.intro @len0 (And.intro @tk0 (And.intro @dr0 (And.intro @okc2 (And.intro @len2 (And.intro @tk2 (And.intro @dr2 (And.intro @drop0 (And.intro @lu0 (And.intro @tu0 (And.intro @du0 (And.intro @cu0 (And.intro @cu1 (And.intro @lu2 (And.intro @tu2 (And.intro @du2 (And.intro @cu2 (And.intro @cug @nk)))))))))))))))))); refine gCP [1100] [1100] (con_rd (lits := [.one (.lit vg), .one (.sl wr)]) [.set Eg (fun w => Own w (.sl wr) Eg vg)] cE ⟨.treeS List.mem_cons_self, .same, trivial⟩ rfl rfl) ?_; clear F)
  rintro r pm ⟨rfl, rfl⟩
  simp only [setA, retA, zipM, List.cons_append, List.nil_append]
  (have F := And.intro @okc0 (And.intro @len0 (And.intro @tk0 (And.intro @dr0 (And.intro @okc2 (And.intro @len2 (And.intro @tk2 (And.intro @dr2 (And.intro @drop0 (And.intro @lu0 (And.intro @tu0 (And.intro @du0 (And.intro @cu0 (And.intro @cu1 (And.intro @lu2 (And.intro @tu2 (And.intro @du2 (And.intro @cu2 (And.intro @cug (And.intro @nk @beq_self_eq_true.{0}))))))))))))))))))); refine gR ?_; clear F)
  (have F := And.intro @okc0 (And.intro @len0 (And.intro @tk0 (And.intro @dr0 (And.intro @okc2 (And.intro @len2 (And.intro @tk2 (And.intro @dr2 (And.intro @drop0 (And.intro @lu0 (And.intro @tu0 (And.intro @du0 (And.intro @cu0 (And.intro @cu1 (And.intro @lu2 (And.intro @tu2 (And.intro @du2 (And.intro @cu2 (And.intro @cug (And.intro @nk @beq_self_eq_true.{0}))))))))))))))))))); refine gG ?_; clear F)
  refine gB ?_
  (have F := And.intro @okc0 (And.intro @len0 (And.intro @tk0 (And.intro @dr0 (And.intro @okc2 (And.intro @len2 (And.intro @tk2 (And.intro @dr2 (And.intro @drop0 (And.intro @lu0 (And.intro @tu0 (And.intro @du0 (And.intro @cu0 (And.intro @cu1 (And.intro @lu2 (And.intro @tu2 (And.intro @du2 (And.intro @cu2 (And.intro @cug @nk)))))))))))))))))); refine gCP [1100] [1100] (markIntS_all hokw 1 Eg vg (by omega) (by omega)) ?_; clear F)
  rintro r pm ⟨Fg, rfl, rfl⟩
  simp only [setA, retA, zipM, List.cons_append, List.nil_append]
  (have F := And.intro @okc0 (And.intro @len0 (And.intro @tk0 (And.intro @dr0 (And.intro @okc2 (And.intro @len2 (And.intro @tk2 (And.intro @dr2 (And.intro @drop0 (And.intro @lu0 (And.intro @tu0 (And.intro @du0 (And.intro @cu0 (And.intro @cu1 (And.intro @lu2 (And.intro @tu2 (And.intro @du2 (And.intro @cu2 (And.intro @cug @nk)))))))))))))))))); refine gR ?_; clear F)
  (have F := And.intro @okc0 (And.intro @len0 (And.intro @tk0 (And.intro @dr0 (And.intro @okc2 (And.intro @len2 (And.intro @tk2 (And.intro @dr2 (And.intro @drop0 (And.intro @lu0 (And.intro @tu0 (And.intro @du0 (And.intro @cu0 (And.intro @cu1 (And.intro @lu2 (And.intro @tu2 (And.intro @du2 (And.intro @cu2 (And.intro @cug @nk)))))))))))))))))); refine gG ?_; clear F)
  have nm : (1 + (cntRows wr : Int) < 0) = False := eq_false (by omega)
  have cH := heldIntS_all hokw (by omega) 1 (by omega) (by omega)
  refine gB ?_
  (have F := And.intro @okc0 (And.intro @len0 (And.intro @tk0 (And.intro @dr0 (And.intro @okc2 (And.intro @len2 (And.intro @tk2 (And.intro @dr2 (And.intro @drop0 (And.intro @lu0 (And.intro @tu0 (And.intro @du0 (And.intro @cu0 (And.intro @cu1 (And.intro @lu2 (And.intro @tu2 (And.intro @du2 (And.intro @cu2 (And.intro @cug (And.intro @nk @nm))))))))))))))))))); refine gCP [1100] [1100] (con_rd (lits := [.one (.lit vg), .one (.lit (.int .i64 1))]) [.set Fg (fun w => Own w (.sl (mkRows 1 wr)) Fg vg)] cH ⟨.treeS List.mem_cons_self, .same, trivial⟩ rfl rfl) ?_; clear F)
  rintro r pm ⟨rfl, rfl⟩
  simp only [setA, retA, zipM, List.cons_append, List.nil_append]
  (have F := And.intro @okc0 (And.intro @len0 (And.intro @tk0 (And.intro @dr0 (And.intro @okc2 (And.intro @len2 (And.intro @tk2 (And.intro @dr2 (And.intro @drop0 (And.intro @lu0 (And.intro @tu0 (And.intro @du0 (And.intro @cu0 (And.intro @cu1 (And.intro @lu2 (And.intro @tu2 (And.intro @du2 (And.intro @cu2 (And.intro @cug (And.intro @nk @nm))))))))))))))))))); refine gR ?_; clear F)
  (have F := And.intro @okc0 (And.intro @len0 (And.intro @tk0 (And.intro @dr0 (And.intro @okc2 (And.intro @len2 (And.intro @tk2 (And.intro @dr2 (And.intro @drop0 (And.intro @lu0 (And.intro @tu0 (And.intro @du0 (And.intro @cu0 (And.intro @cu1 (And.intro @lu2 (And.intro @tu2 (And.intro @du2 (And.intro @cu2 (And.intro @cug (And.intro @nk (And.intro @nm @beq_self_eq_true.{0})))))))))))))))))))); have NN : StopAt 38 := trivial; refine gGn ?_; clear F NN)
  refine gGh (Lks [(8, .d (.one (.lit (.int .i64 R0)))), (9, .d (.one (.sl wr))), (10, .d (.one (.lit (.bool R2)))), (15, .d (.one (.lit vg))), (18, .d (.one (.lit (.int .i64 (1 + (cntRows wr : Int)))))), (3, .ref 3 0), (1, .d (.one (.sl rows1))), (5, .ref 5 0)] [(1100, .set Fg (fun w => Own w (.sl (mkRows 1 wr)) Fg vg)), (3, .var none row0), (5, .var none row2)]) (PG (mWeightFormS row0 rows1 row2 R0 wr R2) (mWeightFormM wr)) ⟨by simp [gs], by simp [gm]⟩ ⟨?_, ?_, ?_, ?_, ?_, ?_, ?_, ?_, ?_, ?_, ?_, ?_, ?_, ?_, trivial⟩ ?_
  rotate_right
  all_goals (intro s' m' hB)
  rotate_left
  · intro _
    have gk : gs s' 3 = .ref 3 0 := hB.1 (3, _) (by simp)
    have kk : gm m' 3 = some (.var none row0) := hB.2 (3, _) (by simp)
    refine (have F := And.intro @gk (And.intro @kk (And.intro @okc0 (And.intro @len0 (And.intro @tk0 (And.intro @dr0 (And.intro @okc2 (And.intro @len2 (And.intro @tk2 (And.intro @dr2 (And.intro @drop0 (And.intro @lu0 (And.intro @tu0 (And.intro @du0 (And.intro @cu0 (And.intro @cu1 (And.intro @lu2 (And.intro @tu2 (And.intro @du2 (And.intro @cu2 (And.intro @cug (And.intro @nk (@nm)))))))))))))))))))))); gP 1 ?_)
    refine runs_nil ?_
    exact ⟨hB.slot rfl, ⟨mx0, by simp [mWeightFormS, gs], by simp [mWeightFormM]⟩, PG.slotH (by intro j h1 h2 x; rcases j with _ | _ | _ | _ | _ | _ | _ | _ | _ | _ | _ | _ | _ | _ | j <;> first | rfl | exact absurd rfl h1 | exact absurd (by decide) h2)⟩
  · intro hP
    obtain ⟨_, q, _⟩ := hP 0 (by decide)
    have gk : gs s' 131 = .d (.agg row0) := q (_, _) (by simp [mWeightFormS])
    refine (have F := gk; gC cT0 ?_)
    refine runs_nil ?_
    exact ⟨hB.slot rfl, ⟨mx0, by simp [mWeightFormS, gs], by simp [mWeightFormM]⟩, PG.slotH (by intro j h1 h2 x; rcases j with _ | _ | _ | _ | _ | _ | _ | _ | _ | _ | _ | _ | _ | _ | j <;> first | rfl | exact absurd rfl h1 | exact absurd (by decide) h2)⟩
  · intro _
    have gk : gs s' 1 = .d (.one (.sl rows1)) := hB.1 (1, _) (by simp)
    refine (have F := gk; gP 1 ?_)
    refine runs_nil ?_
    exact ⟨hB.slot rfl, ⟨mx0, by simp [mWeightFormS, gs], by simp [mWeightFormM]⟩, PG.slotH (by intro j h1 h2 x; rcases j with _ | _ | _ | _ | _ | _ | _ | _ | _ | _ | _ | _ | _ | _ | j <;> first | rfl | exact absurd rfl h1 | exact absurd (by decide) h2)⟩
  · intro hP
    obtain ⟨_, q, _⟩ := hP 2 (by decide)
    have gk : gs s' 133 = .d (.one (.sl rows1)) := q (_, _) (by simp [mWeightFormS])
    refine (have F := gk; gC cT1 ?_)
    refine runs_nil ?_
    exact ⟨hB.slot rfl, ⟨mx0, by simp [mWeightFormS, gs], by simp [mWeightFormM]⟩, PG.slotH (by intro j h1 h2 x; rcases j with _ | _ | _ | _ | _ | _ | _ | _ | _ | _ | _ | _ | _ | _ | j <;> first | rfl | exact absurd rfl h1 | exact absurd (by decide) h2)⟩
  · intro _
    have gk : gs s' 5 = .ref 5 0 := hB.1 (5, _) (by simp)
    have kk : gm m' 5 = some (.var none row2) := hB.2 (5, _) (by simp)
    refine (have F := And.intro @gk (And.intro @kk (And.intro @okc0 (And.intro @len0 (And.intro @tk0 (And.intro @dr0 (And.intro @okc2 (And.intro @len2 (And.intro @tk2 (And.intro @dr2 (And.intro @drop0 (And.intro @lu0 (And.intro @tu0 (And.intro @du0 (And.intro @cu0 (And.intro @cu1 (And.intro @lu2 (And.intro @tu2 (And.intro @du2 (And.intro @cu2 (And.intro @cug (And.intro @nk (@nm)))))))))))))))))))))); gP 1 ?_)
    refine runs_nil ?_
    exact ⟨hB.slot rfl, ⟨mx0, by simp [mWeightFormS, gs], by simp [mWeightFormM]⟩, PG.slotH (by intro j h1 h2 x; rcases j with _ | _ | _ | _ | _ | _ | _ | _ | _ | _ | _ | _ | _ | _ | j <;> first | rfl | exact absurd rfl h1 | exact absurd (by decide) h2)⟩
  · intro hP
    obtain ⟨_, q, _⟩ := hP 4 (by decide)
    have gk : gs s' 135 = .d (.agg row2) := q (_, _) (by simp [mWeightFormS])
    refine (have F := gk; gC cT2 ?_)
    refine runs_nil ?_
    exact ⟨hB.slot rfl, ⟨mx0, by simp [mWeightFormS, gs], by simp [mWeightFormM]⟩, PG.slotH (by intro j h1 h2 x; rcases j with _ | _ | _ | _ | _ | _ | _ | _ | _ | _ | _ | _ | _ | _ | j <;> first | rfl | exact absurd rfl h1 | exact absurd (by decide) h2)⟩
  · intro hP
    obtain ⟨_, q0, _⟩ := hP 1 (by decide)
    have gk0 : gs s' 132 = .d (.agg row0) := q0 (_, _) (by simp [mWeightFormS])
    obtain ⟨_, q1, _⟩ := hP 3 (by decide)
    have gk1 : gs s' 134 = .d (.one (.sl rows1)) := q1 (_, _) (by simp [mWeightFormS])
    obtain ⟨_, q2, _⟩ := hP 5 (by decide)
    have gk2 : gs s' 136 = .d (.agg row2) := q2 (_, _) (by simp [mWeightFormS])
    refine (have F := And.intro @gk0 (And.intro @gk1 (@gk2)); gCP [] [1200] him ?_)
    rintro r pm ⟨v, E, rfl, hcv, rfl⟩
    simp only [setA, retA, zipM, List.cons_append, List.nil_append]
    refine runs_nil ?_
    exact ⟨hB.bornK rfl, ⟨⟨(v, E), hcv⟩, by simp [mWeightFormS, gs], by simp [mWeightFormM, gm]⟩, PG.bornKH (by intro j h1 h2 x; rcases j with _ | _ | _ | _ | _ | _ | _ | _ | _ | _ | _ | _ | _ | _ | j <;> first | rfl | exact absurd rfl h1 | exact absurd (by decide) h2)⟩
  · intro hP
    obtain ⟨x, q, qm⟩ := hP 6 (by decide)
    have gk : gs s' 137 = .tup [.one (.lit (.int .i64 R0)), .one (.lit x.1.1), .one (.lit (.bool R2))] := q (_, _) (by simp [mWeightFormS])
    have kx := qm (1200, _) (by simp [mWeightFormM]; rfl)
    refine (have F := And.intro gk x.2; gO3 ?_)
    exact ⟨hB.slot rfl, ⟨x, by simp [mWeightFormS, gs], by simp [mWeightFormM]; exact kx⟩, PG.slotH (by intro j h1 h2 x; rcases j with _ | _ | _ | _ | _ | _ | _ | _ | _ | _ | _ | _ | _ | _ | j <;> first | rfl | exact absurd rfl h1 | exact absurd (by decide) h2)⟩
  · intro hP
    obtain ⟨x, q, qm⟩ := hP 7 (by decide)
    have gk : gs s' 130 = .tup [.one (.lit (.int .i64 R0)), .one (.lit x.1.1), .one (.lit (.bool R2))] := q (_, _) (by simp [mWeightFormS])
    refine (have F := And.intro gk x.2; gO3 ?_)
    exact ⟨hB.slot rfl, ⟨mx0, by simp [mWeightFormS, gs], by simp [mWeightFormM]⟩, PG.slotH (by intro j h1 h2 x; rcases j with _ | _ | _ | _ | _ | _ | _ | _ | _ | _ | _ | _ | _ | _ | j <;> first | rfl | exact absurd rfl h1 | exact absurd (by decide) h2)⟩
  · intro hP
    obtain ⟨x, q, qm⟩ := hP 7 (by decide)
    have gk : gs s' 130 = .tup [.one (.lit (.int .i64 R0)), .one (.lit x.1.1), .one (.lit (.bool R2))] := q (_, _) (by simp [mWeightFormS])
    have kx := qm (1200, _) (by simp [mWeightFormM]; rfl)
    refine (have F := And.intro gk x.2; gO3 ?_)
    exact ⟨hB.slot rfl, ⟨x, by simp [mWeightFormS, gs], by simp [mWeightFormM]; exact kx⟩, PG.slotH (by intro j h1 h2 x; rcases j with _ | _ | _ | _ | _ | _ | _ | _ | _ | _ | _ | _ | _ | _ | j <;> first | rfl | exact absurd rfl h1 | exact absurd (by decide) h2)⟩
  · intro hP
    obtain ⟨x, q, qm⟩ := hP 7 (by decide)
    have gk : gs s' 130 = .tup [.one (.lit (.int .i64 R0)), .one (.lit x.1.1), .one (.lit (.bool R2))] := q (_, _) (by simp [mWeightFormS])
    refine (have F := And.intro gk x.2; gO3 ?_)
    exact ⟨hB.slot rfl, ⟨mx0, by simp [mWeightFormS, gs], by simp [mWeightFormM]⟩, PG.slotH (by intro j h1 h2 x; rcases j with _ | _ | _ | _ | _ | _ | _ | _ | _ | _ | _ | _ | _ | _ | j <;> first | rfl | exact absurd rfl h1 | exact absurd (by decide) h2)⟩
  · intro hP
    obtain ⟨x, q, qm⟩ := hP 8 (by decide)
    have gk : gs s' 138 = .d (.one (.lit (.int .i64 R0))) := q (_, _) (by simp [mWeightFormS])
    refine (have F := And.intro gk x.2; gO3 ?_)
    exact ⟨hB.slot rfl, ⟨mx0, by simp [mWeightFormS, gs], by simp [mWeightFormM]⟩, PG.slotH (by intro j h1 h2 x; rcases j with _ | _ | _ | _ | _ | _ | _ | _ | _ | _ | _ | _ | _ | _ | j <;> first | rfl | exact absurd rfl h1 | exact absurd (by decide) h2)⟩
  · intro hP
    obtain ⟨x, q, qm⟩ := hP 9 (by decide)
    have gk : gs s' 139 = .d (.one (.lit x.1.1)) := q (_, _) (by simp [mWeightFormS])
    have kx := qm (1200, _) (by simp [mWeightFormM]; rfl)
    refine (have F := And.intro gk x.2; gO3 ?_)
    exact ⟨hB.slot rfl, ⟨x, by simp [mWeightFormS, gs], by simp [mWeightFormM]; exact kx⟩, PG.slotH (by intro j h1 h2 x; rcases j with _ | _ | _ | _ | _ | _ | _ | _ | _ | _ | _ | _ | _ | _ | j <;> first | rfl | exact absurd rfl h1 | exact absurd (by decide) h2)⟩
  · intro hP
    obtain ⟨x, q, qm⟩ := hP 10 (by decide)
    have gk : gs s' 140 = .d (.one (.lit (.bool R2))) := q (_, _) (by simp [mWeightFormS])
    refine (have F := And.intro gk x.2; gO3 ?_)
    exact ⟨hB.slot rfl, ⟨mx0, by simp [mWeightFormS, gs], by simp [mWeightFormM]⟩, PG.slotH (by intro j h1 h2 x; rcases j with _ | _ | _ | _ | _ | _ | _ | _ | _ | _ | _ | _ | _ | _ | j <;> first | rfl | exact absurd rfl h1 | exact absurd (by decide) h2)⟩
  intro hP
  obtain ⟨x11, q11⟩ := hP 11 (by decide)
  obtain ⟨x12, q12⟩ := hP 12 (by decide)
  obtain ⟨x13, q13⟩ := hP 13 (by decide)
  refine ⟨_, _, ((q11.app q12).app q13).app hB, ?_⟩
  simp only [mWeightFormS, mWeightFormM, List.cons_append, List.nil_append]
  obtain ⟨⟨vh, Eh⟩, cuh⟩ := x12
  clear hB hP q11 q12 q13 x11 x13 s' m'
  refine ⟨_, Wk.refl _, ?_⟩
  (have F := And.intro @okc0 (And.intro @len0 (And.intro @tk0 (And.intro @dr0 (And.intro @okc2 (And.intro @len2 (And.intro @tk2 (And.intro @dr2 (And.intro @drop0 (And.intro @lu0 (And.intro @tu0 (And.intro @du0 (And.intro @cu0 (And.intro @cu1 (And.intro @lu2 (And.intro @tu2 (And.intro @du2 (And.intro @cu2 (And.intro @cug (And.intro @nk (And.intro @nm @cuh)))))))))))))))))))); refine gG ?_; clear F)
  refine gB ?_
  (have F := And.intro @okc0 (And.intro @len0 (And.intro @tk0 (And.intro @dr0 (And.intro @okc2 (And.intro @len2 (And.intro @tk2 (And.intro @dr2 (And.intro @drop0 (And.intro @lu0 (And.intro @tu0 (And.intro @du0 (And.intro @cu0 (And.intro @cu1 (And.intro @lu2 (And.intro @tu2 (And.intro @du2 (And.intro @cu2 (And.intro @cug (And.intro @nk (And.intro @nm @cuh)))))))))))))))))))); refine gCP [1200] [1200] (con_rd (lits := [.one (.lit vh), .one (.sl wr)]) [.set Eh (fun w => Own w (.sl wr) Eh vh)] cE ⟨.treeS List.mem_cons_self, .same, trivial⟩ rfl rfl) ?_; clear F)
  rintro r pm ⟨rfl, rfl⟩
  simp only [setA, retA, zipM, List.cons_append, List.nil_append]
  (have F := And.intro @okc0 (And.intro @len0 (And.intro @tk0 (And.intro @dr0 (And.intro @okc2 (And.intro @len2 (And.intro @tk2 (And.intro @dr2 (And.intro @drop0 (And.intro @lu0 (And.intro @tu0 (And.intro @du0 (And.intro @cu0 (And.intro @cu1 (And.intro @lu2 (And.intro @tu2 (And.intro @du2 (And.intro @cu2 (And.intro @cug (And.intro @nk (And.intro @nm (And.intro @cuh @beq_self_eq_true.{0}))))))))))))))))))))); refine gR ?_; clear F)
  (have F := And.intro @okc0 (And.intro @len0 (And.intro @tk0 (And.intro @dr0 (And.intro @okc2 (And.intro @len2 (And.intro @tk2 (And.intro @dr2 (And.intro @drop0 (And.intro @lu0 (And.intro @tu0 (And.intro @du0 (And.intro @cu0 (And.intro @cu1 (And.intro @lu2 (And.intro @tu2 (And.intro @du2 (And.intro @cu2 (And.intro @cug (And.intro @nk (And.intro @nm (And.intro @cuh @beq_self_eq_true.{0}))))))))))))))))))))); refine gG ?_; clear F)
  refine gB ?_
  (have F := And.intro @okc0 (And.intro @len0 (And.intro @tk0 (And.intro @dr0 (And.intro @okc2 (And.intro @len2 (And.intro @tk2 (And.intro @dr2 (And.intro @drop0 (And.intro @lu0 (And.intro @tu0 (And.intro @du0 (And.intro @cu0 (And.intro @cu1 (And.intro @lu2 (And.intro @tu2 (And.intro @du2 (And.intro @cu2 (And.intro @cug (And.intro @nk @nm))))))))))))))))))); refine gCP [1100] [1100] (con_rd (lits := [.one (.lit vg), .one (.lit (.int .i64 1))]) [.set Fg (fun w => Own w (.sl (mkRows 1 wr)) Fg vg)] cH ⟨.treeS List.mem_cons_self, .same, trivial⟩ rfl rfl) ?_; clear F)
  rintro r pm ⟨rfl, rfl⟩
  simp only [setA, retA, zipM, List.cons_append, List.nil_append]
  (have F := And.intro @okc0 (And.intro @len0 (And.intro @tk0 (And.intro @dr0 (And.intro @okc2 (And.intro @len2 (And.intro @tk2 (And.intro @dr2 (And.intro @drop0 (And.intro @lu0 (And.intro @tu0 (And.intro @du0 (And.intro @cu0 (And.intro @cu1 (And.intro @lu2 (And.intro @tu2 (And.intro @du2 (And.intro @cu2 (And.intro @cug (And.intro @nk @nm))))))))))))))))))); refine gR ?_; clear F)
  (have F := And.intro @okc0 (And.intro @len0 (And.intro @tk0 (And.intro @dr0 (And.intro @okc2 (And.intro @len2 (And.intro @tk2 (And.intro @dr2 (And.intro @drop0 (And.intro @lu0 (And.intro @tu0 (And.intro @du0 (And.intro @cu0 (And.intro @cu1 (And.intro @lu2 (And.intro @tu2 (And.intro @du2 (And.intro @cu2 (And.intro @cug (And.intro @nk (And.intro @nm (And.intro @cuh @beq_self_eq_true.{0}))))))))))))))))))))); refine gG ?_; exact gT)
theorem lawExactWeightForm (w : World) (row0 : List C) (S0 : Nat → Prop) (us0 : List Value) (hok0 : okRow (sigF) row0) (hv0 : RepVals w S0 row0 us0) (rows1 : List (List C)) (S1 : Nat → Prop) (u1 : Value) (hok1 : okRows (fieldsOf .weight) rows1) (hv1 : Rep w S1 (.sl rows1) u1) (row2 : List C) (S2 : Nat → Prop) (us2 : List Value) (hok2 : okRow (fieldsOf .term) row2) (hv2 : RepVals w S2 row2 us2) :
    Calls Tryz.prog 6 #[(.agg us0.toArray : Value), u1, (.agg us2.toArray : Value)] w fun e w' => e = .returned (.bool true) ∧ Below w.heap.size w w' := by
  obtain ⟨g, rfl, k0⟩ := decSgn hok0
  obtain ⟨ws, rfl, k1⟩ := decL decWt hok1
  obtain ⟨t, rfl, k2⟩ := decTm hok2
  have hc := (con_lawWeightForm hok0 hok1 hok2 (okRows_wf) (fun b0 b1 b2 bt => big_wf b2) (fun b0 b1 b2 bt => con_specWF k0 (by simpa using Nat.le_trans (Nat.le_add_right _ _) b1) k2 b2) (fun b0 b1 b2 bt => conP_implWF k0 (by simpa using Nat.le_trans (Nat.le_add_right _ _) b1) k2 b2)).2 w (fun b => b < w.heap.size) [(.agg us0.toArray : Value), u1, (.agg us2.toArray : Value)] (fun b hb => ⟨hb, id⟩) (fun b hb => hb.elim) trivial
    ⟨⟨us0, rfl, hv0.inside'⟩, (Rep.inside _ _ hv1).mono (fun b hb => hb.2), ⟨us2, rfl, hv2.inside'⟩, trivial⟩
  refine hc.mono fun e w' ⟨v, h1, h2, _, h4⟩ => ⟨?_, h2.below⟩
  have h4 : v = .bool true := by simpa [retA, ARel, DRel, Rep] using h4
  rw [h1, h4]
end Go.Proofs.YtofklmbljbkdaaaGreat
namespace Go.Proofs.YtofklmbljbkdaaaGreat
open Go.ChangeShapes Go.WideShapes Go.ChangeAt Go.RowKit Go.Deep
set_option maxRecDepth 100000 in
theorem weightForm_holds_lifted (os : Os) (started : os.Started) (H : Type) (enc : TypeId × Value → H) :
    ReturnsInHanded {} Tryz.checked os 6 .any (Rows.fnExactWeightFormSpec.pre6 enc Tryz.prog Tryz.f6 Rows.fnExactWeightFormRow.domain false) (Rows.fnExactWeightFormSpec.post enc Tryz.prog Tryz.f6 false true false false) := by
  refine returnsInHanded_of_change (C := Tryz.checked) own started (by kernel_rfl) Tryz.func6
    (ChangeSpec.witness6 (enc := enc) (C := Tryz.checked) false ⟨#[], #[.agg #[.slice none 0 0, .slice none 0 0, .slice none 0 0], .slice none 0 0, .agg #[.int .i64 0, .string .empty, .int .i64 0, .slice none 0 0]], []⟩ 8 (by kernel_rfl) (by kernel_rfl) (by kernel_rfl) (by kernel_rfl)) ?_
  intro W base args ds gs before hval0 hW _ _
  have hval : ∀ (j : Nat) t v, Tryz.f6.params[j]? = some t → args[j]? = some v → Value.okWide Tryz.prog W .any base t v := hval0
  have hW' := hW
  obtain ⟨p, q, hA0, hV, rfl, _, _⟩ := hW
  have hA : DataW.TrodAll enc Tryz.prog W 0 (fun _ => true) true Tryz.f6.params.toList args.toList ds p := hA0
  rw [Tryz.params6] at hA hval
  obtain ⟨v0, vs0, d0, ds0, p0, q0, hargs0, hd0, hp0, h0, r0⟩ := trodAll_cons hA
  obtain ⟨v1, vs1, d1, ds1, p1, q1, hargs1, hd1, hp1, h1, r1⟩ := trodAll_cons r0
  obtain ⟨v2, vs2, d2, ds2, p2, q2, hargs2, hd2, hp2, h2, r2⟩ := trodAll_cons r1
  obtain ⟨e3, e3d, _⟩ := trodAll_nil r2
  rw [e3] at hargs2
  rw [hargs2] at hargs1
  rw [hargs1] at hargs0
  obtain rfl : args = #[v0, v1, v2] := by cases args; simp_all
  rw [e3d] at hd2
  rw [hd2] at hd1
  rw [hd1] at hd0
  subst hd0
  obtain ⟨rfl, rfl⟩ := trodVars_none hV
  obtain ⟨cs0, rfl, _⟩ := okWide_struct Tryz.underlying28 (hval 0 28 v0 rfl rfl)
  obtain ⟨fuel0, hf0⟩ := h0
  obtain ⟨row0, hok0, hrep0⟩ := open_row seatTR fuel0 _ _ _ _ ty_Signature hf0
  have e0c : (Value.agg cs0).cells.toList.toArray = cs0 := by simp [Value.cells]
  obtain ⟨fuel1, hf1⟩ := h1
  have hone1 := okWide_one Tryz.underlying53 (hval 1 53 v1 rfl rfl)
  rw [hone1] at hf1
  obtain ⟨row1, hok1, hrep1⟩ := open_row seatTR fuel1 _ _ _ _ ty_s_weight hf1
  obtain ⟨rows1, hok1', hrep1'⟩ := open_sl hok1 hrep1
  obtain ⟨cs2, rfl, _⟩ := okWide_struct Tryz.underlying64 (hval 2 64 v2 rfl rfl)
  obtain ⟨fuel2, hf2⟩ := h2
  obtain ⟨row2, hok2, hrep2⟩ := open_row seatTR fuel2 _ _ _ _ ty_Term hf2
  have e2c : (Value.agg cs2).cells.toList.toArray = cs2 := by simp [Value.cells]
  have hlaw := lawExactWeightForm W row0 _ _ hok0 hrep0 rows1 _ _ hok1' hrep1' row2 _ _ hok2 hrep2
  rw [e0c, e2c] at hlaw
  refine hlaw.mono fun e W' ⟨he, hb⟩ => ?_
  subst he
  exact ⟨_, rfl, law_post laidOut rfl rfl Tryz.underlying4 (by rw [Tryz.params6]; decide +kernel) hW' rfl hb⟩
set_option maxHeartbeats 400000000 in
set_option maxRecDepth 100000 in
theorem weightForm_holds_closed : joinedFacts Tryz.checked.prog 6 Tryz.f6 Rows.fnExactWeightFormSpec Rows.fnExactWeightFormRow = true := by
  unfold joinedFacts
  simp only [Bool.and_eq_true]
  and_intros
  all_goals as_aux_lemma => kernel_rfl
theorem weightForm_holds_named : Tryz.checked.prog.funcNamed Rows.fnExactWeightFormRow.func = some 6 := by kernel_rfl
theorem weightForm_holds : Rows.FnExactWeightFormSaid :=
  OpenClaim.holds_of_wide 6 Tryz.f6 rfl rfl rfl rfl rfl rfl rfl ⟨rfl, rfl, rfl, rfl, rfl⟩ rfl rfl rfl rfl rfl weightForm_holds_named Tryz.func6 weightForm_holds_closed
    (of_decide_eq_true (by kernel_rfl)) (by unfold Func.isWrapper; rw [if_neg (of_decide_eq_false (by kernel_rfl))]; exact ⟨rfl, rfl⟩)
    (fun os started H enc _ => weightForm_holds_lifted os started H enc)
#print axioms weightForm_holds
end Go.Proofs.YtofklmbljbkdaaaGreat
