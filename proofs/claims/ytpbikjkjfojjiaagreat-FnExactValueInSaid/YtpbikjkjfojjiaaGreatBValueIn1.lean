/-
  FnExactValueIn returns true for every signature, algebra, term and list of values, and turns nothing: proved without conditions.
-/
import Derived.Test.YtpbikjkjfojjiaaGreatBIsEquation0
import Derived.Test.YtpbikjkjfojjiaaGreatBIsEquation1
import Derived.Test.YtpbikjkjfojjiaaGreatBIsEquation2
import Derived.Test.YtpbikjkjfojjiaaGreatBIsEquation3
import Derived.Test.YtpbikjkjfojjiaaGreatBValueIn0
import Derived.Shelf.SlSortCmp.WholeK
import Derived.Shelf.SlSortCmp.NoneTotal
import Derived.Lib.QuietBelow
import Derived.Shelf.SlLaysF0
import Derived.Test.YtpbikjkjfojjiaaGreatChecked
set_option linter.unusedSimpArgs false
set_option linter.unusedVariables false
namespace Go.Proofs.YtpbikjkjfojjiaaGreat
open Go.RowKit
open Go.Sort (grow HoldsK putRowK flatK SWO PermIn SortedIn Holds mapBlock onCells putRow putCells get_flatK size_flatK)

theorem kept_grow {w w' : World} (h : Kept True (fun _ => False) w.heap.size w w') : ∃ q os, w' = grow (w.drewN q) os := by
  obtain ⟨p, hp⟩ := regrown_of_below (w := w) (w' := w') ⟨h.os, h.tape, h.output, h.size, fun k hk => h.block k hk id⟩
  have hd := h.drawn trivial
  have e : p.d = w'.drawn := by rw [hp]; rfl
  refine ⟨w'.drawn - w.drawn, p.os, ?_⟩
  have e2 : redrawn w p.d = w.drewN (w'.drawn - w.drawn) := by
    unfold redrawn World.drewN
    rw [e, show w.drawn + (w'.drawn - w.drawn) = w'.drawn by omega]
  rw [← e2]
  exact hp
/-- A row with values that stand for it. -/
abbrev SRow (w : World) (S : Nat → Prop) (Q : List C → Prop) := {x : List C × List Value // Q x.1 ∧ RepVals w S x.1 x.2}
theorem srows_of {w : World} {S : Nat → Prop} {b k : Nat} {Q : List C → Prop} (hk : ∀ r, Q r → r.length = k) : ∀ (rows : List (List C)) (off : Nat), (∀ r ∈ rows, Q r) → RepRows w S b off rows → ∃ l : List (SRow w S Q), l.map (fun x => x.1.1) = rows ∧ ∀ (i : Nat) x, l[i]? = some x → ∀ j u, x.1.2[j]? = some u → w.cell? ⟨b, off + i * k + j, none⟩ = some u
  | [], off, _, _ => ⟨[], rfl, fun i x h => by simp at h⟩
  | r :: rs, off, hQ, h => by
    simp only [RepRows] at h
    obtain ⟨vs, h1, h2⟩ := h.1.vals
    obtain ⟨l, e, hl⟩ := srows_of hk rs (off + r.length) (fun x hx => hQ x (List.mem_cons_of_mem _ hx)) h.2
    have hr := hQ r List.mem_cons_self
    refine ⟨⟨(r, vs), hr, h1⟩ :: l, by simp [e], fun i x hi j u hj => ?_⟩
    cases i with
    | zero =>
      simp only [List.getElem?_cons_zero, Option.some.injEq] at hi
      subst hi
      have := h2 j u hj
      rwa [Nat.zero_mul, Nat.add_zero]
    | succ i =>
      have := hl i x (by simpa using hi) j u hj
      rw [hk r hr] at this
      rwa [show off + (i + 1) * k + j = off + k + i * k + j by rw [Nat.succ_mul]; omega]
theorem reprows_of {w W : World} {S S2 : Nat → Prop} {b k : Nat} {Q : List C → Prop} (hk : ∀ r, Q r → r.length = k) (hv : ∀ x : SRow w S Q, RepVals W S2 x.1.1 x.1.2) : ∀ (l : List (SRow w S Q)) (off : Nat), (∀ (i : Nat) x, l[i]? = some x → ∀ j u, x.1.2[j]? = some u → W.cell? ⟨b, off + i * k + j, none⟩ = some u) → RepRows W S2 b off (l.map (fun x => x.1.1))
  | [], off, _ => by simp [RepRows]
  | x :: l, off, h => by
    simp only [List.map_cons, RepRows]
    refine ⟨RepRow.of_vals _ _ off (hv x) fun j u hj => ?_, ?_⟩
    · have := h 0 x rfl j u hj
      rwa [Nat.zero_mul, Nat.add_zero] at this
    · rw [hk _ x.2.1]
      refine reprows_of hk hv l (off + k) fun i y hi j u hj => ?_
      have := h (i + 1) y (by simpa using hi) j u hj
      rwa [show off + (i + 1) * k + j = off + k + i * k + j by rw [Nat.succ_mul]; omega] at this
theorem cells_holdsK {α : Type} [Inhabited α] {enc : α → List Value} {k : Nat} {W : World} {b : Nat} {d : Array α} (hk : ∀ x, (enc x).length = k) (h : HoldsK enc k W b 0 d) {i : Nat} {x : α} (hi : d.toList[i]? = some x) {j : Nat} {u : Value} (hj : (enc x)[j]? = some u) : W.cell? ⟨b, 0 + i * k + j, none⟩ = some u := by
  have hil : i < d.size := by have := (List.getElem?_eq_some_iff.1 hi).1; simpa using this
  have hjl : j < k := by have := (List.getElem?_eq_some_iff.1 hj).1; rwa [hk] at this
  have ht : i * k + j < d.size * k := by
    have := Nat.mul_le_mul_right k (show i + 1 ≤ d.size from hil)
    rw [Nat.succ_mul] at this
    omega
  have h1 := (h (i * k + j) (by rw [size_flatK]; exact ht)).1
  rw [get_flatK _ _ _ _ ht, show (i * k + j) / k = i by rw [Nat.add_comm, Nat.add_mul_div_right _ _ (by omega), Nat.div_eq_of_lt hjl, Nat.zero_add], show (i * k + j) % k = j by rw [Nat.add_comm, Nat.add_mul_mod_self_right, Nat.mod_eq_of_lt hjl]] at h1
  have e1 : d[i]! = x := by
    rw [getElem!_pos d i hil]
    have := (List.getElem?_eq_some_iff.1 hi).2
    simpa using this
  have e2 : (enc x)[j]! = u := by
    rw [getElem!_pos (enc x) j (by rw [hk]; exact hjl)]
    exact (List.getElem?_eq_some_iff.1 hj).2
  rw [e1, e2, ← Nat.add_assoc] at h1
  exact h1
theorem holdsK_of {α : Type} [Inhabited α] {enc : α → List Value} {k : Nat} {w : World} {b : Nat} {l : List α} (hk : ∀ x, (enc x).length = k) (hf : ∀ o, w.frozen? ⟨b, o, none⟩ = false) (h : ∀ (i : Nat) x, l[i]? = some x → ∀ j u, (enc x)[j]? = some u → w.cell? ⟨b, 0 + i * k + j, none⟩ = some u) : HoldsK enc k w b 0 l.toArray := by
  intro t ht
  refine ⟨?_, hf _⟩
  rw [size_flatK] at ht
  have ht' : t < l.length * k := by simpa using ht
  have k0 : 0 < k := by rcases Nat.eq_zero_or_pos k with e | e; · subst e; simp at ht'
                        · exact e
  have hi : t / k < l.length := Nat.div_lt_of_lt_mul (by rw [Nat.mul_comm]; exact ht')
  have hj : t % k < k := Nat.mod_lt _ k0
  rw [get_flatK _ _ _ _ ht]
  have e1 : l.toArray[t / k]! = l[t / k] := by rw [getElem!_pos _ _ (by simpa using hi)]; rfl
  rw [e1, getElem!_pos _ _ (by rw [hk]; exact hj)]
  have := h (t / k) l[t / k] (List.getElem?_eq_getElem hi) (t % k) _ (List.getElem?_eq_getElem (by rw [hk]; exact hj))
  rwa [show 0 + t / k * k + t % k = 0 + t by have := Nat.div_add_mod' t k; omega] at this
theorem RepVals.one {w : World} {S : Nat → Prop} : ∀ {cs : List C} {us : List Value}, cs.all okCell = true → RepVals w S cs us → ∀ v ∈ us, v.oneCell' = true
  | [], [], _, _, v, h => by simp at h
  | c :: cs, u :: us, hc, h, v, hv => by
    simp only [List.all_cons, Bool.and_eq_true] at hc
    simp only [RepVals] at h
    rcases List.mem_cons.1 hv with rfl | hv
    · exact okCell_one hc.1 h.1
    · exact RepVals.one hc.2 h.2 v hv
  | [], _ :: _, _, h, _, _ => by simp [RepVals] at h
  | _ :: _, [], _, h, _, _ => by simp [RepVals] at h
theorem sw_block {α : Type} [Inhabited α] {enc : α → List Value} {k : Nat} {w : World} {b n : Nat} {d : Array α} {os : Array Obj} {cur : Array Value} {ty : Nat} (hh : w.heap[b]? = some (.cells cur ty (0, 0))) : (sortWorldK enc k w b 0 n d os).heap[b]? = some (.cells (putCells id 0 (flatK enc k d) cur) ty (0, 0)) := by
  have hb : b < w.heap.size := (Array.getElem?_eq_some_iff.1 hh).1
  show ((w.heap.modify b (onCells (putCells id 0 (flatK enc k d)))) ++ os)[b]? = _
  rw [Array.getElem?_append_left (by simpa using hb), Array.getElem?_modify, if_pos rfl, hh]
  rfl
theorem sw_other {α : Type} [Inhabited α] {enc : α → List Value} {k : Nat} {w : World} {b n j : Nat} {d : Array α} {os : Array Obj} (hj : j < w.heap.size) (hne : j ≠ b) : (sortWorldK enc k w b 0 n d os).heap[j]? = w.heap[j]? := by
  show ((w.heap.modify b (onCells (putCells id 0 (flatK enc k d)))) ++ os)[j]? = _
  rw [Array.getElem?_append_left (by simpa using hj), Array.getElem?_modify, if_neg (fun e => hne e.symm)]
theorem sw_size {α : Type} [Inhabited α] {enc : α → List Value} {k : Nat} {w : World} {b n : Nat} {d : Array α} {os : Array Obj} : w.heap.size ≤ (sortWorldK enc k w b 0 n d os).heap.size := by
  show _ ≤ ((w.heap.modify b (onCells (putCells id 0 (flatK enc k d)))) ++ os).size
  simp
set_option maxHeartbeats 2000000 in
theorem conI_sort {P : Program} (hP : e1.P = P) {ρ : Go.Shelf.Ren} (L : SlLaysF0.n6 P ρ) {k ty : Nat} (aE : ∀ w, (isAgg (ρ.t 24)).run P w = .ok true w) (zE : ∀ w, (Go.sizeOf (ρ.t 24)).run P w = .ok k w) (hbody : hasBody P (ρ.f 6) = true) {g : FuncId} (eg : ∀ args w, (callFunc g args).run P w = .ok (.enter g args) w)
    {rows rows' : List (List C)} {cf : List C → List C → Int} (hlen : rows.length < 4611686018427387904) (hg : ∀ a ∈ rows, ∀ b ∈ rows, Con e1 g [.agg a, .agg b] [.one (.lit (.int .i64 (cf a b)))])
    (h1 : ∀ a ∈ rows, ¬ cf a a < 0) (h2 : ∀ a ∈ rows, ∀ b ∈ rows, ∀ c ∈ rows, cf a b < 0 → cf b c < 0 → cf a c < 0) (h3 : ∀ a ∈ rows, ∀ b ∈ rows, ∀ c ∈ rows, ¬ cf a b < 0 → ¬ cf b c < 0 → ¬ cf a c < 0)
    (hu : ∀ l : List (List C), l.Perm rows → (∀ (i j : Nat) a b, i < j → l[i]? = some a → l[j]? = some b → ¬ cf b a < 0) → l = rows') : ConI e1 (ρ.f 6) ty k rows [.one (.fn g [])] rows' [] := by
  refine ⟨by rw [hP]; exact hbody, fun w S v0 vs hS hE hvE hG hbuf hargs => ?_⟩
  rw [hP]
  match vs, hargs with
  | [u], hargs =>
    obtain ⟨⟨us, rfl, hus⟩, _⟩ : (∃ us : List Value, u = .func (.func g) #[] us.toArray ∧ RepVals w S [] us) ∧ True := by simpa [DsRel, DRel, Rep] using hargs
    have hus0 : us = [] := by cases us with
      | nil => rfl
      | cons _ _ => simp [RepVals] at hus
    subst hus0
    obtain ⟨h0, hrl, hcase⟩ := hbuf
    by_cases hne : rows = []
    · subst hne
      have hr' : rows' = [] := (hu [] (List.Perm.refl _) (fun i j a b _ h => by simp at h)).symm
      subst hr'
      have hform : ∃ p cap, v0 = .slice p 0 cap := by
        rcases hcase with ⟨_, a, rfl⟩ | ⟨b, cap, cur, rfl, _⟩
        · exact ⟨a, 0, rfl⟩
        · exact ⟨_, cap, rfl⟩
      obtain ⟨p, cap, hv0⟩ := hform
      rw [hv0]
      refine (AnyF.slices_SortFunc_none (P := P) L p cap _ w).mono ?_
      rintro e w' ⟨rfl, rfl⟩
      rw [← hv0]
      have hs : (fun b => S b ∨ (w'.heap.size ≤ b ∧ b < w'.heap.size)) = S := by
        funext b
        exact propext ⟨fun h => h.elim id (fun h => absurd h.2 (by omega)), .inl⟩
      refine ⟨_, rfl, Kept.refl .., trivial, ?_, [], rfl, trivial⟩
      rw [hs]
      exact ⟨h0, hrl, hcase⟩
    · rcases hcase with ⟨e, _⟩ | ⟨b, cap, cur, rfl, hc, hbz, hSb, hh, hle, hmx, hcs, hrows⟩
      · exact absurd e hne
      have hkr : ∀ r, r ∈ rows → r.length = k := fun r hr => (hrl r hr).1
      obtain ⟨l, hl, hcell⟩ := srows_of (k := k) (Q := fun r => r ∈ rows) hkr rows 0 (fun r h => h) hrows
      have hll : l.length = rows.length := by have := congrArg List.length hl; rwa [List.length_map] at this
      obtain ⟨x0, hx0⟩ : ∃ x, x ∈ l := List.exists_mem_of_ne_nil _ (fun e => hne (List.eq_nil_of_length_eq_zero (by rw [← hll, e]; rfl)))
      letI : Inhabited (SRow w S (fun r => r ∈ rows)) := ⟨x0⟩
      have hk : ∀ x : SRow w S (fun r => r ∈ rows), x.1.2.length = k := fun x => by rw [x.2.2.len]; exact hkr _ x.2.1
      have h1c : ∀ x : SRow w S (fun r => r ∈ rows), ∀ v ∈ x.1.2, v.oneCell' = true := fun x => RepVals.one (hrl _ x.2.1).2 x.2.2
      have hH : HoldsK (fun x : SRow w S (fun r => r ∈ rows) => x.1.2) k w b 0 l.toArray := holdsK_of hk (fun o => frozen_of_row w b o cur ty hh) hcell
      have keepV : ∀ (m : Nat) (os : Array Obj) (dk : Array (SRow w S (fun r => r ∈ rows))) (S2 : Nat → Prop), (∀ b, S b → S2 b) → ∀ x : SRow w S (fun r => r ∈ rows), RepVals (sortWorldK (fun x : SRow w S (fun r => r ∈ rows) => x.1.2) k w b 0 m dk os) S2 x.1.1 x.1.2 := fun m os dk S2 hS2 x =>
        RepVals.keep2 sw_size (fun b' o hb' => cell_of_heap (sw_other (hS b' hb').1 (fun e : b' = b => hSb (by rw [← e]; exact hb'))) o) hS2 x.2.2
      have hcmp : CmpLays P g #[] (fun x : SRow w S (fun r => r ∈ rows) => x.1.2) k (fun x y => cf x.1.1 y.1.1) b 0 l.toArray.size w := by
        intro m os dk hdk x y
        have hc := (hg _ x.2.1 _ y.2.1).2 (sortWorldK (fun x : SRow w S (fun r => r ∈ rows) => x.1.2) k w b 0 m dk os) S [.agg x.1.2.toArray, .agg y.1.2.toArray] (fun b' hb' => ⟨Nat.lt_of_lt_of_le (hS b' hb').1 sw_size, id⟩) (fun b' h => h.elim) trivial
          ⟨⟨_, rfl, keepV m os dk S (fun _ h => h) x⟩, ⟨_, rfl, keepV m os dk S (fun _ h => h) y⟩, trivial⟩
        rw [hP] at hc
        refine hc.mono ?_
        rintro e w' ⟨v, rfl, hK, _, hv⟩
        have hv : v = .int .i64 (cf x.1.1 y.1.1) := by simpa [retA, ARel, DRel, Rep] using hv
        exact ⟨by rw [hv], kept_grow hK⟩
      have hO : SWO (ltOf (fun x y : SRow w S (fun r => r ∈ rows) => cf x.1.1 y.1.1)) := by
        refine ⟨fun x => ?_, fun x y z => ?_, fun x y z => ?_⟩ <;> simp only [ltOf, decide_eq_false_iff_not, decide_eq_true_eq]
        · exact h1 _ x.2.1
        · exact h2 _ x.2.1 _ y.2.1 _ z.2.1
        · exact h3 _ x.2.1 _ y.2.1 _ z.2.1
      have hsort := AnyQ.slices_SortFunc L k aE zE (fun x : SRow w S (fun r => r ∈ rows) => x.1.2) hk h1c (fun x y => cf x.1.1 y.1.1) hO g #[] b 0 cap l.toArray w eg hcmp hH hbz (by simp only [List.size_toArray]; omega)
      have hlz : l.toArray.size = rows.length := by simpa using hll
      rw [hlz] at hsort
      refine hsort.mono ?_
      rintro e w' ⟨rfl, d', n, os, hp, hs, rfl⟩
      obtain ⟨hp1, _, hp3⟩ := hp
      rw [hlz] at hp1
      have hex : ∀ a : Array (SRow w S (fun r => r ∈ rows)), a.size = rows.length → a.extract 0 rows.length = a := fun a ha => by rw [← ha]; simp
      rw [hex d' hp1, hex _ hlz] at hp3
      have hperm : (d'.toList.map (fun x => x.1.1)).Perm rows := by
        have := hp3.map (fun x : SRow w S (fun r => r ∈ rows) => x.1.1)
        rwa [show l.toArray.toList = l from rfl, hl] at this
      have hrows' : d'.toList.map (fun x => x.1.1) = rows' := hu _ hperm fun i j a c hij ha hc => by
        simp only [List.getElem?_map, Option.map_eq_some_iff] at ha hc
        obtain ⟨x, hx, rfl⟩ := ha
        obtain ⟨y, hy, rfl⟩ := hc
        have hjl : j < rows.length := by have := (List.getElem?_eq_some_iff.1 hy).1; simpa [hp1] using this
        have := hs i j (Nat.zero_le _) hij hjl
        have ex : d'[i]! = x := by
          rw [getElem!_pos d' i (by omega)]
          have := (List.getElem?_eq_some_iff.1 hx).2
          simpa using this
        have ey : d'[j]! = y := by
          rw [getElem!_pos d' j (by omega)]
          have := (List.getElem?_eq_some_iff.1 hy).2
          simpa using this
        rw [ex, ey] at this
        simpa [ltOf] using this
      have hlr : rows'.length = rows.length := by rw [← hrows', List.length_map, Array.length_toList, hp1]
      have hW : HoldsK (fun x : SRow w S (fun r => r ∈ rows) => x.1.2) k (sortWorldK (fun x : SRow w S (fun r => r ∈ rows) => x.1.2) k w b 0 n d' os) b 0 d' := SWK.holds (d0 := l.toArray) ⟨n, os, rfl⟩ hbz hH (by rw [hp1, hlz])
      have hvb : vblk (.slice (some ⟨b, 0, none⟩) rows.length cap) = some b := by simp only [vblk]; rw [if_neg (by omega)]
      refine ⟨_, rfl, ⟨rfl, rfl, rfl, fun _ => Nat.le_add_right _ _, sw_size, fun j hj hn => sw_other hj (fun e => hn (.inr (by rw [hvb, e])))⟩, trivial, ⟨h0, fun r hr => ?_, .inr ⟨b, cap, _, by rw [hlr], hc, Nat.lt_of_lt_of_le hbz sw_size, fun hn => ?_, sw_block hh, by omega, hmx, by simp [putCells, hcs], ?_⟩⟩, [], rfl, trivial⟩
      · rw [← hrows'] at hr
        exact hrl r (hperm.mem_iff.1 hr)
      · rcases hn with hn | hn
        · exact hSb hn
        · omega
      · rw [← hrows']
        exact reprows_of (Q := fun r => r ∈ rows) hkr (keepV n os d' _ (fun b hb => .inl hb)) d'.toList 0 fun i x hi j u hj => cells_holdsK hk hW hi hj
end Go.Proofs.YtpbikjkjfojjiaaGreat

namespace Go.Proofs.YtpbikjkjfojjiaaGreat
open Go.Shelf

def sortT_ren : Ren := ⟨fun | 6 => 122 | 15 => 156 | 14 => 155 | 28 => 182 | 29 => 183 | 20 => 174 | 21 => 175 | 22 => 176 | 23 => 177 | 24 => 178 | 25 => 179 | 26 => 180 | 27 => 181 | 46 => 186 | 47 => 187 | 48 => 188 | 49 => 189 | 50 => 190 | 57 => 192 | n => n, fun | 22 => 45 | 24 => 47 | 25 => 183 | 3 => 3 | 39 => 210 | 0 => 0 | 53 => 233 | 55 => 235 | 4 => 4 | 46 => 226 | 45 => 225 | 50 => 230 | 5 => 5 | 9 => 9 | 66 => 236 | 70 => 240 | 76 => 242 | 77 => 243 | n => n, fun | n => n⟩
theorem sortT : Go.Proofs.SlLaysF0.n6 Tryz.prog sortT_ren := {
  mixed := by kernel_rfl,
  f6 := ⟨Tryz.f122.name, by decide, Tryz.func122.trans (congrArg some (by kernel_rfl))⟩,
  f14 := ⟨Tryz.f155.name, by decide, Tryz.func155.trans (congrArg some (by kernel_rfl))⟩,
  f15 := Tryz.func156.trans (congrArg some (by kernel_rfl)),
  f20 := ⟨Tryz.f174.name, by decide, Tryz.func174.trans (congrArg some (by kernel_rfl))⟩,
  f21 := ⟨Tryz.f175.name, by decide, Tryz.func175.trans (congrArg some (by kernel_rfl))⟩,
  f22 := ⟨Tryz.f176.name, by decide, Tryz.func176.trans (congrArg some (by kernel_rfl))⟩,
  f23 := ⟨Tryz.f177.name, by decide, Tryz.func177.trans (congrArg some (by kernel_rfl))⟩,
  f24 := ⟨Tryz.f178.name, by decide, Tryz.func178.trans (congrArg some (by kernel_rfl))⟩,
  f25 := ⟨Tryz.f179.name, by decide, Tryz.func179.trans (congrArg some (by kernel_rfl))⟩,
  f26 := ⟨Tryz.f180.name, by decide, Tryz.func180.trans (congrArg some (by kernel_rfl))⟩,
  f27 := ⟨Tryz.f181.name, by decide, Tryz.func181.trans (congrArg some (by kernel_rfl))⟩,
  f28 := Tryz.func182.trans (congrArg some (by kernel_rfl)),
  f29 := Tryz.func183.trans (congrArg some (by kernel_rfl)),
  f46 := ⟨Tryz.f186.name, by decide, Tryz.func186.trans (congrArg some (by kernel_rfl))⟩,
  f47 := Tryz.func187.trans (congrArg some (by kernel_rfl)),
  f48 := Tryz.func188.trans (congrArg some (by kernel_rfl)),
  f49 := ⟨Tryz.f189.name, by decide, Tryz.func189.trans (congrArg some (by kernel_rfl))⟩,
  f50 := ⟨Tryz.f190.name, by decide, Tryz.func190.trans (congrArg some (by kernel_rfl))⟩,
  f57 := ⟨Tryz.f192.name, by decide, Tryz.func192.trans (congrArg some (by kernel_rfl))⟩,
  t0 := Tryz.underlying0,
  a0 := Tryz.isAgg0,
  z0 := Tryz.sizeOf0,
  v0 := Tryz.zeroValue0,
  t3 := Tryz.underlying3,
  a3 := Tryz.isAgg3,
  z3 := Tryz.sizeOf3,
  v3 := Tryz.zeroValue3,
  t4 := Tryz.underlying4,
  a4 := Tryz.isAgg4,
  z4 := Tryz.sizeOf4,
  v4 := Tryz.zeroValue4,
  t5 := Tryz.underlying5,
  a5 := Tryz.isAgg5,
  z5 := Tryz.sizeOf5,
  v5 := Tryz.zeroValue5,
  t9 := Tryz.underlying9,
  a9 := Tryz.isAgg9,
  z9 := Tryz.sizeOf9,
  v9 := Tryz.zeroValue9,
  t22 := Tryz.underlying45,
  a22 := Tryz.isAgg45,
  z22 := Tryz.sizeOf45,
  v22 := Tryz.zeroValue45,
  t25 := Tryz.underlying183,
  a25 := Tryz.isAgg183,
  z25 := Tryz.sizeOf183,
  v25 := Tryz.zeroValue183,
  t39 := Tryz.underlying210,
  a39 := Tryz.isAgg210,
  z39 := Tryz.sizeOf210,
  v39 := Tryz.zeroValue210,
  t45 := Tryz.underlying225,
  a45 := Tryz.isAgg225,
  z45 := Tryz.sizeOf225,
  v45 := Tryz.zeroValue225,
  t46 := Tryz.underlying226,
  a46 := Tryz.isAgg226,
  z46 := Tryz.sizeOf226,
  v46 := Tryz.zeroValue226,
  t50 := Tryz.underlying230,
  a50 := Tryz.isAgg230,
  z50 := Tryz.sizeOf230,
  v50 := Tryz.zeroValue230,
  t53 := Tryz.underlying233,
  a53 := Tryz.isAgg233,
  z53 := Tryz.sizeOf233,
  v53 := Tryz.zeroValue233,
  t55 := Tryz.underlying235,
  a55 := Tryz.isAgg235,
  z55 := Tryz.sizeOf235,
  v55 := Tryz.zeroValue235,
  t66 := Tryz.underlying236,
  a66 := Tryz.isAgg236,
  z66 := Tryz.sizeOf236,
  v66 := Tryz.zeroValue236,
  t70 := Tryz.underlying240,
  a70 := Tryz.isAgg240,
  z70 := Tryz.sizeOf240,
  v70 := Tryz.zeroValue240,
  t76 := Tryz.underlying242,
  a76 := Tryz.isAgg242,
  z76 := Tryz.sizeOf242,
  v76 := Tryz.zeroValue242,
  t77 := Tryz.underlying243,
  a77 := Tryz.isAgg243,
  z77 := Tryz.sizeOf243,
  v77 := Tryz.zeroValue243 }
end Go.Proofs.YtpbikjkjfojjiaaGreat

namespace Go.Proofs.YtpbikjkjfojjiaaGreat
open Go.RowKit

def zTm0 : Tm := .mk 0 ByteArray.empty 0 []
/-! A list without what is equal to the one ahead of it. -/
def ddT : Option Tm → List Tm → List Tm
  | _, [] => []
  | none, x :: xs => x :: ddT (some x) xs
  | some y, x :: xs => if cmpTm x y = 0 then ddT (some x) xs else x :: ddT (some x) xs
def lastO : Option Tm → List Tm → Option Tm
  | p, [] => p
  | _, x :: xs => lastO (some x) xs
theorem ddT_snoc : ∀ (p : Option Tm) (l : List Tm) (x : Tm), ddT p (l ++ [x]) = match lastO p l with
    | none => ddT p l ++ [x]
    | some y => if cmpTm x y = 0 then ddT p l else ddT p l ++ [x]
  | none, [], x => rfl
  | some y, [], x => by simp only [List.nil_append, ddT, lastO]
  | none, a :: l, x => by
    simp only [List.cons_append, ddT, lastO, ddT_snoc (some a) l x]
    split
    · rfl
    · split <;> rfl
  | some y, a :: l, x => by
    simp only [List.cons_append, ddT, lastO, ddT_snoc (some a) l x]
    split
    · rfl
    · split
      · rfl
      · split <;> rfl
theorem lastO_take : ∀ (p : Option Tm) (l : List Tm) (i : Nat) (y : Tm), l[i]? = some y → lastO p (l.take (i + 1)) = some y
  | p, [], i, y, h => by simp at h
  | p, x :: xs, 0, y, h => by simp at h; subst h; simp [lastO]
  | p, x :: xs, i + 1, y, h => by
    simp only [List.take_succ_cons, lastO]
    exact lastO_take (some x) xs i y (by simpa using h)
theorem ddT_step {l : List Tm} {i : Nat} {x y : Tm} (hx : l[i + 1]? = some x) (hy : l[i]? = some y) : ddT none (l.take (i + 2)) = if cmpTm x y = 0 then ddT none (l.take (i + 1)) else ddT none (l.take (i + 1)) ++ [x] := by
  have e : l.take (i + 2) = l.take (i + 1) ++ [x] := by simp [List.take_add_one, hx]
  rw [e, ddT_snoc, lastO_take none l i y hy]
theorem ddT_one {l : List Tm} {x : Tm} (hx : l[0]? = some x) : ddT none (l.take 1) = [x] := by
  cases l with
  | nil => simp at hx
  | cons a l => simp at hx; subst hx; simp [ddT]
def Up (l : List Tm) : Prop := l.Pairwise fun a b => cmpTm a b ≤ 0
theorem ddT_up : ∀ (l : List Tm) (y : Tm), Up l → (∀ x ∈ l, cmpTm y x ≤ 0) → Asc (ddT (some y) l) ∧ (∀ z ∈ ddT (some y) l, cmpTm y z < 0) ∧ ∀ z, (z = y ∨ z ∈ ddT (some y) l) ↔ (z = y ∨ z ∈ l)
  | [], y, _, _ => ⟨List.Pairwise.nil, fun z h => by simp [ddT] at h, fun z => by simp [ddT]⟩
  | x :: xs, y, hu, hy => by
    have h1 := List.pairwise_cons.1 hu
    have hyx := hy x List.mem_cons_self
    obtain ⟨k1, k2, k3⟩ := ddT_up xs x h1.2 h1.1
    simp only [ddT]
    by_cases h0 : cmpTm x y = 0
    · rw [if_pos h0]
      have e := cmpTm_zero h0
      subst e
      exact ⟨k1, k2, fun z => by rw [k3 z]; simp⟩
    · rw [if_neg h0]
      have hlt : cmpTm y x < 0 := by rw [cmpTm_neg x y] at hyx ⊢; omega
      refine ⟨List.pairwise_cons.2 ⟨k2, k1⟩, fun z hz => ?_, fun z => ?_⟩
      · rcases List.mem_cons.1 hz with rfl | hz
        · exact hlt
        · exact cmpTm_lt_trans hlt (k2 z hz)
      · have := k3 z
        simp only [List.mem_cons]
        rw [this]
theorem ddT_dist {l : List Tm} (h : Up l) : ddT none l = distTm l := by
  cases l with
  | nil => rfl
  | cons x xs =>
    have h1 := List.pairwise_cons.1 h
    obtain ⟨k1, k2, k3⟩ := ddT_up xs x h1.2 h1.1
    simp only [ddT]
    refine (distTm_eq (List.pairwise_cons.2 ⟨k2, k1⟩) fun t => ?_).symm
    simp only [List.mem_cons]
    exact k3 t
theorem ddT_len : ∀ (p : Option Tm) (l : List Tm), (ddT p l).length ≤ l.length
  | _, [] => by simp [ddT]
  | none, x :: xs => by simp only [ddT, List.length_cons]; have := ddT_len (some x) xs; omega
  | some y, x :: xs => by
    simp only [ddT]
    have := ddT_len (some x) xs
    split <;> simp only [List.length_cons] <;> omega
/-- Terms in ascending order, one of them for each in the list. -/
def sortTm (l : List Tm) : List Tm := l.mergeSort fun a b => decide (cmpTm a b ≤ 0)
theorem sortTm_perm (l : List Tm) : (sortTm l).Perm l := List.mergeSort_perm l _
theorem sortTm_up (l : List Tm) : Up (sortTm l) := by
  have h := List.pairwise_mergeSort (le := fun a b => decide (cmpTm a b ≤ 0)) (fun a b c h1 h2 => by simp only [decide_eq_true_eq] at *; exact cmpTm_le_trans h1 h2) (fun a b => by
    simp only [Bool.or_eq_true, decide_eq_true_eq]
    have := cmpTm_neg a b
    omega) l
  exact h.imp fun h => by simpa using h
theorem up_perm : ∀ {l l' : List Tm}, Up l → Up l' → l.Perm l' → l = l'
  | [], l', _, _, h => by have := h.length_eq; cases l' with | nil => rfl | cons _ _ => simp at this
  | x :: xs, [], _, _, h => by have := h.length_eq; simp at this
  | x :: xs, y :: ys, h1, h2, h => by
    have p1 := List.pairwise_cons.1 h1
    have p2 := List.pairwise_cons.1 h2
    have hx : x ∈ y :: ys := h.mem_iff.1 List.mem_cons_self
    have hy : y ∈ x :: xs := h.mem_iff.2 List.mem_cons_self
    have e : x = y := by
      rcases List.mem_cons.1 hx with e | hx
      · exact e
      · rcases List.mem_cons.1 hy with e | hy
        · exact e.symm
        · have a1 := p2.1 x hx
          have a2 := p1.1 y hy
          refine cmpTm_zero ?_
          rw [cmpTm_neg x y] at a1
          omega
    subst e
    rw [up_perm p1.2 p2.2 h.cons_inv]
theorem distTm_perm {l l' : List Tm} (h : l.Perm l') : distTm l = distTm l' := (distTm_asc l).ext (distTm_asc l') fun t => by rw [mem_distTm, mem_distTm, h.mem_iff]
mutual
theorem encTm_inj : ∀ {a b : Tm}, encTm a = encTm b → a = b
  | .mk o n s a, .mk o' n' s' a', h => by
    simp only [encTm, List.cons.injEq, C.lit.injEq, C.sl.injEq, Value.int.injEq, Value.string.injEq, true_and, and_true] at h
    obtain ⟨rfl, rfl, rfl, h⟩ := h
    rw [encTms_inj h]
theorem encTms_inj : ∀ {a b : List Tm}, encTms a = encTms b → a = b
  | [], [], _ => rfl
  | [], _ :: _, h => by simp [encTms] at h
  | _ :: _, [], h => by simp [encTms] at h
  | x :: xs, y :: ys, h => by
    simp only [encTms, List.cons.injEq] at h
    rw [encTm_inj h.1, encTms_inj h.2]
end
open Classical in
/-- The term of a row. -/
noncomputable def unT (r : List C) : Tm := if h : ∃ t, r = encTm t then h.choose else zTm0
theorem unT_enc (t : Tm) : unT (encTm t) = t := by
  have h : ∃ t', encTm t = encTm t' := ⟨t, rfl⟩
  unfold unT
  rw [dif_pos h]
  exact (encTm_inj h.choose_spec).symm
theorem map_unT (l : List Tm) : (encTms l).map unT = l := by
  rw [encTms_eq, List.map_map]
  conv => rhs; rw [← List.map_id l]
  exact List.map_congr_left fun t _ => unT_enc t
theorem conI_10 {f : FuncId} {ty sz : Nat} {rows rows' : List (List C)} {args r : List D} (h : ConI e1 f ty sz rows args rows' r) : ConI e0 f ty sz rows args rows' r :=
  ⟨h.1, fun w S v0 vs h1 h2 h3 h4 h5 h6 => (h.2 w S v0 vs h1 h2 h3 h4 h5 h6).mono fun en w' ⟨v, k1, k2, k3⟩ => ⟨v, k1, ⟨k2.os, k2.tape, k2.output, fun d => d.elim, k2.size, k2.block⟩, k3⟩⟩
theorem conI_sortT (ts : List Tm) (hl : ts.length ≤ 1048576) : ConI e0 122 47 4 (encTms ts) [.one (.fn 123 [])] (encTms (sortTm ts)) [] := by
  have hrow : ∀ a ∈ encTms ts, a = encTm (unT a) := fun a ha => by
    rw [encTms_eq] at ha
    obtain ⟨t, _, rfl⟩ := List.mem_map.1 ha
    rw [unT_enc]
  exact conI_10 (conI_sort (P := Tryz.prog) rfl sortT (k := 4) (ty := 47) Tryz.isAgg47 Tryz.sizeOf47 (by kernel_rfl) (g := 123) (enters_of Tryz.func123 (by kernel_rfl) rfl) (rows := encTms ts) (rows' := encTms (sortTm ts)) (cf := fun a b => cmpTm (unT a) (unT b)) (by rw [encTms_len]; omega)
    (fun a ha b hb => by
      have h := con_cmp1 (unT a) (unT b)
      rwa [← hrow a ha, ← hrow b hb] at h)
    (fun a _ => by rw [cmpTm_self]; omega) (fun a _ b _ c _ h1 h2 => cmpTm_lt_trans h1 h2) (fun a _ b _ c _ h1 h2 => by
      rw [cmpTm_neg (unT b) (unT a)] at h1
      rw [cmpTm_neg (unT c) (unT b)] at h2
      rw [cmpTm_neg (unT c) (unT a)]
      have := cmpTm_le_trans (a := unT c) (b := unT b) (c := unT a) (by omega) (by omega)
      omega)
    (fun l hp hs => by
      have hmem : ∀ a ∈ l, a = encTm (unT a) := fun a ha => hrow a (hp.mem_iff.1 ha)
      have hp2 : (l.map unT).Perm ts := by have := hp.map unT; rwa [map_unT] at this
      have hup : Up (l.map unT) := by
        refine List.pairwise_iff_getElem.2 fun i j hi hj hij => ?_
        simp only [List.getElem_map]
        simp only [List.length_map] at hi hj
        have := hs i j l[i] l[j] hij (List.getElem?_eq_getElem hi) (List.getElem?_eq_getElem hj)
        rw [cmpTm_neg (unT l[j]) (unT l[i])]
        omega
      have e := up_perm (sortTm_up ts) hup ((sortTm_perm ts).trans hp2.symm)
      rw [e, encTms_eq, List.map_map]
      conv => lhs; rw [← List.map_id l]
      exact List.map_congr_left fun a ha => hmem a ha))
theorem con_implSame (a b : Tm) : Con e0 120 [.agg (encTm a), .agg (encTm b)] [.one (.lit (.bool (decide (cmpTm a b = 0))))] := by
  refine gI (ts := [.slot 4]) 31 Tryz.func120 ?_
  (have F := @tmz; refine gG ?_; clear F)
  refine gB ?_
  (have F := @tmz; refine gC (con_1 (con_cmp1 a b)) ?_; clear F)
  (have F := @tmz; refine gR ?_; clear F)
  (have F := @tmz; refine gG ?_; exact gTd)
end Go.Proofs.YtpbikjkjfojjiaaGreat

namespace Go.Proofs.YtpbikjkjfojjiaaGreat
open Go.RowKit

theorem valTm_var {g : Sgn} {a : Alg} {vs : List Tm} {xs : List Int} {t : Tm} (h : t.op < 0) : valTm g a vs xs t = valV vs xs t := by
  obtain ⟨op, nm, so, args⟩ := t
  simp only [Tm.op] at h
  rw [valTm, if_pos h]
theorem valTm_app {g : Sgn} {a : Alg} {vs : List Tm} {xs : List Int} {t : Tm} (h : ¬ t.op < 0) : valTm g a vs xs t = opV (isAs g t.op) a.size (a.tables.getD t.op.toNat []) (valTms g a vs xs t.args) := by
  obtain ⟨op, nm, so, args⟩ := t
  simp only [Tm.op, Tm.args] at h ⊢
  rw [valTm, if_neg h]
theorem var_self {g : Sgn} {t : Tm} (h : VarOk g t) : t ∈ varsTm t := by
  obtain ⟨op, nm, so, args⟩ := t
  have e1 := h.1
  have e2 := h.2.2.2.2
  simp only [Tm.op, Tm.args] at e1 e2
  subst e1 e2
  simp [varsTm]
theorem vars_arg {t b : Tm} (hop : 0 ≤ t.op) (hb : b ∈ t.args) : ∀ v ∈ varsTm b, v ∈ varsTm t := by
  obtain ⟨op, nm, so, args⟩ := t
  simp only [Tm.op, Tm.args] at hop hb
  have h : ¬ op = -1 := by omega
  intro v hv
  simp only [varsTm, if_neg h]
  clear hop h
  induction args with
  | nil => cases hb
  | cons x xs ih =>
    simp only [varsTms, List.mem_append]
    rcases List.mem_cons.1 hb with rfl | hb
    · exact .inl hv
    · exact .inr (ih hb)
set_option maxHeartbeats 4000000 in
set_option maxRecDepth 100000 in
theorem con_indexAt {ts : List Tm} {f : FuncId} {caps : List C} {P : Tm → Bool} (hl : ts.length ≤ big) (h : ∀ a ∈ ts, Con e0 f (.agg (encTm a) :: caps.map .one) [.one (.lit (.bool (P a)))]) :
    ∃ r : Int, ((∃ (k : Nat) (a : Tm), r = k ∧ ts[k]? = some a ∧ P a = true ∧ ∀ (j : Nat) a, j < k → ts[j]? = some a → P a = false) ∨ (r = -1 ∧ ts.any P = false)) ∧ Con e0 118 [.one (.sl (encTms ts)), .one (.fn f caps)] [.one (.lit (.int .i64 r))] := by
  unfold big at hl
  by_cases hA : ts.any P = true
  · obtain ⟨k, hk, hbef⟩ : ∃ k : Nat, (∃ a, ts[k]? = some a ∧ P a = true) ∧ ∀ (j : Nat) a, j < k → ts[j]? = some a → P a = false := by
      have hex : ∃ k : Nat, ∃ a, ts[k]? = some a ∧ P a = true := by
        obtain ⟨a, ha, hp⟩ := List.any_eq_true.1 hA
        obtain ⟨k, hk⟩ := List.getElem?_of_mem ha
        exact ⟨k, a, hk, hp⟩
      obtain ⟨k, hk, hmin⟩ := least hex
      refine ⟨k, hk, fun j a hj ha => ?_⟩
      cases hp : P a with
      | false => rfl
      | true => exact absurd ⟨a, ha, hp⟩ (hmin j hj)
    obtain ⟨a0, ha0, hp0⟩ := hk
    have hkl := (List.getElem?_eq_some_iff.1 ha0).1
    refine ⟨(k : Int), .inl ⟨k, a0, rfl, ha0, hp0, hbef⟩, ?_⟩
    refine gI 66483 Tryz.func118 ?_
    (have F := @tmz; refine gG ?_; clear F)
    (have F := @e0P; refine gL (ι := Nat) [4, 5, 8, 9, 16] [] (fun i => [(8, A.d (.one (.lit (.int .i64 i))))]) (fun i => []) (fun i => i ≤ k) (fun i => k + 1 - i) (0) (by omega) (fun i hi => ?_); clear F)
    have hl' : (i : Int) < (ts.length : Int) := by omega
    obtain ⟨a, ha⟩ : ∃ a, ts[i]? = some a := ⟨_, List.getElem?_eq_getElem (by omega)⟩
    have hw1 := wrap1 (k := i) (by omega)
    (have F := And.intro @tmz @hl'; refine gG ?_; clear F)
    refine gB ?_
    (have F := And.intro @tmz @ha; refine gC (h a (List.mem_of_getElem? ha)) ?_; clear F)
    by_cases hik : i = k
    · subst hik
      rw [ha] at ha0
      injection ha0 with ha0
      subst ha0
      (have F := And.intro @tmz @hp0; refine gR ?_; clear F)
      (have F := @tmz; refine gG ?_; exact gT)
    · have hpf := hbef i a (by omega) ha
      (have F := And.intro @tmz @hpf; refine gR ?_; clear F)
      (have F := And.intro @hw1 @tmz; refine gG ?_; exact ⟨i + 1, by omega, gw, gw, by omega⟩)
  · have hbef : ∀ (j : Nat) a, ts[j]? = some a → P a = false := fun j a ha => by
      cases hp : P a with
      | false => rfl
      | true => exact absurd (List.any_eq_true.2 ⟨a, List.mem_of_getElem? ha, hp⟩) hA
    refine ⟨-1, .inr ⟨rfl, by simpa using hA⟩, ?_⟩
    refine gI 66483 Tryz.func118 ?_
    (have F := @tmz; refine gG ?_; clear F)
    (have F := @e0P; refine gL (ι := Nat) [4, 5, 8, 9, 16] [] (fun i => [(8, A.d (.one (.lit (.int .i64 i))))]) (fun i => []) (fun i => i ≤ ts.length) (fun i => ts.length - i) (0) (by omega) (fun i hi => ?_); clear F)
    by_cases hi' : i < ts.length
    rotate_left
    · have hl' : ¬ ((i : Int) < (ts.length : Int)) := by omega
      (have F := And.intro @tmz @hl'; refine gG ?_; exact gT)
    have hl' : (i : Int) < (ts.length : Int) := by omega
    obtain ⟨a, ha⟩ : ∃ a, ts[i]? = some a := ⟨_, List.getElem?_eq_getElem (by omega)⟩
    have hw1 := wrap1 (k := i) (by omega)
    have hpf := hbef i a ha
    (have F := And.intro @tmz @hl'; refine gG ?_; clear F)
    refine gB ?_
    (have F := And.intro @tmz @ha; refine gC (h a (List.mem_of_getElem? ha)) ?_; clear F)
    (have F := And.intro @tmz @hpf; refine gR ?_; clear F)
    (have F := And.intro @hw1 @tmz; refine gG ?_; exact ⟨i + 1, by omega, gw, gw, by omega⟩)
theorem con_valC (t v : Tm) : Con e0 119 [.agg (encTm v), .one (.ptr (encTm t))] [.one (.lit (.bool (decide (cmpTm v t = 0))))] := by
  refine gI 15 Tryz.func119 ?_
  (have F := @tmz; refine gG ?_; clear F)
  refine gB ?_
  (have F := @tmz; refine gC (con_implSame v t) ?_; clear F)
  (have F := @tmz; refine gR ?_; clear F)
  (have F := @tmz; refine gG ?_; exact gT)
theorem rb_in (l : List Int) : rowsB 1 (l.map encInt) = true := rb_int l
set_option maxHeartbeats 8000000 in
set_option maxRecDepth 100000 in
theorem con_implVal_all {g : Sgn} {a : Alg} {vs : List Tm} {xs : List Int} (hA : AlgOk g a) (hv : ValOk a vs xs) (hvs : vs.length ≤ big) : ∀ (n : Nat) (t : Tm), sizeTm t < n → FormOk g t → (∀ v ∈ varsTm t, v ∈ vs) → sizeTm t ≤ big →
    Con e0 71 [.agg (encSgn g), .agg (encAlg a), .agg (encTm t), .one (.sl (encTms vs)), .one (.sl (xs.map encInt))] [.one (.lit (.int .i64 (valTm g a vs xs t)))] := by
  intro n
  induction n with
  | zero => exact fun _ h => by omega
  | succ n ih =>
    intro t hn hf hin hbig
    rw [encSgn, encAlg] at ih ⊢
    refine gI 2361201255833835568383 Tryz.func71 ?_
    rcases op_cases hf.node with ⟨hvar, hop⟩ | ⟨hop, o, d, hap⟩
    · have q1 : (t.op < 0) = True := eq_true hop
      rw [valTm_var hop]
      have c := con_indexAt (ts := vs) (f := 119) (caps := [.ptr (encTm t)]) (P := fun v => decide (cmpTm v t = 0)) hvs fun v _ => con_valC t v
      obtain ⟨r, hr, c⟩ := c
      have hmem := hin t (var_self hvar)
      rcases hr with ⟨k, v, rfl, hk, hp, hbef⟩ | ⟨rfl, hno⟩
      rotate_left
      · have := List.any_eq_false.1 hno t hmem
        simp [cmpTm_self] at this
      have hkl := (List.getElem?_eq_some_iff.1 hk).1
      obtain ⟨x, hx⟩ : ∃ x, xs[k]? = some x := ⟨_, List.getElem?_eq_getElem (by rw [hv.len]; exact hkl)⟩
      have e := valV_get hk hx (by simpa using hp) fun j u hj hu => by simpa using hbef j u hj hu
      rw [e]
      (have F := And.intro @tmz @q1; refine gG ?_; clear F)
      refine gB ?_
      (have F := @tmz; refine gC (c) ?_; clear F)
      (have F := And.intro @tmz (And.intro @encInt_u @hx); refine gR ?_; clear F)
      (have F := @tmz; refine gG ?_; exact gT)
    · have q1 : (t.op < 0) = False := eq_false (by omega)
      rw [valTm_app (by omega)]
      obtain ⟨l, hl, hT, has⟩ := tab_of hA hap
      have el : a.tables.getD t.op.toNat [] = l := by simp [List.getD_eq_getElem?_getD, hl]
      rw [has, el]
      have hws : ∀ x ∈ valTms g a vs xs t.args, In0 a.size x := valTms_in hA hv (by have := (FormOk_iff.1 hf).2.1; exact FormOks_iff.2 this) fun v hvm => by
        refine hin v ?_
        obtain ⟨op, nm, so, args⟩ := t
        simp only [Tm.op, Tm.args] at hop hvm
        have : ¬ op = -1 := by omega
        simpa only [varsTm, if_neg this] using hvm
      have hlen := valTms_len (g := g) (a := a) (vs := vs) (xs := xs) t.args
      have hnas := hap.nas
      have hat := hap.at'
      have hwg : ∀ (i : Nat) b, t.args[i]? = some b → (valTms g a vs xs t.args)[i]? = some (valTm g a vs xs b) := fun i b hb => by rw [valTms_eq, List.getElem?_map, hb]; rfl
      generalize valTms g a vs xs t.args = ws at *
      have hal : t.args.length ≤ 4611686018427387904 := by
        have : ∀ l : List Tm, l.length ≤ sizeTms l := fun l => by
          induction l with
          | nil => exact Nat.zero_le _
          | cons x xs ih => cases x; simp only [sizeTms, sizeTm, List.length_cons]; omega
        have h1 := this t.args
        have h2 : sizeTm t = 1 + sizeTms t.args := by obtain ⟨op, nm, so, args⟩ := t; rfl
        unfold big at hbig
        omega
      (have F := And.intro @tmz @q1; refine gG ?_; clear F)
      (have F := @accV_0; refine gL (ι := Nat) [11, 12, 13, 14, 27, 28, 54] [] (fun i => [(27, A.d (.one (.lit (.int .i64 i)))), (11, .d (.one (.lit (.int .i64 (accV o.assoc a.size l ws i)))))]) (fun i => []) (fun i => i ≤ t.args.length) (fun i => t.args.length - i) (0) (Nat.zero_le _) (fun i hi => ?_); clear F)
      by_cases hlt : i < t.args.length
      rotate_left
      · have q2 : ¬ ((i : Int) < (t.args.length : Int)) := by omega
        obtain rfl : i = t.args.length := by omega
        cases hac : o.assoc with
        | true =>
          have e : opV true a.size l ws = accV true a.size l ws t.args.length := by rw [opV, if_pos rfl, hlen]
          rw [e]
          (have F := And.intro @tmz (And.intro @q2 (And.intro @hop (And.intro @hat (And.intro @encOpr_u @hac)))); refine gG ?_; exact gT)
        | false =>
          rw [hac] at hT
          have hb := accF_in (l := l) hT.lo hws ws.length (Nat.le_refl _)
          rw [hlen] at hb
          have hg := (hT.get hb.1 (by rw [← hnas hac]; exact hb.2)).1
          have e : opV false a.size l ws = l.getD (accV false a.size l ws t.args.length).toNat 0 := by simp [opV, hlen]
          have hb0 := hb.1
          rw [e]
          generalize l.getD (accV false a.size l ws t.args.length).toNat 0 = y at hg ⊢
          (have F := And.intro @tmz (And.intro @q2 (And.intro @hop (And.intro @hat (And.intro @encOpr_u (And.intro @hac (And.intro @encInts_u (And.intro @encInt_u (And.intro @hl (And.intro @hb0 @hg))))))))); refine gG ?_; exact gT)
      have q2 : (i : Int) < (t.args.length : Int) := by omega
      obtain ⟨b, hb⟩ : ∃ b, t.args[i]? = some b := ⟨_, List.getElem?_eq_getElem hlt⟩
      have hbm := List.mem_of_getElem? hb
      have hw1 := wrap1 (k := i) (by omega)
      have hsz : sizeTm b < sizeTm t := by
        have h1 := sizeTms_mem hbm
        have h2 : sizeTm t = 1 + sizeTms t.args := by obtain ⟨op, nm, so, args⟩ := t; rfl
        omega
      have cI := ih b (by omega) ((FormOk_iff.1 hf).2.1 b hbm) (fun v hvm => hin v (vars_arg hop hbm v hvm)) (by omega)
      obtain ⟨s1, s2, s3, s4, s5⟩ := acc_step hT hws (fun h => by rw [hlen]; exact hnas h) (hwg i b hb)
      (have F := And.intro @tmz (And.intro @q2 @hb); refine gG ?_; clear F)
      refine gB ?_
      (have F := And.intro @tmz @hb; refine gC (cI) ?_; clear F)
      (have F := @tmz; refine gR ?_; clear F)
      cases hac : o.assoc with
      | false =>
        rw [hac] at s1 s2 s3 s5
        have s5 := s5 (.inl rfl)
        (have F := And.intro @tmz (And.intro @s1 (And.intro @s2 (And.intro @hop (And.intro @hat (And.intro @encOpr_u (And.intro @hac (And.intro @hw1 @s5))))))); refine gG ?_; exact ⟨i + 1, hlt, gw, gw, by omega⟩)
      | true =>
        rw [hac] at s1 s2 s3 s4 s5
        rcases Nat.eq_zero_or_pos i with hi0 | hi0
        · have s5 := s5 (.inr hi0)
          have q3 : ((0 : Int) < (i : Int)) = False := eq_false (by omega)
          (have F := And.intro @tmz (And.intro @s1 (And.intro @s2 (And.intro @hop (And.intro @hat (And.intro @encOpr_u (And.intro @hac (And.intro @hw1 (And.intro @q3 @s5)))))))); refine gG ?_; exact ⟨i + 1, hlt, gw, gw, by omega⟩)
        · have s4 := s4 rfl hi0
          have q3 : ((0 : Int) < (i : Int)) = True := eq_true (by omega)
          (have F := And.intro @tmz (And.intro @s1 (And.intro @s2 (And.intro @s3 (And.intro @hop (And.intro @hat (And.intro @encOpr_u (And.intro @hac (And.intro @hw1 (And.intro @q3 (And.intro @encInts_u (And.intro @encInt_u (And.intro @hl @s4)))))))))))); refine gG ?_; exact ⟨i + 1, hlt, gw, gw, by omega⟩)
end Go.Proofs.YtpbikjkjfojjiaaGreat

namespace Go.Proofs.YtpbikjkjfojjiaaGreat
open Go.RowKit

def curV (z : Int) (l ws : List Int) : Nat → Int
  | 0 => ws.getD 0 0
  | j + 1 => l.getD (curV z l ws j * z + ws.getD (j + 1) 0).toNat 0
theorem curV_0 {z : Int} {l ws : List Int} {w : Int} (h : ws[0]? = some w) : curV z l ws 0 = w := by simp [curV, List.getD_eq_getElem?_getD, h]
theorem acc_cur {z : Int} {l ws : List Int} : ∀ j : Nat, accV true z l ws (j + 1) = curV z l ws j
  | 0 => by simp [accV, curV]
  | j + 1 => by
    have ih := acc_cur (z := z) (l := l) (ws := ws) j
    rw [accV, if_pos ⟨rfl, by omega⟩, ih, curV]
structure TabT (z : Int) (l : List Int) : Prop where
  lo : 1 ≤ z
  hi : z ≤ 4
  len : l.length = z.toNat * z.toNat
  all : ∀ x ∈ l, In0 z x
theorem curV_in {z : Int} {l ws : List Int} (hT : TabT z l) (hw : ∀ x ∈ ws, In0 z x) : ∀ j : Nat, j < ws.length → In0 z (curV z l ws j)
  | 0, h => by
    rw [curV_0 (List.getElem?_eq_getElem h)]
    exact hw _ (List.getElem_mem _)
  | j + 1, h => by
    have ih := curV_in hT hw j (by omega)
    have hwi : In0 z (ws.getD (j + 1) 0) := by
      rw [List.getD_eq_getElem?_getD, List.getElem?_eq_getElem h]
      exact hw _ (List.getElem_mem _)
    have hm := mul_add_lt ih.1 ih.2 hT.lo hwi
    have hz : ((z.toNat * z.toNat : Nat) : Int) = z * z := by rw [Int.natCast_mul, Int.toNat_of_nonneg (by have := hT.lo; omega)]
    have hl : (curV z l ws j * z + ws.getD (j + 1) 0).toNat < l.length := by rw [hT.len]; omega
    rw [curV, List.getD_eq_getElem?_getD, List.getElem?_eq_getElem hl]
    exact hT.all _ (List.getElem_mem hl)
/-- Where the reference goes by pairs, it finds what the program finds. -/
theorem pairs_ok {z : Int} {n : Nat} {ac : Bool} {l ws : List Int} (hT : TabN z n ac l) (hw : ∀ x ∈ ws, In0 z x) (hn : ac = false → ws.length = n) (h2 : 2 ≤ ws.length) (hno : ws.length = 3 → l.length = z.toNat * z.toNat * z.toNat → z = 1) :
    TabT z l ∧ opV ac z l ws = curV z l ws (ws.length - 1) := by
  have hlo := hT.lo
  have hhi := hT.hi
  have hlen := hT.len
  cases ac with
  | true =>
    have e2 := hT.as2 rfl
    subst e2
    rw [Nat.pow_succ, Nat.pow_succ, Nat.pow_zero, Nat.one_mul] at hlen
    refine ⟨⟨hlo, hhi, hlen, hT.all⟩, ?_⟩
    rw [opV, if_pos rfl, ← acc_cur]
    congr 1
    omega
  | false =>
    have hn := hn rfl
    have h3 := hT.le3
    rcases (by omega : ws.length = 2 ∨ ws.length = 3) with h | h
    · have e2 : n = 2 := by omega
      subst e2
      rw [Nat.pow_succ, Nat.pow_succ, Nat.pow_zero, Nat.one_mul] at hlen
      refine ⟨⟨hlo, hhi, hlen, hT.all⟩, ?_⟩
      simp [opV, accV, curV, h]
    · have e3 : n = 3 := by omega
      subst e3
      rw [Nat.pow_succ, Nat.pow_succ, Nat.pow_succ, Nat.pow_zero, Nat.one_mul] at hlen
      have e1 := hno h hlen
      subst e1
      have hTT : TabT 1 l := ⟨hlo, hhi, by rw [hlen]; rfl, hT.all⟩
      have i1 := opV_in hT hw (fun _ => hn)
      have i2 := curV_in hTT hw (ws.length - 1) (by omega)
      simp only [In0] at i1 i2
      exact ⟨hTT, by omega⟩
set_option maxHeartbeats 16000000 in
set_option maxRecDepth 100000 in
theorem con_specVal_all {g : Sgn} {a : Alg} {vs : List Tm} {xs : List Int} (hA : AlgOk g a) (hv : ValOk a vs xs) (hvs : vs.length ≤ big) (hvok : okTms vs) : ∀ (n : Nat) (t : Tm), sizeTm t < n → okTm t → FormOk g t → (∀ v ∈ varsTm t, v ∈ vs) → sizeTm t ≤ big →
    Con e0 65 [.agg (encAlg a), .agg (encTm t), .one (.sl (encTms vs)), .one (.sl (xs.map encInt))] [.one (.lit (.int .i64 (valTm g a vs xs t)))] := by
  intro n
  induction n with
  | zero => exact fun _ h => by omega
  | succ n ih =>
    intro t hn hok hf hin hbig
    have hTw := fun (i : Nat) (x y : Int) (ht : Tab2 a i) (hx : Inz a x) (hy : Inz a y) => con_l22Two ht hx hy
    rw [encAlg] at ih hTw ⊢
    unfold big at hvs
    refine gI 340282366922176403502678002122424078143 Tryz.func65 ?_
    rcases op_cases hf.node with ⟨hvar, hop⟩ | ⟨hop, o, d, hap⟩
    · have q1 : (t.op = -1) = True := eq_true hvar.1
      rw [valTm_var hop]
      have hmem := hin t (var_self hvar)
      (have F := And.intro @tmz @q1; refine gG ?_; clear F)
      (have F := @e0P; refine gL (ι := Nat) [8, 9, 18, 26] [] (fun i => [(9, A.d (.one (.lit (.int .i64 i))))]) (fun i => []) (fun i => i ≤ vs.length ∧ ∀ j u, j < i → vs[j]? = some u → cmpTm u t ≠ 0) (fun i => vs.length - i) (0) (⟨Nat.zero_le _, fun j u h => absurd h (by omega)⟩) (fun i hi => ?_); clear F)
      obtain ⟨hil, hbef⟩ := hi
      by_cases hlt : i < vs.length
      rotate_left
      · obtain ⟨k, hk⟩ := List.getElem?_of_mem hmem
        have hkl := (List.getElem?_eq_some_iff.1 hk).1
        exact absurd (cmpTm_self t) (hbef k t (by omega) hk)
      have q2 : (i : Int) < (vs.length : Int) := by omega
      obtain ⟨v, hk⟩ : ∃ v, vs[i]? = some v := ⟨_, List.getElem?_eq_getElem hlt⟩
      obtain ⟨x, hx⟩ : ∃ x, xs[i]? = some x := ⟨_, List.getElem?_eq_getElem (by rw [hv.len]; exact hlt)⟩
      have hw1 := wrap1 (k := i) (by omega)
      (have F := And.intro @tmz (And.intro @q2 @hk); refine gG ?_; clear F)
      refine gB ?_
      (have F := And.intro @tmz (And.intro @q2 @hk); refine gC (con_l5Same (hvok.mem (List.mem_of_getElem? hk)) hok) ?_; clear F)
      by_cases h0 : cmpTm v t = 0
      · have q3 : decide (cmpTm v t = 0) = true := decide_eq_true h0
        have e := valV_get hk hx h0 hbef
        rw [e]
        (have F := And.intro @tmz @q3; refine gR ?_; clear F)
        (have F := And.intro @tmz (And.intro @encInt_u @hx); refine gG ?_; exact gT)
      · have q3 : decide (cmpTm v t = 0) = false := decide_eq_false h0
        have hq : i + 1 ≤ vs.length ∧ ∀ j u, j < i + 1 → vs[j]? = some u → cmpTm u t ≠ 0 := ⟨hlt, fun j u hj hu => by
          by_cases e : j = i
          · subst e
            rw [hk] at hu
            injection hu with hu
            subst hu
            exact h0
          · exact hbef j u (by omega) hu⟩
        (have F := And.intro @tmz @q3; refine gR ?_; clear F)
        (have F := And.intro @tmz @hw1; refine gG ?_; exact ⟨i + 1, hq, gw, gw, by omega⟩)
    · have q1 : (t.op = -1) = False := eq_false (by omega)
      rw [valTm_app (by omega)]
      obtain ⟨l, hl, hT, has⟩ := tab_of hA hap
      have el : a.tables.getD t.op.toNat [] = l := by simp [List.getD_eq_getElem?_getD, hl]
      rw [has, el]
      have hws : ∀ x ∈ valTms g a vs xs t.args, In0 a.size x := valTms_in hA hv (by have := (FormOk_iff.1 hf).2.1; exact FormOks_iff.2 this) fun v hvm => by
        refine hin v ?_
        obtain ⟨op, nm, so, args⟩ := t
        simp only [Tm.op, Tm.args] at hop hvm
        have : ¬ op = -1 := by omega
        simpa only [varsTm, if_neg this] using hvm
      have hlen := valTms_len (g := g) (a := a) (vs := vs) (xs := xs) t.args
      have hnas := hap.nas
      have hasc := hap.asc
      have hwg : ∀ (i : Nat) b, t.args[i]? = some b → (valTms g a vs xs t.args)[i]? = some (valTm g a vs xs b) := fun i b hb => by rw [valTms_eq, List.getElem?_map, hb]; rfl
      have hal3 : t.args.length ≤ 7 := by
        cases hac : o.assoc with
        | true => exact (hasc hac).2
        | false => have := hnas hac; have := hT.le3; omega
      have hoka : okTms t.args := by obtain ⟨op, nm, so, args⟩ := t; simp only [okTm] at hok; exact hok.2.2.2
      have cI := fun (b : Tm) (hbm : b ∈ t.args) => ih b (by
        have h1 := sizeTms_mem hbm
        have h2 : sizeTm t = 1 + sizeTms t.args := by obtain ⟨op, nm, so, args⟩ := t; rfl
        omega) (hoka.mem hbm) ((FormOk_iff.1 hf).2.1 b hbm) (fun v hvm => hin v (vars_arg hop hbm v hvm)) (by
        have h1 := sizeTms_mem hbm
        have h2 : sizeTm t = 1 + sizeTms t.args := by obtain ⟨op, nm, so, args⟩ := t; rfl
        omega)
      generalize valTms g a vs xs t.args = ws at *
      have hlo := hT.lo
      have hhi := hT.hi
      by_cases n0 : t.args.length = 0
      · have hac : o.assoc = false := by
          cases hac : o.assoc with
          | true => have := (hasc hac).1; omega
          | false => rfl
        have q2 : ((t.args.length : Int) = 0) = True := eq_true (by omega)
        have hd0 := hnas hac
        have hg := (hT.get (k := 0) (Int.le_refl _) (by rw [← hd0, n0, Int.pow_zero]; decide)).1
        have e : opV o.assoc a.size l ws = l.getD (0 : Int).toNat 0 := by simp [opV, hac, hlen, n0, accV]
        rw [e]
        generalize l.getD (0 : Int).toNat 0 = y at hg ⊢
        have hg' : l[0]? = some y := hg
        (have F := And.intro @tmz (And.intro @q1 (And.intro @q2 (And.intro @encInts_u (And.intro @encInt_u (And.intro @hop (And.intro @hl (And.intro @hg @hg'))))))); refine gG ?_; exact gT)
      have q2 : ((t.args.length : Int) = 0) = False := eq_false (by omega)
      obtain ⟨b0, hb0⟩ : ∃ b, t.args[0]? = some b := ⟨_, List.getElem?_eq_getElem (by omega)⟩
      have hw0 := hwg 0 b0 hb0
      have i0 := hws _ (List.mem_of_getElem? hw0)
      have ev0 : ws.getD 0 0 = valTm g a vs xs b0 := by rw [List.getD_eq_getElem?_getD, hw0]; rfl
      have q0 : (0 < t.args.length) = True := eq_true (by omega)
      (have F := And.intro @tmz (And.intro @q1 (And.intro @q2 @hb0)); refine gG ?_; clear F)
      refine gB ?_
      (have F := And.intro @tmz (And.intro @hb0 @q0); refine gC (cI b0 (List.mem_of_getElem? hb0)) ?_; clear F)
      (have F := @tmz; refine gR ?_; clear F)
      by_cases n1 : t.args.length = 1
      · have hac : o.assoc = false := by
          cases hac : o.assoc with
          | true => have := (hasc hac).1; omega
          | false => rfl
        have q3 : ((t.args.length : Int) = 1) = True := eq_true (by omega)
        have hd0 := hnas hac
        have hg := (hT.get i0.1 (by rw [← hd0, n1, Int.pow_succ, Int.pow_zero, Int.one_mul]; exact i0.2)).1
        have e : opV o.assoc a.size l ws = l.getD (valTm g a vs xs b0).toNat 0 := by rw [hac, opV, if_neg (by decide), hlen, n1, accV, if_neg (by simp), accV, ev0, Int.zero_mul, Int.zero_add]
        rw [e]
        have i00 := i0.1
        generalize l.getD (valTm g a vs xs b0).toNat 0 = y at hg ⊢
        (have F := And.intro @tmz (And.intro @q3 (And.intro @encInts_u (And.intro @encInt_u (And.intro @hop (And.intro @hl (And.intro @i00 @hg)))))); refine gG ?_; exact gT)
      have q3 : ((t.args.length : Int) = 1) = False := eq_false (by omega)
      have hTl := hT.len
      have zz : ((a.size.toNat : Nat) : Int) = a.size := Int.toNat_of_nonneg (by omega)
      have zb : a.size * a.size ≤ 16 ∧ 0 ≤ a.size * a.size := by
        have h1 := Int.mul_le_mul hhi hhi (by omega) (by omega)
        have h2 := Int.mul_nonneg (show 0 ≤ a.size by omega) (show 0 ≤ a.size by omega)
        omega
      have zc : a.size * a.size * a.size ≤ 64 ∧ 0 ≤ a.size * a.size * a.size := by
        have h1 := Int.mul_le_mul zb.1 hhi (by omega) (by omega)
        have h2 := Int.mul_nonneg zb.2 (show 0 ≤ a.size by omega)
        omega
      have w1 : IntKind.i64.wrap (a.size * a.size) = a.size * a.size := IntWalk.i64_in _ (by omega)
      have w2 : IntKind.i64.wrap (a.size * a.size * a.size) = a.size * a.size * a.size := IntWalk.i64_in _ (by omega)
      by_cases n3 : t.args.length = 3 ∧ (l.length : Int) = a.size * a.size * a.size ∧ 1 < a.size
      · obtain ⟨h3, hL, hz⟩ := n3
        have hac : o.assoc = false := by
          cases hac : o.assoc with
          | false => rfl
          | true =>
            have e2 := hT.as2 hac
            rw [e2] at hTl
            have e3 : (l.length : Int) = a.size * a.size := by rw [hTl, Nat.pow_succ, Nat.pow_succ, Nat.pow_zero, Nat.one_mul, Int.natCast_mul, zz]
            rw [e3] at hL
            have : a.size * a.size * 2 ≤ a.size * a.size * a.size := Int.mul_le_mul_of_nonneg_left (by omega) zb.2
            have : 1 ≤ a.size * a.size := by
              have := Int.mul_le_mul (show 1 ≤ a.size by omega) (show 1 ≤ a.size by omega) (by omega) (by omega)
              omega
            omega
        have hd0 := hnas hac
        obtain ⟨b1, hb1⟩ : ∃ b, t.args[1]? = some b := ⟨_, List.getElem?_eq_getElem (by omega)⟩
        obtain ⟨b2, hb2⟩ : ∃ b, t.args[2]? = some b := ⟨_, List.getElem?_eq_getElem (by omega)⟩
        have hw1 := hwg 1 b1 hb1
        have hw2 := hwg 2 b2 hb2
        have i1 := hws _ (List.mem_of_getElem? hw1)
        have i2 := hws _ (List.mem_of_getElem? hw2)
        have e1 : ws.getD 1 0 = valTm g a vs xs b1 := by rw [List.getD_eq_getElem?_getD, hw1]; rfl
        have e2 : ws.getD 2 0 = valTm g a vs xs b2 := by rw [List.getD_eq_getElem?_getD, hw2]; rfl
        have c1 := cI b1 (List.mem_of_getElem? hb1)
        have c2 := cI b2 (List.mem_of_getElem? hb2)
        have e : opV o.assoc a.size l ws = l.getD ((valTm g a vs xs b0 * a.size + valTm g a vs xs b1) * a.size + valTm g a vs xs b2).toNat 0 := by
          rw [hac, opV, if_neg (by decide), hlen, h3, accV, if_neg (by simp), accV, if_neg (by simp), accV, if_neg (by simp), accV, ev0, e1, e2, Int.zero_mul, Int.zero_add]
        rw [e]
        clear e ev0 e1 e2 hw0 hw1 hw2
        generalize valTm g a vs xs b0 = x0 at *
        generalize valTm g a vs xs b1 = x1 at *
        generalize valTm g a vs xs b2 = x2 at *
        have m1 := mul_add_lt i0.1 i0.2 hlo i1
        have m2 := mul_add_lt m1.2.1 m1.2.2 hlo i2
        have hx1 := i1.1
        have hx2 := i2.1
        have hg := (hT.get m2.2.1 (by rw [← hd0, h3, Int.pow_succ, Int.pow_succ, Int.pow_succ, Int.pow_zero, Int.one_mul]; exact m2.2.2)).1
        have u1 : IntKind.i64.wrap (x0 * a.size) = x0 * a.size := IntWalk.i64_in _ (by omega)
        have u2 : IntKind.i64.wrap (x0 * a.size + x1) = x0 * a.size + x1 := IntWalk.i64_in _ (by omega)
        have u3 : IntKind.i64.wrap ((x0 * a.size + x1) * a.size) = (x0 * a.size + x1) * a.size := IntWalk.i64_in _ (by omega)
        have u4 : IntKind.i64.wrap ((x0 * a.size + x1) * a.size + x2) = (x0 * a.size + x1) * a.size + x2 := IntWalk.i64_in _ (by omega)
        have u5 := m2.2.1
        generalize l.getD ((x0 * a.size + x1) * a.size + x2).toNat 0 = y at hg ⊢
        have q4 : ((t.args.length : Int) = 3) = True := eq_true (by omega)
        have q5 : ((l.length : Int) = a.size * a.size * a.size) = True := eq_true hL
        have q6 : (1 < a.size) = True := eq_true hz
        have q7 : (1 < t.args.length) = True := eq_true (by omega)
        have q8 : (2 < t.args.length) = True := eq_true (by omega)
        (have F := And.intro @tmz (And.intro @q3 (And.intro @q4 (And.intro @q5 (And.intro @q6 (And.intro @w1 (And.intro @w2 (And.intro @encInts_u (And.intro @encInt_u (And.intro @hop @hl))))))))); refine gG ?_; clear F)
        refine gB ?_
        (have F := And.intro @tmz (And.intro @hb1 (And.intro @q7 (And.intro @encInts_u (And.intro @encInt_u (And.intro @hop (And.intro @hl @u1)))))); refine gC (c1) ?_; clear F)
        (have F := And.intro @tmz (And.intro @hb2 (And.intro @q8 (And.intro @u2 @u3))); refine gC (c2) ?_; clear F)
        (have F := And.intro @tmz (And.intro @encInts_u (And.intro @encInt_u (And.intro @u4 (And.intro @u5 @hg)))); refine gR ?_; clear F)
        (have F := @tmz; refine gG ?_; exact gT)
      have hno : ws.length = 3 → l.length = a.size.toNat * a.size.toNat * a.size.toNat → a.size = 1 := fun h3 hL => by
        have : ¬ 1 < a.size := fun hz => n3 ⟨by omega, by rw [hL, Int.natCast_mul, Int.natCast_mul, zz], hz⟩
        omega
      obtain ⟨hTT, eo⟩ := pairs_ok hT hws (fun h => by rw [hlen]; exact hnas h) (by omega) hno
      rw [eo]
      have hcur0 := curV_0 (z := a.size) (l := l) hw0
      have hT2 : Tab2 a t.op.toNat := ⟨hlo, hhi, l, hl, hTT.len, hTT.all⟩
      (have F := And.intro @tmz @q3; refine gG ?_; clear F)
      refine gM (ι := Unit) [90] [] (fun u => [(90, A.d (.one (.lit (.bool false))))]) (fun u => []) (fun u => True) ?_ (fun u hu => Exists.intro _ (And.intro (Wk.refl _) ?_))
      · by_cases h3 : t.args.length = 3
        · have q4 : ((t.args.length : Int) = 3) = True := eq_true (by omega)
          by_cases hL : (l.length : Int) = a.size * a.size * a.size
          · have q5 : ((l.length : Int) = a.size * a.size * a.size) = True := eq_true hL
            have q6 : (1 < a.size) = False := eq_false fun hz => n3 ⟨h3, hL, hz⟩
            (have F := And.intro @tmz (And.intro @q4 (And.intro @q5 (And.intro @q6 (And.intro @w1 (And.intro @w2 (And.intro @encInts_u (And.intro @encInt_u (And.intro @hop @hl)))))))); refine gG ?_; exact ⟨(), trivial, gw, gw⟩)
          · have q5 : ((l.length : Int) = a.size * a.size * a.size) = False := eq_false hL
            (have F := And.intro @tmz (And.intro @q4 (And.intro @q5 (And.intro @w1 (And.intro @w2 (And.intro @encInts_u (And.intro @encInt_u (And.intro @hop @hl))))))); refine gG ?_; exact ⟨(), trivial, gw, gw⟩)
        · have q4 : ((t.args.length : Int) = 3) = False := eq_false (by omega)
          (have F := And.intro @tmz @q4; refine gG ?_; exact ⟨(), trivial, gw, gw⟩)
      (have F := @tmz; refine gG ?_; clear F)
      (have F := @hcur0; refine gL (ι := Nat) [10, 11, 128] [] (fun j => [(11, A.d (.one (.lit (.int .i64 (j + 1))))), (10, .d (.one (.lit (.int .i64 (curV a.size l ws j)))))]) (fun j => []) (fun j => j + 1 ≤ t.args.length) (fun j => t.args.length - j) (0) ((by omega)) (fun j hj => ?_); clear F)
      by_cases hlt : j + 1 < t.args.length
      rotate_left
      · have q5 : ((j : Int) + 1 < (t.args.length : Int)) = False := eq_false (by omega)
        have ej : ws.length - 1 = j := by omega
        rw [ej]
        (have F := And.intro @tmz @q5; refine gG ?_; exact gT)
      have q5 : ((j : Int) + 1 < (t.args.length : Int)) = True := eq_true (by omega)
      obtain ⟨b, hb⟩ : ∃ b, t.args[j + 1]? = some b := ⟨_, List.getElem?_eq_getElem hlt⟩
      have hwb := hwg (j + 1) b hb
      have ib := hws _ (List.mem_of_getElem? hwb)
      have eb : ws.getD (j + 1) 0 = valTm g a vs xs b := by rw [List.getD_eq_getElem?_getD, hwb]; rfl
      have hci := curV_in hTT hws j (by omega)
      have c1 := cI b (List.mem_of_getElem? hb)
      have c2 := hTw t.op.toNat (curV a.size l ws j) (valTm g a vs xs b) hT2 hci ib
      have htw : tw2 a t.op.toNat (curV a.size l ws j) (valTm g a vs xs b) = curV a.size l ws (j + 1) := by rw [tw2, el, curV, eb]
      rw [Int.toNat_of_nonneg hop, htw] at c2
      have hwr : IntKind.i64.wrap ((j : Int) + 1 + 1) = (j : Int) + 1 + 1 := IntWalk.i64_in _ (by omega)
      have hnn : (0 ≤ (j : Int) + 1) = True := eq_true (by omega)
      have htn : ((j : Int) + 1).toNat = j + 1 := by omega
      (have F := And.intro @tmz @q5; refine gG ?_; clear F)
      refine gB ?_
      (have F := And.intro @tmz (And.intro @hnn (And.intro @htn (And.intro @hb @hlt))); refine gC (c1) ?_; clear F)
      (have F := @tmz; refine gC (c2) ?_; clear F)
      (have F := @tmz; refine gR ?_; clear F)
      (have F := And.intro @tmz @hwr; refine gG ?_; exact ⟨j + 1, (by omega), gw, gw, by omega⟩)
end Go.Proofs.YtpbikjkjfojjiaaGreat

namespace Go.Proofs.YtpbikjkjfojjiaaGreat
open Go.RowKit

/-- A slice at a known place, of these rows. -/
def RCut (a : Option Addr) (cap ty sz : Nat) (rows : List (List C)) (r : List D) (pm : List Bk) : Prop := r = [.one (.lit (.slice a rows.length cap))] ∧ pm = [.buf (some (a, cap)) ty sz rows]
theorem sliced_zero (a : Option Addr) (k cap sz : Nat) : sliced a 0 k cap sz = .slice a k cap := by
  cases a with
  | none => simp [sliced]
  | some p =>
    have : p.add 0 = p := by cases p; simp [Addr.add]
    simp [sliced, this]
theorem lenNrm {m : List (Nat × Bk)} {a : Option Addr} {n cap : Nat} : lenA m (some true) [nrm m (.d (.one (.lit (.slice a n cap))))] = some (.d (.one (.lit (.int .i64 (n : Int))))) := by
  show lenA m (some true) [nrmBK m a n cap (bufK a n cap m)] = _
  cases bufK a n cap m with
  | none => rfl
  | some k =>
    show lenA m (some true) [nrmB a n cap k (gm m k)] = _
    cases hg : gm m k with
    | none => rfl
    | some bk =>
      cases bk with
      | var o cs => rfl
      | set E G => rfl
      | buf o ty sz rows =>
        cases o with
        | none => rfl
        | some q =>
          obtain ⟨a', cap'⟩ := q
          simp only [nrmB]
          split
          · rename_i h
            show lenS (bufA (gm m k)) = _
            rw [hg, h.2.1]
            rfl
          · rfl
theorem lenSub {m : List (Nat × Bk)} {a : Option Addr} {l h cap sz : Nat} : lenA m (some true) [nrm m (.d (.one (.lit (sliced a l h cap sz))))] = some (.d (.one (.lit (.int .i64 ((h - l : Nat) : Int))))) := lenNrm
theorem encTms_set (l : List Tm) (k : Nat) (t : Tm) : (encTms l).set k (encTm t) = encTms (l.set k t) := by rw [encTms_eq, encTms_eq, List.map_set]
theorem encTms_take (l : List Tm) (k : Nat) : (encTms l).take k = encTms (l.take k) := by rw [encTms_eq, encTms_eq, List.map_take]
theorem set_take' {α : Type} {l : List α} {i : Nat} {x : α} (h : i < l.length) : (l.set i x).take (i + 1) = l.take i ++ [x] := by
  rw [List.take_add_one, List.take_set_of_le (Nat.le_refl _)]
  simp [h]
theorem drop_at {l l' : List Tm} {m : Nat} (h : l.drop m = l'.drop m) (i : Nat) : l[m + i]? = l'[m + i]? := by
  rw [← List.getElem?_drop, ← List.getElem?_drop, h]
theorem dd_short {ts : List Tm} (h : ts.length < 2) : ddT none ts = ts := by
  match ts, h with
  | [], _ => rfl
  | [x], _ => rfl
set_option maxHeartbeats 8000000 in
set_option maxRecDepth 100000 in
theorem conP_compact (ts : List Tm) (hl : ts.length ≤ 1048576) (a : Option Addr) (cap : Nat) : ConP e0 124 [.one (.lit (.slice a ts.length cap)), .one (.fn 120 [])] [.buf (some (a, cap)) 47 4 (encTms ts)] (RCut a cap 47 4 (encTms (ddT none ts))) := by
  refine gIP (ts := [.slot 4]) [1000] 562984581629171 Tryz.func124 ?_
  by_cases h2 : ts.length < 2
  · have q1 : ((ts.length : Int) < 2) = True := eq_true (by omega)
    (have F := And.intro @q1 @tmz; refine gG ?_; clear F)
    rw [dd_short h2]
    exact (have F := encTms_len; gTP (R := RCut a cap 47 4 (encTms ts)) [1000] ⟨by rw [encTms_len], rfl⟩)
  have q1 : ((ts.length : Int) < 2) = False := eq_false (by omega)
  (have F := And.intro @q1 @tmz; refine gG ?_; clear F)
  clear q1
  obtain ⟨t0, ht0⟩ : ∃ t, ts[0]? = some t := ⟨_, List.getElem?_eq_getElem (by omega)⟩
  (have F := @tmz; refine gL (ι := Nat) [4, 5, 6, 7, 15, 28, 35, 49] [] (fun x => [(5, .d (.one (.lit (.int .i64 (x : Int)))))]) (fun x => []) (fun x => 1 ≤ x ∧ x ≤ ts.length ∧ ddT none (ts.take x) = ts.take x) (fun x => ts.length - x) (1) (⟨Nat.le_refl _, by omega, by rw [ddT_one ht0]; cases ts with | nil => simp at ht0 | cons y ys => simp at ht0; simp [ht0]⟩) (fun x hx => ?_); clear F)
  obtain ⟨hx1, hxn, hxd⟩ := hx
  by_cases hlt : x < ts.length
  rotate_left
  · obtain rfl : x = ts.length := by omega
    have q1 : ((ts.length : Int) < (ts.length : Int)) = False := eq_false (by omega)
    rw [List.take_length] at hxd
    (have F := And.intro @q1 @tmz; refine gG ?_; clear F)
    rw [hxd]
    exact (have F := encTms_len; gTP (R := RCut a cap 47 4 (encTms ts)) [1000] ⟨by rw [encTms_len], rfl⟩)
  obtain ⟨u, hu⟩ : ∃ t, ts[x]? = some t := ⟨_, List.getElem?_eq_getElem hlt⟩
  obtain ⟨z, rfl⟩ : ∃ z, x = z + 1 := ⟨x - 1, by omega⟩
  obtain ⟨v, hv⟩ : ∃ t, ts[z]? = some t := ⟨_, List.getElem?_eq_getElem (by omega)⟩
  have q1 : (((z + 1 : Nat) : Int) < (ts.length : Int)) = True := eq_true (by omega)
  have w1 : IntKind.i64.wrap (((z + 1 : Nat) : Int) - 1) = (z : Int) := wrapN (by omega) (by omega) (by omega)
  have w2 : IntKind.i64.wrap (((z + 1 : Nat) : Int) + 1) = ((z + 1 + 1 : Nat) : Int) := wrapN (by omega) (by omega) (by omega)
  have hz1 : z + 1 < ts.length := hlt
  have hz0 : z < ts.length := by omega
  have hst := ddT_step hu hv
  generalize hxx : z + 1 = x at *
  rw [show z + 2 = x + 1 by omega] at hst
  (have F := And.intro @q1 @tmz; refine gG ?_; clear F)
  refine gB ?_
  (have F := And.intro @q1 (And.intro @tmz (And.intro @hu (And.intro @hv (And.intro @w1 (And.intro @hz1 (And.intro @hz0 @encTms_len)))))); refine gC (con_implSame u v) ?_; clear F)
  (have F := And.intro @q1 @tmz; refine gR ?_; clear F)
  by_cases h0 : cmpTm u v = 0
  rotate_left
  · have q3 : decide (cmpTm u v = 0) = false := decide_eq_false h0
    rw [if_neg h0, hxd] at hst
    (have F := And.intro @q3 @w2; refine gG ?_; exact ⟨x + 1, ⟨by omega, hlt, by rw [hst]; simp [List.take_add_one, hu]⟩, gw, gw, by omega⟩)
  have q3 : decide (cmpTm u v = 0) = true := decide_eq_true h0
  rw [if_pos h0, hxd] at hst
  (have F := And.intro @q3 @tmz; have NN : StopAt 7 := trivial; refine gGn ?_; clear F NN)
  refine gB ?_
  (have F := And.intro @q3 @tmz; refine gP 2 ?_; clear F)
  have F := encTms_len
  refine gSub 1000 x ts.length ⟨by omega, by rw [encTms_len]; exact Nat.le_refl _⟩ ?_
  clear F
  (have F := @tmz; refine gR ?_; clear F)
  (have F := @tmz; refine gG ?_; clear F)
  (have F := @tmz; refine gL (ι := Nat × Nat × List Tm) [5, 7, 35, 49] [1000] (fun y => [(7, .d (.one (.lit (.int .i64 (y.1 : Int))))), (5, .d (.one (.lit (.int .i64 (y.2.1 : Int)))))]) (fun y => [(1000, .buf (some (a, cap)) 47 4 (encTms y.2.2))]) (fun y => 1 ≤ y.1 ∧ x + y.1 ≤ ts.length ∧ y.2.1 + 1 ≤ x + y.1 ∧ y.2.2.length = ts.length ∧ y.2.2.take y.2.1 = ddT none (ts.take (x + y.1)) ∧ y.2.2.drop (x + y.1 - 1) = ts.drop (x + y.1 - 1)) (fun y => ts.length - y.1) ((1, x, ts)) (⟨Nat.le_refl _, hlt, Nat.le_refl _, rfl, hst.symm, rfl⟩) (fun y hy => ?_); clear F)
  obtain ⟨j, k, us⟩ := y
  obtain ⟨h1, h2', h3, h4, h5, h6⟩ := hy
  simp only at h1 h2' h3 h4 h5 h6
  dsimp only
  have hn4 : ts.length = us.length := h4.symm
  by_cases hj : j < ts.length - x
  · obtain ⟨i, rfl⟩ : ∃ i, j = i + 1 := ⟨j - 1, by omega⟩
    obtain ⟨u1, hu1⟩ : ∃ t, ts[x + i + 1]? = some t := ⟨_, List.getElem?_eq_getElem (by omega)⟩
    obtain ⟨v1, hv1⟩ : ∃ t, ts[x + i]? = some t := ⟨_, List.getElem?_eq_getElem (by omega)⟩
    have e1 : us[x + (i + 1)]? = some u1 := by
      rw [← hu1, show x + (i + 1) - 1 = x + i by omega] at *
      exact drop_at h6 1
    have e2 : us[x + i]? = some v1 := by
      rw [← hv1, show x + (i + 1) - 1 = x + i by omega] at *
      exact drop_at h6 0
    have q4 : (((i + 1 : Nat) : Int) < ((ts.length - x : Nat) : Int)) = True := eq_true (by omega)
    have w3 : IntKind.i64.wrap (((i + 1 : Nat) : Int) - 1) = (i : Int) := wrapN (by omega) (by omega) (by omega)
    have w4 : IntKind.i64.wrap (((i + 1 : Nat) : Int) + 1) = ((i + 1 + 1 : Nat) : Int) := wrapN (by omega) (by omega) (by omega)
    have hst2 := ddT_step hu1 hv1
    rw [show x + i + 2 = x + (i + 1 + 1) by omega, show x + i + 1 = x + (i + 1) by omega, ← h5] at hst2
    (have F := And.intro @q4 (And.intro @lenSub @tmz); have NN : StopAt 11 := trivial; refine gGn ?_; clear F NN)
    refine gB ?_
    (have F := And.intro @q4 @tmz; refine gP 3 ?_; clear F)
    have F := encTms_len
    refine gSubAq (l := x) (h := ts.length) (rows := encTms us) 1000 (i + 1) ⟨by omega, by rw [encTms_len]; omega⟩ ?_
    clear F
    (have F := And.intro @tmz (And.intro @e1 @w3); refine gP 4 ?_; clear F)
    have F := encTms_len
    refine gSubAq (l := x) (h := ts.length) (rows := encTms us) 1000 i ⟨by omega, by rw [encTms_len]; omega⟩ ?_
    clear F
    (have F := And.intro @tmz @e2; refine gC (con_implSame u1 v1) ?_; clear F)
    (have F := @tmz; refine gR ?_; clear F)
    by_cases h7 : cmpTm u1 v1 = 0
    · have q5 : decide (cmpTm u1 v1 = 0) = true := decide_eq_true h7
      rw [if_pos h7] at hst2
      (have F := And.intro @q5 @w4; refine gG ?_; exact ⟨(i + 1 + 1, k, us), ⟨by dsimp only; omega, by dsimp only; omega, by dsimp only; omega, h4, hst2.symm, by rw [show x + (i + 1 + 1) - 1 = x + (i + 1) - 1 + 1 by omega, ← List.drop_drop, ← List.drop_drop, h6]⟩, gw, gw, by omega⟩)
    · have q5 : decide (cmpTm u1 v1 = 0) = false := decide_eq_false h7
      rw [if_neg h7] at hst2
      obtain ⟨ok, hok⟩ : ∃ t, us[k]? = some t := ⟨_, List.getElem?_eq_getElem (by omega)⟩
      have w5 : IntKind.i64.wrap ((k : Int) + 1) = ((k + 1 : Nat) : Int) := wrapN (by omega) (by omega) (by omega)
      have hkl : k < us.length := by omega
      (have F := And.intro @q5 @tmz; have NN : StopAt 12 := trivial; refine gGn ?_; clear F NN)
      refine gB ?_
      (have F := And.intro @q5 @tmz; refine gP 4 ?_; clear F)
      have F := encTms_len
      refine gSubA (l := x) (h := ts.length) (rows := encTms us) 1000 (i + 1) ⟨by omega, by rw [encTms_len]; omega⟩ ?_
      clear F
      (have F := And.intro @tmz (And.intro @e1 (And.intro @hok (And.intro @hn4 (And.intro @hkl @encTms_set)))); refine gR ?_; clear F)
      (have F := And.intro @w4 (And.intro @w5 @hn4); refine gG ?_; exact ⟨(i + 1 + 1, k + 1, us.set k u1), ⟨by dsimp only; omega, by dsimp only; omega, by dsimp only; omega, by rw [List.length_set]; exact h4, by rw [hst2, set_take' hkl], by rw [List.drop_set_of_lt (by omega), show x + (i + 1 + 1) - 1 = x + (i + 1) - 1 + 1 by omega, ← List.drop_drop, ← List.drop_drop, h6]⟩, gw, gw, by omega⟩)
  · have q4 : ((j : Int) < ((ts.length - x : Nat) : Int)) = False := eq_false (by omega)
    have hjn : x + j = ts.length := by omega
    rw [hjn, List.take_length] at h5
    have hkl : k < us.length := by omega
    (have F := And.intro @q4 (And.intro @lenSub @tmz); have NN : StopAt 14 := trivial; refine gGn ?_; clear F NN)
    refine gB ?_
    (have F := And.intro @q4 @tmz; refine gP 2 ?_; clear F)
    have F := And.intro encTms_len hn4
    refine gSub 1000 k us.length ⟨by omega, by rw [encTms_len]; exact Nat.le_refl _⟩ ?_
    rw [show us.length = (encTms us).length by rw [encTms_len]]
    refine gClear 1000 (by rw [encTms_len]; exact hkl) ?_
    clear F
    have hRl : ((encTms us).take k ++ List.replicate ((encTms us).length - k) [C.lit (Value.int IntKind.i64 0), C.lit (Value.string ByteArray.empty), C.lit (Value.int IntKind.i64 0), C.sl []]).length = us.length := by simp [encTms_len]; omega
    have hRt : ((encTms us).take k ++ List.replicate ((encTms us).length - k) [C.lit (Value.int IntKind.i64 0), C.lit (Value.string ByteArray.empty), C.lit (Value.int IntKind.i64 0), C.sl []]).take k = encTms (ddT none ts) := by
      rw [List.take_append_of_le_length (by simp [encTms_len]; omega), List.take_take, Nat.min_self, encTms_take, h5]
    generalize (encTms us).take k ++ List.replicate ((encTms us).length - k) [C.lit (Value.int IntKind.i64 0), C.lit (Value.string ByteArray.empty), C.lit (Value.int IntKind.i64 0), C.sl []] = R at hRl hRt ⊢
    (have F := @tmz; refine gR ?_; clear F)
    (have F := And.intro @q4 @tmz; have NN : StopAt 15 := trivial; refine gGn ?_; clear F NN)
    refine gB ?_
    (have F := And.intro @q4 @tmz; refine gP 2 ?_; clear F)
    have F := And.intro hRl hn4
    refine gSub 1000 0 k ⟨by omega, by rw [hRl]; omega⟩ ?_
    clear F
    rw [sliced_zero]
    (have F := @tmz; refine gR ?_; clear F)
    (have F := @tmz; refine gG ?_; clear F)
    refine pE [1000] [1000] (re_cut k (by rw [hRl]; omega)) ?_
    rw [hRt]
    have hk2 : k = (encTms (ddT none ts)).length := by rw [encTms_len, ← h5, List.length_take]; omega
    exact (have F := encTms_len; gTP (R := RCut a cap 47 4 (encTms (ddT none ts))) [1000] ⟨by rw [← hk2], rfl⟩)
end Go.Proofs.YtpbikjkjfojjiaaGreat

namespace Go.Proofs.YtpbikjkjfojjiaaGreat
open Go.RowKit

theorem sortTm_len (ts : List Tm) : (sortTm ts).length = ts.length := (sortTm_perm ts).length_eq
theorem dd_sort (ts : List Tm) : ddT none (sortTm ts) = distTm ts := by rw [ddT_dist (sortTm_up ts), distTm_perm (sortTm_perm ts)]
set_option maxHeartbeats 4000000 in
theorem conP_distinct (ts : List Tm) (hl : ts.length ≤ 1048576) (a : Option Addr) (cap : Nat) : ConP e0 76 [.one (.lit (.slice a ts.length cap))] [.buf (some (a, cap)) 47 4 (encTms ts)] (RCut a cap 47 4 (encTms (distTm ts))) := by
  have hc := conP_compact (sortTm ts) (by rw [sortTm_len]; exact hl) a cap
  rw [sortTm_len, dd_sort] at hc
  refine gIP (ts := [.slot 2]) [1000] 5 Tryz.func76 ?_
  (have F := @tmz; refine gG ?_; clear F)
  refine gB ?_
  (have F := @tmz; refine gCI (conI_sortT ts hl) (by rw [encTms_len, encTms_len, sortTm_len]) ?_; clear F)
  (have F := @tmz; refine gR ?_; clear F)
  (have F := @tmz; refine gG ?_; clear F)
  refine gB ?_
  (have F := @tmz; refine gCP [1000] [1000] (hc) ?_; clear F)
  rintro r pm ⟨rfl, rfl⟩
  simp only [setA, retA, zipM, List.cons_append, List.nil_append]
  (have F := @tmz; refine gR ?_; clear F)
  (have F := @tmz; refine gG ?_; clear F)
  exact (have F := encTms_len; gTP (R := RCut a cap 47 4 (encTms (distTm ts))) [1000] ⟨rfl, rfl⟩)
mutual
theorem vars_len : ∀ t : Tm, (varsTm t).length ≤ 1 + bulkRow (encTm t)
  | .mk op nm so args => by
    have := varss_len args
    simp only [varsTm, encTm, bulkRow, bulkC, encTms_len]
    split
    · simp
    · omega
theorem varss_len : ∀ ts : List Tm, (varsTms ts).length ≤ ts.length + bulkRows (encTms ts)
  | [] => by simp [varsTms]
  | t :: ts => by
    have h1 := vars_len t
    have h2 := varss_len ts
    simp only [varsTms, encTms, bulkRows, List.length_append, List.length_cons]
    omega
end
theorem vars_len2 {t : Tm} (h : bulkRow (encTm t) ≤ 1048576) : (varsTm t).length ≤ 1048576 := by
  obtain ⟨op, nm, so, args⟩ := t
  have := varss_len args
  simp only [varsTm, encTm, bulkRow, bulkC, encTms_len] at h ⊢
  split
  · simp
  · omega
theorem varsTms_snoc : ∀ (l : List Tm) (t : Tm), varsTms (l ++ [t]) = varsTms l ++ varsTm t
  | [], t => by simp [varsTms]
  | x :: xs, t => by simp [varsTms, varsTms_snoc xs t]
theorem varsTms_take {l : List Tm} {i : Nat} {t : Tm} (h : l[i]? = some t) : varsTms (l.take (i + 1)) = varsTms (l.take i) ++ varsTm t := by
  rw [show l.take (i + 1) = l.take i ++ [t] by simp [List.take_add_one, h], varsTms_snoc]
theorem varsTms_le : ∀ (l : List Tm) (i : Nat), (varsTms (l.take i)).length ≤ (varsTms l).length
  | [], i => by simp [varsTms]
  | x :: xs, 0 => by simp [varsTms]
  | x :: xs, i + 1 => by have := varsTms_le xs i; simp only [List.take_succ_cons, varsTms, List.length_append]; omega
/-- The variables met behind the first i arguments. -/
def visL (ts args : List Tm) (i : Nat) : List Tm := ts ++ varsTms (args.take i)
theorem visL_0 (ts args : List Tm) : visL ts args 0 = ts := by simp [visL, varsTms]
theorem visL_step {ts args : List Tm} {i : Nat} {b : Tm} (h : args[i]? = some b) : visL ts args (i + 1) = visL ts args i ++ varsTm b := by
  unfold visL
  rw [varsTms_take h, List.append_assoc]
theorem visL_end (ts args : List Tm) : visL ts args args.length = ts ++ varsTms args := by unfold visL; rw [List.take_length]
theorem ktF : kindT Tryz.prog 179 = some .one := by kernel_rfl
theorem ztF : sizeT Tryz.prog 179 = some 1 := by kernel_rfl
theorem otF : zeroT Tryz.prog 179 = some [.lit .nilFunc] := by kernel_rfl
theorem okNilF : okCell (.lit .nilFunc) = true := rfl
theorem okFn {f : FuncId} {cs : List C} : okCell (.fn f cs) = true := rfl
theorem encTms_nil' : encTms [] = [] := by simp [encTms]
/-- The end of a function without a return. -/
theorem gTPn {X : Prop} {P : Program} {ts : List RS} {R : List D → List Bk → Prop} {σ : St} {r : List D} {pm : List Bk} (ks : List Nat) (hR : R r pm) (hx : retQP P ts R .normal σ → X := by first | exact fun h => h | exact fun h => ⟨_, Wk.refl _, h⟩) (hr : resD P σ ts = some r := by first | (simp only [pz, ↓reduceIte, Nat.reduceEqDiff, Nat.reduceAdd, Nat.reduceSub, Nat.reduceMul, Nat.reduceLeDiff, Nat.reduceBEq, Bool.false_eq_true, decide_true, decide_false, Int.reduceLE, Int.reduceToNat, Int.reduceLT, Int.reduceEq, eq_self, Nat.reduceShiftRight, Nat.reduceAnd, Nat.reduceBneDiff, F]; exact rfl) | simp only [pz, ↓reduceIte, Nat.reduceEqDiff, Nat.reduceAdd, Nat.reduceSub, Nat.reduceMul, Nat.reduceLeDiff, Nat.reduceBEq, Bool.false_eq_true, decide_true, decide_false, Int.reduceLE, Int.reduceToNat, Int.reduceLT, Int.reduceEq, eq_self, Nat.reduceShiftRight, Nat.reduceAnd, Nat.reduceBneDiff, F]) (hg : getM σ.m ks = some pm := by first | (simp only [pz, ↓reduceIte, Nat.reduceEqDiff, Nat.reduceAdd, Nat.reduceSub, Nat.reduceMul, Nat.reduceLeDiff, Nat.reduceBEq, Bool.false_eq_true, decide_true, decide_false, Int.reduceLE, Int.reduceToNat, Int.reduceLT, Int.reduceEq, eq_self, Nat.reduceShiftRight, Nat.reduceAnd, Nat.reduceBneDiff]; exact rfl) | simp only [pz, ↓reduceIte, Nat.reduceEqDiff, Nat.reduceAdd, Nat.reduceSub, Nat.reduceMul, Nat.reduceLeDiff, Nat.reduceBEq, Bool.false_eq_true, decide_true, decide_false, Int.reduceLE, Int.reduceToNat, Int.reduceLT, Int.reduceEq, eq_self, Nat.reduceShiftRight, Nat.reduceAnd, Nat.reduceBneDiff]) (hn : ks.Nodup := by decide) (hp : pm.all pinned = true := by simp only [pz, ↓reduceIte, Nat.reduceEqDiff, Nat.reduceAdd, Nat.reduceSub, Nat.reduceMul, Nat.reduceLeDiff, Nat.reduceBEq, Bool.false_eq_true, decide_true, decide_false, Int.reduceLE, Int.reduceToNat, Int.reduceLT, Int.reduceEq, eq_self, Nat.reduceShiftRight, Nat.reduceAnd, Nat.reduceBneDiff]) : X :=
  hx ⟨r, ks, pm, hg, hn, hp, hR, resOk_of hr⟩
def ptr0 (b : Nat) : Value := .pointer (some ⟨b, 0, none⟩)
/-- What the walk over a term leaves: the list of the variables met, at some place. -/
def RVis (bo bv : Nat) (f : FuncId) (ty : Nat) (ts : List Tm) (r : List D) (pm : List Bk) : Prop := ∃ a cap, r = [] ∧ pm = [.var (some bo) [.lit (.slice a ts.length cap)], .buf (some (a, cap)) ty 4 (encTms ts), .var (some bv) [.fn f [.lit (ptr0 bo), .lit (ptr0 bv)]]]
set_option maxHeartbeats 8000000 in
set_option maxRecDepth 100000 in
theorem conP_visit_of (t : Tm) (ts : List Tm) (a : Option Addr) (cap bo bv : Nat) (hne : bo ≠ bv) (hb : bulkRow (encTm t) ≤ 1048576) (hl : ts.length + (varsTm t).length ≤ 4000000)
    (h : ∀ x ∈ t.args, ∀ (us : List Tm) (a : Option Addr) (cap : Nat), us.length + (varsTm x).length ≤ 4000000 → ConP e0 117 [.agg (encTm x), .one (.lit (ptr0 bo)), .one (.lit (ptr0 bv))] [.var (some bo) [.lit (.slice a us.length cap)], .buf (some (a, cap)) 47 4 (encTms us), .var (some bv) [.fn 117 [.lit (ptr0 bo), .lit (ptr0 bv)]]] (RVis bo bv 117 47 (us ++ varsTm x))) :
    ConP e0 117 [.agg (encTm t), .one (.lit (ptr0 bo)), .one (.lit (ptr0 bv))] [.var (some bo) [.lit (.slice a ts.length cap)], .buf (some (a, cap)) 47 4 (encTms ts), .var (some bv) [.fn 117 [.lit (ptr0 bo), .lit (ptr0 bv)]]] (RVis bo bv 117 47 (ts ++ varsTm t)) := by
  obtain ⟨op, nm, so, args⟩ := t
  have hc : encTm (.mk op nm so args) = [.lit (.int .i64 op), .lit (.string nm), .lit (.int .i64 so), .sl (encTms args)] := by simp only [encTm]
  have hn1 : (bo = bv) = False := eq_false hne
  have hn2 : (bv = bo) = False := eq_false (fun e => hne e.symm)
  simp only [Tm.args] at h
  simp only [encTm, bulkRow, bulkC, encTms_len] at hb
  simp only [ptr0] at h ⊢
  refine gIP (ts := []) [1001, 1000, 1002] 15728943 Tryz.func117 ?_
  by_cases ho : op = -1
  · have q1 : (op = -1) = True := eq_true ho
    have e1 : varsTm (.mk op nm so args) = [.mk (-1) nm so []] := by simp only [varsTm, if_pos ho]
    rw [e1] at hl ⊢
    simp only [List.length_cons, List.length_nil, Nat.zero_add] at hl
    have hm : ts.length + 1 ≤ maxApp := by unfold maxApp; omega
    have c1 : encTm (.mk (-1) nm so []) = [.lit (.int .i64 (-1)), .lit (.string nm), .lit (.int .i64 so), .sl []] := by simp only [encTm, encTms]
    (have F := And.intro @hc (And.intro @q1 @tmz); have NN : StopAt 2 := trivial; refine gGn ?_; clear F NN)
    have hR : ∀ (a2 : Option Addr) (cap2 : Nat), RVis bo bv 117 47 (ts ++ [.mk (-1) nm so []]) [] [.var (some bo) [.lit (.slice a2 (ts.length + 1) cap2)], .buf (some (a2, cap2)) 47 4 (encTms ts ++ [[.lit (.int .i64 (-1)), .lit (.string nm), .lit (.int .i64 so), .sl []]]), .var (some bv) [.fn 117 [.lit (.pointer (some ⟨bo, 0, none⟩)), .lit (.pointer (some ⟨bv, 0, none⟩))]]] := fun a2 cap2 => ⟨a2, cap2, rfl, by
      rw [show encTms (ts ++ [.mk (-1) nm so []]) = encTms ts ++ [[.lit (.int .i64 (-1)), .lit (.string nm), .lit (.int .i64 so), .sl []]] by rw [encTms_eq, List.map_append, ← encTms_eq, List.map_cons, List.map_nil, c1], List.length_append]
      rfl⟩
    have a1 : (ts.length < ts.length + 1) = True := eq_true (Nat.lt_succ_self _)
    have a2 : ∀ Z : List C, (encTms ts ++ [Z])[ts.length]? = some Z := fun Z => by rw [List.getElem?_append_right (by rw [encTms_len]; exact Nat.le_refl _), encTms_len, Nat.sub_self]; rfl
    have a3 : ∀ Z X : List C, (encTms ts ++ [Z]).set ts.length X = encTms ts ++ [X] := fun Z X => by rw [List.set_append_right _ _ (by rw [encTms_len]; exact Nat.le_refl _), encTms_len, Nat.sub_self]; rfl
    have F := And.intro a1 (And.intro a2 (And.intro a3 (And.intro hc (And.intro q1 (And.intro @lenNrm (And.intro hm (And.intro hn1 (And.intro hn2 tmz))))))))
    refine gTree 8 ?_
    refine gT1 8 ?_
    refine gS 17 fun a2 cap2 => ?_
    refine runs_nil ?_
    refine gT2 9 11 ?_ ?_
    · refine runs_nil ?_
      refine gT2 10 11 ?_ ?_
      · refine runs_nil ?_
        refine gT1 11 ?_
        refine runs_nil ?_
        refine gT0 ?_
        (refine wkI ?_; (have F := @tmz; refine gG ?_; clear F); exact (have F := tmz; gTP [1001, 17, 1002] (hR a2 cap2)))
      · refine runs_nil ?_
        refine gT1 10 ?_
        refine runs_nil ?_
        refine gT0 ?_
        (refine wkI ?_; (have F := @tmz; refine gG ?_; clear F); exact (have F := tmz; gTP [1001, 17, 1002] (hR a2 cap2)))
    · refine runs_nil ?_
      refine gT1 9 ?_
      refine runs_nil ?_
      refine gT1 10 ?_
      refine runs_nil ?_
      refine gT0 ?_
      (refine wkI ?_; (have F := @tmz; refine gG ?_; clear F); exact (have F := tmz; gTP [1001, 17, 1002] (hR a2 cap2)))
  · have q1 : (op = -1) = False := eq_false ho
    have e1 : varsTm (.mk op nm so args) = varsTms args := by simp only [varsTm, if_neg ho]
    rw [e1] at hl ⊢
    have hal : args.length ≤ 1048576 := by omega
    (have F := And.intro @hc (And.intro @q1 @tmz); refine gG ?_; clear F)
    (have F := @visL_0; refine gL (ι := Nat × Option Addr × Nat) [5, 22, 23] [1000, 1001, 1002] (fun x => [(22, .d (.one (.lit (.int .i64 (x.1 : Int)))))]) (fun x => [(1001, .var (some bo) [.lit (.slice x.2.1 (visL ts args x.1).length x.2.2)]), (1000, .buf (some (x.2.1, x.2.2)) 47 4 (encTms (visL ts args x.1))), (1002, .var (some bv) [.fn 117 [.lit (.pointer (some ⟨bo, 0, none⟩)), .lit (.pointer (some ⟨bv, 0, none⟩))]])]) (fun x => x.1 ≤ args.length) (fun x => args.length - x.1) ((0, a, cap)) (Nat.zero_le _) (fun x hx => ?_); clear F)
    obtain ⟨i, a2, cap2⟩ := x
    simp only at hx
    dsimp only
    by_cases hlt : i < args.length
    · obtain ⟨b, hg⟩ : ∃ b, args[i]? = some b := ⟨_, List.getElem?_eq_getElem hlt⟩
      have q2 : ((i : Int) < (args.length : Int)) = True := eq_true (by omega)
      have q4 : IntKind.i64.wrap ((i : Int) + 1) = (i : Int) + 1 := IntWalk.i64_in _ (by omega)
      have hvt := varsTms_take hg
      have hle := varsTms_le args (i + 1)
      rw [hvt, List.length_append] at hle
      have hcon := h b (List.mem_of_getElem? hg) (visL ts args i) a2 cap2 (by unfold visL; rw [List.length_append]; omega)
      rw [← visL_step hg] at hcon
      (have F := And.intro @q2 (And.intro @hc (And.intro @encTms_len (And.intro @encTms_get (And.intro @hg @tmz)))); refine gG ?_; clear F)
      refine gB ?_
      (have F := And.intro @ktF (And.intro @hn1 (And.intro @hn2 @tmz)); refine gCP [1001, 1000, 1002] [1001, 1000, 1002] (hcon) ?_; clear F)
      rintro r pm ⟨a3, cap3, rfl, rfl⟩
      simp only [ptr0, setA, retA, zipM, List.cons_append, List.nil_append]
      (have F := @tmz; refine gR ?_; clear F)
      (have F := @q4; refine gG ?_; exact ⟨(i + 1, a3, cap3), hlt, gw, gw, by omega⟩)
    · obtain rfl : i = args.length := by omega
      have q2 : ((args.length : Int) < (args.length : Int)) = False := eq_false (by omega)
      (have F := @q2; refine gG ?_; clear F)
      have hR : RVis bo bv 117 47 (ts ++ varsTms args) [] [.var (some bo) [.lit (.slice a2 (visL ts args args.length).length cap2)], .buf (some (a2, cap2)) 47 4 (encTms (visL ts args args.length)), .var (some bv) [.fn 117 [.lit (.pointer (some ⟨bo, 0, none⟩)), .lit (.pointer (some ⟨bv, 0, none⟩))]]] := by
        rw [← visL_end]
        exact ⟨a2, cap2, rfl, rfl⟩
      exact (have F := tmz; gTPn [1001, 1000, 1002] hR)
theorem conP_visit_n (bo bv : Nat) (hne : bo ≠ bv) (n : Nat) : ∀ (t : Tm), nodesRow (encTm t) < n → bulkRow (encTm t) ≤ 1048576 → ∀ (ts : List Tm) (a : Option Addr) (cap : Nat), ts.length + (varsTm t).length ≤ 4000000 → ConP e0 117 [.agg (encTm t), .one (.lit (ptr0 bo)), .one (.lit (ptr0 bv))] [.var (some bo) [.lit (.slice a ts.length cap)], .buf (some (a, cap)) 47 4 (encTms ts), .var (some bv) [.fn 117 [.lit (ptr0 bo), .lit (ptr0 bv)]]] (RVis bo bv 117 47 (ts ++ varsTm t)) := by
  induction n with
  | zero => exact fun _ h => by omega
  | succ n ih =>
    intro t hn hb ts a cap hl
    refine conP_visit_of t ts a cap bo bv hne hb hl fun x hx us a cap hl2 => ih x ?_ ?_ us a cap hl2
    · obtain ⟨op, nm, so, args⟩ := t
      simp only [encTm, nodesRow, nodesC] at hn
      simp only [Tm.args] at hx
      obtain ⟨i, hi⟩ := List.getElem?_of_mem hx
      have hi' : (encTms args)[i]? = some (encTm x) := by rw [encTms_get, hi]; rfl
      have h1 := nodes_get hi'
      omega
    · obtain ⟨op, nm, so, args⟩ := t
      simp only [encTm, bulkRow, bulkC] at hb
      simp only [Tm.args] at hx
      obtain ⟨i, hi⟩ := List.getElem?_of_mem hx
      have hi' : (encTms args)[i]? = some (encTm x) := by rw [encTms_get, hi]; rfl
      have h1 := bulk_get hi'
      omega
set_option maxHeartbeats 8000000 in
set_option maxRecDepth 100000 in
theorem con_implVars (t : Tm) (hb : bulkRow (encTm t) ≤ 1048576) : Con e0 68 [.agg (encTm t)] [.one (.sl (encTms (varsOf t)))] := by
  have hv := vars_len2 hb
  refine gI (ts := [.slot 2]) 31 Tryz.func68 ?_
  (have F := @tmz; have NN : StopAt 1 := trivial; refine gGn ?_; clear F NN)
  refine gB ?_
  (have F := @tmz; refine gP 1 ?_; clear F)
  refine gO 5 47 4 ?_
  refine gS 5 fun a cap => ?_
  (have F := @tmz; refine gR ?_; clear F)
  (have F := And.intro @otF (And.intro @ztF @tmz); have NN : StopAt 3 := trivial; refine gGn ?_; clear F NN)
  refine pV 3 fun b3 hb3 => ?_
  refine pV 4 fun b4 hb4 => ?_
  have hne : b3 ≠ b4 := fun e => hb4 3 b3 _ (by decide) rfl e.symm
  clear hb3 hb4
  have hn1 : (b3 = b4) = False := eq_false hne
  have hn2 : (b4 = b3) = False := eq_false (fun e => hne e.symm)
  (have F := And.intro @ktF (And.intro @ztF (And.intro @okNilF (And.intro @okFn (And.intro @hn1 (And.intro @hn2 @tmz))))); have NN : StopAt 4 := trivial; refine gGn ?_; clear F NN)
  refine gB ?_
  have hcon := conP_visit_n b3 b4 hne _ t (Nat.lt_succ_self _) (by omega) [] a cap (by simp; omega)
  have hdis := fun (a : Option Addr) (cap : Nat) => conP_distinct (varsTm t) (by omega) a cap
  simp only [ptr0, List.length_nil, List.nil_append, encTms_nil'] at hcon
  (have F := And.intro @ktF (And.intro @hn1 (And.intro @hn2 @tmz)); refine gCP [3, 5, 4] [3, 5, 4] (hcon) ?_; clear F)
  rintro r pm ⟨a2, cap2, rfl, rfl⟩
  simp only [ptr0, setA, retA, zipM, List.cons_append, List.nil_append]
  (have F := @tmz; refine gR ?_; clear F)
  (have F := @tmz; refine gG ?_; clear F)
  refine gB ?_
  (have F := And.intro @hn1 (And.intro @hn2 @tmz); refine gCP [5] [5] (hdis a2 cap2) ?_; clear F)
  rintro r pm ⟨rfl, rfl⟩
  simp only [setA, retA, zipM, List.cons_append, List.nil_append]
  (have F := @tmz; refine gR ?_; clear F)
  refine pD 5 [2] [] ?_ (hs := by simp only [pz, ↓reduceIte, Nat.reduceEqDiff, Nat.reduceAdd, Nat.reduceSub, Nat.reduceMul, Nat.reduceLeDiff, Nat.reduceBEq, Bool.false_eq_true, decide_true, decide_false, Int.reduceLE, Int.reduceToNat, Int.reduceLT, Int.reduceEq, eq_self, Nat.reduceShiftRight, Nat.reduceAnd, Nat.reduceBneDiff]; exact rfl)
  (have F := @tmz; refine gG ?_; exact gTd)
end Go.Proofs.YtpbikjkjfojjiaaGreat

namespace Go.Proofs.YtpbikjkjfojjiaaGreat
open Go.RowKit

theorem con_l5Var (nm : ByteArray) (so : Int) : Con e0 140 [.one (.lit (.string nm)), .one (.lit (.int .i64 so))] [.agg (encTm (.mk (-1) nm so []))] := by
  have c1 : encTm (.mk (-1) nm so []) = [.lit (.int .i64 (-1)), .lit (.string nm), .lit (.int .i64 so), .sl []] := by simp only [encTm, encTms]
  rw [c1]
  refine gI (ts := [.cell 4 47]) 19 Tryz.func140 ?_
  (have F := @e0P; refine gG ?_; exact gTd)
theorem insTm_step {t x : Tm} {ts : List Tm} {i : Nat} (hx : ts[i]? = some x) (h : insTm t ts = ts.take i ++ insTm t (ts.drop i)) (hc : cmpTm x t < 0) : insTm t ts = ts.take (i + 1) ++ insTm t (ts.drop (i + 1)) := by
  obtain ⟨hl, e⟩ := List.getElem?_eq_some_iff.1 hx
  rw [h, List.drop_eq_getElem_cons hl, e, insTm, if_pos hc]
  simp [List.take_add_one, hx]
theorem insTm_same {t x : Tm} {ts : List Tm} {i : Nat} (hx : ts[i]? = some x) (h : insTm t ts = ts.take i ++ insTm t (ts.drop i)) (hc : cmpTm x t = 0) : insTm t ts = ts := by
  obtain ⟨hl, e⟩ := List.getElem?_eq_some_iff.1 hx
  rw [h, List.drop_eq_getElem_cons hl, e, insTm, if_neg (by omega), if_pos hc, ← e, ← List.drop_eq_getElem_cons hl, List.take_append_drop]
theorem insTm_here {t x : Tm} {ts : List Tm} {i : Nat} (hx : ts[i]? = some x) (h : insTm t ts = ts.take i ++ insTm t (ts.drop i)) (h1 : ¬ cmpTm x t < 0) (h2 : ¬ cmpTm x t = 0) : insTm t ts = ts.take i ++ [t] ++ ts.drop i := by
  obtain ⟨hl, e⟩ := List.getElem?_eq_some_iff.1 hx
  rw [h, List.drop_eq_getElem_cons hl, e, insTm, if_neg h1, if_neg h2]
  simp
theorem insTm_end {t : Tm} {ts : List Tm} {i : Nat} (hi : ts.length ≤ i) (h : insTm t ts = ts.take i ++ insTm t (ts.drop i)) : insTm t ts = ts.take i ++ [t] ++ ts.drop i := by
  rw [h, List.drop_eq_nil_of_le hi, insTm]
  simp
theorem encTms_app (a b : List Tm) : encTms (a ++ b) = encTms a ++ encTms b := by rw [encTms_eq, encTms_eq, encTms_eq, List.map_append]
theorem encTms_drop (l : List Tm) (k : Nat) : (encTms l).drop k = encTms (l.drop k) := by rw [encTms_eq, encTms_eq, List.map_drop]
theorem encTms_one (t : Tm) : encTms [t] = [encTm t] := by simp [encTms]
set_option maxHeartbeats 8000000 in
set_option maxRecDepth 100000 in
theorem con_l5Insert (ts : List Tm) (t : Tm) (hts : okTms ts) (ht : okTm t) (hl : ts.length ≤ 8000000) : Con e0 74 [.one (.sl (encTms ts)), .agg (encTm t)] [.one (.sl (encTms (insTm t ts)))] := by
  refine gI (ts := [.slot 4]) 8590459003 Tryz.func74 ?_
  (have F := @tmz; refine gG ?_; clear F)
  (have F := @tmz; refine gL (ι := Nat) [5, 19] [] (fun x => [(5, .d (.one (.lit (.int .i64 (x : Int)))))]) (fun x => []) (fun x => x ≤ ts.length ∧ insTm t ts = ts.take x ++ insTm t (ts.drop x)) (fun x => ts.length - x) (0) (⟨Nat.zero_le _, rfl⟩) (fun x hx => ?_); clear F)
  obtain ⟨hi, hf⟩ := hx
  by_cases hlt : x < ts.length
  · obtain ⟨a, ha⟩ : ∃ n, ts[x]? = some n := ⟨_, List.getElem?_eq_getElem hlt⟩
    have q1 : ((x : Int) < (ts.length : Int)) = True := eq_true (by omega)
    have q4 : IntKind.i64.wrap ((x : Int) + 1) = (x : Int) + 1 := IntWalk.i64_in _ (by omega)
    have hcmp := con_specCmp (hts.mem (List.mem_of_getElem? ha)) ht
    (have F := And.intro @q1 @tmz; refine gG ?_; clear F)
    refine gB ?_
    (have F := And.intro @q1 (And.intro @tmz @ha); refine gC (hcmp) ?_; clear F)
    by_cases hc : cmpTm a t < 0
    · have q2 : (cmpTm a t < 0) = True := eq_true hc
      (have F := And.intro @q1 (And.intro @q2 @tmz); refine gR ?_; clear F)
      have hs := insTm_step ha hf hc
      (have F := And.intro @q4 @q2; refine gG ?_; exact ⟨x + 1, ⟨hlt, hs⟩, gw, gw, by omega⟩)
    · have q2 : (cmpTm a t < 0) = False := eq_false hc
      (have F := And.intro @q1 (And.intro @q2 @tmz); refine gR ?_; clear F)
      (have F := And.intro @q1 (And.intro @q2 @tmz); refine gG ?_; clear F)
      refine gB ?_
      (have F := And.intro @q1 (And.intro @tmz @ha); refine gC (con_l5Same (hts.mem (List.mem_of_getElem? ha)) ht) ?_; clear F)
      by_cases h0 : cmpTm a t = 0
      · have q3 : decide (cmpTm a t = 0) = true := decide_eq_true h0
        (have F := And.intro @q1 (And.intro @q3 @tmz); refine gR ?_; clear F)
        rw [insTm_same ha hf h0]
        (have F := And.intro @q3 @tmz; refine gG ?_; exact gTd)
      · have q3 : decide (cmpTm a t = 0) = false := decide_eq_false h0
        (have F := And.intro @q1 (And.intro @q3 @tmz); refine gR ?_; clear F)
        have hins := insTm_here ha hf hc h0
        (have F := And.intro @q3 @tmz; have NN : StopAt 6 := trivial; refine gGn ?_; clear F NN)
        rw [hins, encTms_app, encTms_app, encTms_one, ← encTms_take, ← encTms_drop]
        have hxl : ((x : Int) ≤ (ts.length : Int)) = True := eq_true (by omega)
        have r1 : rowsB 4 ((encTms ts).take x) = true := by rw [encTms_take]; exact rb_tm _
        have r2 : rowsB 4 ((encTms ts).drop x) = true := by rw [encTms_drop]; exact rb_tm _
        have n1 : ((encTms ts).take x).length ≤ 8000000 := by rw [List.length_take, encTms_len]; omega
        have n2 : ((encTms ts).drop x).length ≤ 8000000 := by rw [List.length_drop, encTms_len]; omega
        have n3 : ((encTms ts).take x).length + 1 ≤ maxApp := by unfold maxApp; omega
        have n4 : ((encTms ts).take x).length + 1 + ((encTms ts).drop x).length ≤ maxApp := by unfold maxApp; omega
        have F := And.intro r1 (And.intro r2 (And.intro hxl (And.intro n3 (And.intro n4 tmz))))
        refine gA 7 4 ?_ (.inl rfl) ?_
        · show 0 + _ ≤ maxApp
          unfold maxApp; omega
        clear F
        (have F := And.intro @r1 (And.intro @r2 (And.intro @hxl (And.intro @n3 (And.intro @n4 @tmz)))); refine gR ?_; clear F)
        have tkA : (encTms ts).take ts.length = encTms ts := by rw [← encTms_len ts, List.take_length]
        have n5 : ((encTms ts).take x ++ [encTm t]).length + ((encTms ts).drop x).length ≤ maxApp := by simp only [List.length_append, List.length_cons, List.length_nil]; omega
        have hll : ((ts.length : Int) ≤ (ts.length : Int)) = True := eq_true (Int.le_refl _)
        (have F := And.intro @r1 (And.intro @r2 (And.intro @hxl (And.intro @n3 (And.intro @n4 (And.intro @n5 (And.intro @hll (And.intro @tkA @tmz))))))); refine gG ?_; exact gTz [4])
  · have q1 : ((x : Int) < (ts.length : Int)) = False := eq_false (by omega)
    have hins := insTm_end (by omega) hf
    (have F := And.intro @q1 @tmz; have NN : StopAt 6 := trivial; refine gGn ?_; clear F NN)
    rw [hins, encTms_app, encTms_app, encTms_one, ← encTms_take, ← encTms_drop]
    have hxl : ((x : Int) ≤ (ts.length : Int)) = True := eq_true (by omega)
    have r1 : rowsB 4 ((encTms ts).take x) = true := by rw [encTms_take]; exact rb_tm _
    have r2 : rowsB 4 ((encTms ts).drop x) = true := by rw [encTms_drop]; exact rb_tm _
    have n1 : ((encTms ts).take x).length ≤ 8000000 := by rw [List.length_take, encTms_len]; omega
    have n2 : ((encTms ts).drop x).length ≤ 8000000 := by rw [List.length_drop, encTms_len]; omega
    have n3 : ((encTms ts).take x).length + 1 ≤ maxApp := by unfold maxApp; omega
    have n4 : ((encTms ts).take x).length + 1 + ((encTms ts).drop x).length ≤ maxApp := by unfold maxApp; omega
    have F := And.intro r1 (And.intro r2 (And.intro hxl (And.intro n3 (And.intro n4 tmz))))
    refine gA 7 4 ?_ (.inl rfl) ?_
    · show 0 + _ ≤ maxApp
      unfold maxApp; omega
    clear F
    (have F := And.intro @r1 (And.intro @r2 (And.intro @hxl (And.intro @n3 (And.intro @n4 @tmz)))); refine gR ?_; clear F)
    have tkA : (encTms ts).take ts.length = encTms ts := by rw [← encTms_len ts, List.take_length]
    have n5 : ((encTms ts).take x ++ [encTm t]).length + ((encTms ts).drop x).length ≤ maxApp := by simp only [List.length_append, List.length_cons, List.length_nil]; omega
    have hll : ((ts.length : Int) ≤ (ts.length : Int)) = True := eq_true (Int.le_refl _)
    (have F := And.intro @r1 (And.intro @r2 (And.intro @hxl (And.intro @n3 (And.intro @n4 (And.intro @n5 (And.intro @hll (And.intro @tkA @tmz))))))); refine gG ?_; exact gTz [4])
theorem con_clip2 {e : Env} {f : FuncId} {a : D} {rows : List (List C)} {r : List D} (h : Con e f [a, .one (.sl rows)] r) : Con e f [a, .clip rows] r :=
  ⟨h.1, fun w S vs h1 h2 h3 h4 => h.2 w S vs h1 h2 h3 (by
    match vs, h4 with
    | [x, y], h4 => exact ⟨h4.1, h4.2.1.1, trivial⟩)⟩
theorem okTm_var {op so : Int} {nm : ByteArray} {args : List Tm} (h : okTm (.mk op nm so args)) : okTm (.mk (-1) nm so []) := by
  simp only [okTm, okTms, and_true] at h ⊢
  exact ⟨by unfold I64; omega, h.2.1, h.2.2.1⟩
def colT (l : List Tm) (r : List Tm) : List Tm := l.foldl (fun r t => insTm t r) r
theorem colT_nil0 {ts : List Tm} : colT (varsTms []) ts = ts := by simp [colT, varsTms]
theorem colT_app (a b r : List Tm) : colT (a ++ b) r = colT b (colT a r) := by unfold colT; rw [List.foldl_append]
theorem insTm_len (t : Tm) : ∀ l : List Tm, (insTm t l).length ≤ l.length + 1
  | [] => by simp [insTm]
  | x :: xs => by
    have := insTm_len t xs
    simp only [insTm]
    split
    · simp only [List.length_cons]; omega
    · split <;> simp only [List.length_cons] <;> omega
theorem colT_len : ∀ (l r : List Tm), (colT l r).length ≤ r.length + l.length
  | [], r => by simp [colT]
  | x :: xs, r => by
    have h1 := colT_len xs (insTm x r)
    have h2 := insTm_len x r
    simp only [colT, List.foldl_cons, List.length_cons] at h1 ⊢
    omega
theorem insTm_ok {t : Tm} (ht : okTm t) : ∀ {l : List Tm}, okTms l → okTms (insTm t l)
  | [], _ => by simp only [insTm, okTms]; exact ⟨ht, trivial⟩
  | x :: xs, h => by
    simp only [okTms] at h
    simp only [insTm]
    split
    · simp only [okTms]; exact ⟨h.1, insTm_ok ht h.2⟩
    · split
      · simp only [okTms]; exact h
      · simp only [okTms]; exact ⟨ht, h⟩
theorem colT_ok : ∀ {l r : List Tm}, okTms l → okTms r → okTms (colT l r)
  | [], r, _, h => h
  | x :: xs, r, h1, h2 => by
    simp only [okTms] at h1
    exact colT_ok (l := xs) (r := insTm x r) h1.2 (insTm_ok h1.1 h2)
theorem okTms_app : ∀ {a b : List Tm}, okTms a → okTms b → okTms (a ++ b)
  | [], _, _, h => h
  | x :: xs, b, h1, h2 => by
    simp only [okTms] at h1
    simp only [List.cons_append, okTms]
    exact ⟨h1.1, okTms_app h1.2 h2⟩
mutual
theorem varsTm_ok : ∀ {t : Tm}, okTm t → okTms (varsTm t)
  | .mk op nm so args, h => by
    simp only [varsTm]
    split
    · simp only [okTms]; exact ⟨okTm_var h, trivial⟩
    · simp only [okTm] at h; exact varsTms_ok h.2.2.2
theorem varsTms_ok : ∀ {l : List Tm}, okTms l → okTms (varsTms l)
  | [], _ => by simp [varsTms, okTms]
  | x :: xs, h => by
    simp only [okTms] at h
    simp only [varsTms]
    exact okTms_app (varsTm_ok h.1) (varsTms_ok h.2)
end
theorem okTms_take : ∀ {l : List Tm} (i : Nat), okTms l → okTms (l.take i)
  | [], _, _ => by simp [okTms]
  | x :: xs, 0, _ => by simp [okTms]
  | x :: xs, i + 1, h => by
    simp only [okTms] at h
    simp only [List.take_succ_cons, okTms]
    exact ⟨h.1, okTms_take i h.2⟩
set_option maxHeartbeats 8000000 in
theorem con_l5Collect_of (t : Tm) (ts : List Tm) (ht : okTm t) (hts : okTms ts) (hb : bulkRow (encTm t) ≤ 1048576) (hl : ts.length + (varsTm t).length ≤ 7000000) (h : ∀ x ∈ t.args, ∀ us : List Tm, okTms us → us.length + (varsTm x).length ≤ 7000000 → Con e0 99 [.agg (encTm x), .one (.sl (encTms us))] [.one (.sl (encTms (colT (varsTm x) us)))]) :
    Con e0 99 [.agg (encTm t), .one (.sl (encTms ts))] [.one (.sl (encTms (colT (varsTm t) ts)))] := by
  obtain ⟨op, nm, so, args⟩ := t
  have hc : encTm (.mk op nm so args) = [.lit (.int .i64 op), .lit (.string nm), .lit (.int .i64 so), .sl (encTms args)] := by simp only [encTm]
  simp only [Tm.args] at h
  simp only [encTm, bulkRow, bulkC, encTms_len] at hb
  refine gI (ts := [.slot 4]) 1048887 Tryz.func99 ?_
  by_cases ho : op = -1
  · have q1 : (op = -1) = True := eq_true ho
    have e1 : varsTm (.mk op nm so args) = [.mk (-1) nm so []] := by simp only [varsTm, if_pos ho]
    rw [e1] at hl ⊢
    simp only [List.length_cons, List.length_nil, Nat.zero_add] at hl
    have hI := con_l5Insert ts (.mk (-1) nm so []) hts (okTm_var ht) (by omega)
    (have F := And.intro @hc (And.intro @q1 @tmz); refine gG ?_; clear F)
    refine gB ?_
    (have F := @hc; refine gC (con_l5Var nm so) ?_; clear F)
    (have F := @hc; refine gC (hI) ?_; clear F)
    (have F := @hc; refine gR ?_; clear F)
    simp only [colT, List.foldl_cons, List.foldl_nil]
    (have F := @tmz; refine gG ?_; exact gTd)
  · have q1 : (op = -1) = False := eq_false ho
    have e1 : varsTm (.mk op nm so args) = varsTms args := by simp only [varsTm, if_neg ho]
    rw [e1] at hl ⊢
    have hk : okTms args := by simp only [okTm] at ht; exact ht.2.2.2
    (have F := And.intro @hc (And.intro @q1 @tmz); refine gG ?_; clear F)
    (have F := And.intro ((fun (r : List Tm) => (colT_nil0 : colT (varsTms []) r = r))) @tmz; refine gL (ι := Nat) [1, 5, 20] [] (fun x => [(5, .d (.one (.lit (.int .i64 (x : Int))))), (1, .d (.one (.sl (encTms (colT (varsTms (args.take x)) ts)))))]) (fun x => []) (fun x => x ≤ args.length) (fun x => args.length - x) (0) (Nat.zero_le _) (fun x hx => ?_); clear F)
    by_cases hlt : x < args.length
    · obtain ⟨b, hg⟩ : ∃ b, args[x]? = some b := ⟨_, List.getElem?_eq_getElem hlt⟩
      have q2 : ((x : Int) < (args.length : Int)) = True := eq_true (by omega)
      have q4 : IntKind.i64.wrap ((x : Int) + 1) = (x : Int) + 1 := IntWalk.i64_in _ (by omega)
      have hvt := varsTms_take hg
      have hle := varsTms_le args (x + 1)
      rw [hvt, List.length_append] at hle
      have hcl := colT_len (varsTms (args.take x)) ts
      have hcon := h b (List.mem_of_getElem? hg) (colT (varsTms (args.take x)) ts) (colT_ok (varsTms_ok (okTms_take x hk)) hts) (by omega)
      rw [← colT_app, ← hvt] at hcon
      (have F := And.intro @q2 (And.intro @hc @tmz); refine gG ?_; clear F)
      refine gB ?_
      (have F := And.intro @q2 (And.intro @hc (And.intro @hg @tmz)); refine gC (hcon) ?_; clear F)
      (have F := @tmz; refine gR ?_; clear F)
      (have F := @q4; refine gG ?_; exact ⟨x + 1, hlt, gw, gw, by omega⟩)
    · obtain rfl : x = args.length := by omega
      have q2 : ((args.length : Int) < (args.length : Int)) = False := eq_false (by omega)
      rw [List.take_length]
      (have F := And.intro @q2 (And.intro @hc @tmz); refine gG ?_; exact gTd)
theorem con_l5Collect_n (n : Nat) : ∀ t : Tm, nodesRow (encTm t) < n → okTm t → bulkRow (encTm t) ≤ 1048576 → ∀ ts : List Tm, okTms ts → ts.length + (varsTm t).length ≤ 7000000 → Con e0 99 [.agg (encTm t), .one (.sl (encTms ts))] [.one (.sl (encTms (colT (varsTm t) ts)))] := by
  induction n with
  | zero => exact fun _ h => by omega
  | succ n ih =>
    intro t hn ht hb ts hts hl
    refine con_l5Collect_of t ts ht hts hb hl fun x hx us hus hl2 => ?_
    obtain ⟨op, nm, so, args⟩ := t
    simp only [encTm, nodesRow, nodesC] at hn
    simp only [encTm, bulkRow, bulkC] at hb
    simp only [okTm] at ht
    simp only [Tm.args] at hx
    obtain ⟨i, hi⟩ := List.getElem?_of_mem hx
    have hi' : (encTms args)[i]? = some (encTm x) := by rw [encTms_get, hi]; rfl
    have h1 := nodes_get hi'
    have h2 := bulk_get hi'
    exact ih x (by omega) (ht.2.2.2.mem hx) (by omega) us hus hl2
theorem con_specVars {t : Tm} (ht : okTm t) (hb : bulkRow (encTm t) ≤ 1048576) : Con e0 46 [.agg (encTm t)] [.one (.sl (encTms (varsOf t)))] := by
  have hv := vars_len t
  have hcon := con_l5Collect_n _ t (Nat.lt_succ_self _) ht hb [] trivial (by simp; omega)
  have hcon := con_clip2 (by rw [encTms_nil'] at hcon; exact hcon)
  rw [show colT (varsTm t) [] = varsOf t from rfl] at hcon
  refine gI (ts := [.slot 2]) 7 Tryz.func46 ?_
  (have F := @tmz; refine gG ?_; clear F)
  refine gB ?_
  (have F := @tmz; refine gC (hcon) ?_; clear F)
  (have F := @tmz; refine gR ?_; clear F)
  (have F := @tmz; refine gG ?_; exact gTd)
end Go.Proofs.YtpbikjkjfojjiaaGreat

namespace Go.Proofs.YtpbikjkjfojjiaaGreat
open Go.RowKit

theorem okTms_dist {l : List Tm} (h : okTms l) : okTms (distTm l) := colT_ok (r := []) h trivial
theorem okTms_vars {t : Tm} (h : okTm t) : okTms (varsOf t) := okTms_dist (varsTm_ok h)
theorem dist_len (l : List Tm) : (distTm l).length ≤ l.length := by have := colT_len l []; simpa [colT, distTm] using this
theorem varsOf_len (t : Tm) : (varsOf t).length ≤ 1 + bulkRow (encTm t) := Nat.le_trans (dist_len _) (vars_len t)

theorem any_take_succ {vs : List Tm} {p : Tm → Bool} {i : Nat} {a : Tm} (h : vs[i]? = some a) : (vs.take (i + 1)).any p = ((vs.take i).any p || p a) := by
  rw [List.take_add_one, h]; simp
theorem all_take_succ {vs : List Tm} {p : Tm → Bool} {i : Nat} {a : Tm} (h : vs[i]? = some a) : (vs.take (i + 1)).all p = ((vs.take i).all p && p a) := by
  rw [List.take_add_one, h]; simp
theorem all_take_c {α : Type} {vs : List α} {p : α → Bool} {i : Nat} {a : α} (h : vs[i]? = some a) : (vs.take (i + 1)).all p = ((vs.take i).all p && p a) := by
  rw [List.take_add_one, h]; simp
theorem all_false {α : Type} {vs : List α} {p : α → Bool} {a : α} (h : a ∈ vs) (hp : p a = false) : vs.all p = false := by
  rw [List.all_eq_false]
  exact ⟨a, h, by simp [hp]⟩
end Go.Proofs.YtpbikjkjfojjiaaGreat

namespace Go.Proofs.YtpbikjkjfojjiaaGreat
open Go.RowKit

theorem con_algF {f : FuncId} (hb : hasBody e0.P f = true) (h : algC f) {g : Sgn} {a : Alg} (hg : okSgn g) (ha : okAlg a) : Con e0 f [.agg (encSgn g), .agg (encAlg a)] [.one (.lit (.bool (isAlg g a)))] := by
  refine con_below e0_ok hb fun w S vs hv => ?_
  match vs, hv with
  | [v, u], hv =>
    obtain ⟨⟨us, rfl, hu⟩, ⟨us', rfl, hu'⟩, _⟩ := hv
    exact (h g a S us us' w hg ha hu hu').mono fun e w' ⟨h1, h2⟩ => ⟨_, h1, h2, by simp [retA, ARel, DRel, Rep]⟩
def inB (z : Int) (x : Int) : Bool := decide (0 ≤ x ∧ x < z)
noncomputable def valIn (g : Sgn) (a : Alg) (t : Tm) (xs : List Int) : Int := if isAlg g a = true ∧ isTerm g t = true ∧ xs.length = (varsOf t).length ∧ xs.all (inB a.size) = true then valTm g a (varsOf t) xs t else -1
theorem valIn_no {g : Sgn} {a : Alg} {t : Tm} {xs : List Int} (h : ¬ (isAlg g a = true ∧ isTerm g t = true ∧ xs.length = (varsOf t).length ∧ xs.all (inB a.size) = true)) : valIn g a t xs = -1 := if_neg h
theorem mem_varsOf {t v : Tm} : v ∈ varsTm t → v ∈ varsOf t := fun h => mem_distTm.2 h
set_option maxHeartbeats 8000000 in
set_option maxRecDepth 100000 in
theorem con_implIsTerm {g : Sgn} {t : Tm} (hok : okSgn g) (ht : okTm t) (hb : bulkRow (encTm t) ≤ 1048576) : Con e0 70 [.agg (encSgn g), .agg (encTm t)] [.one (.lit (.bool (isSgn g && isTerm g t)))] := by
  by_cases hg : SgnOk g
  rotate_left
  · have hf : isSgn g = false := isSgn_false hg
    have c := con_newAlg_not hok hg
    rw [encSgn] at c
    refine gI 127 Tryz.func70 ?_
    (have F := And.intro @tmz @encSgn_u; refine gG ?_; clear F)
    refine gB ?_
    (have F := @tmz; refine gC (c) ?_; clear F)
    (have F := @tmz; refine gR ?_; clear F)
    (have F := And.intro @tmz @hf; refine gG ?_; exact gT)
  have hs := isSgn_true hg
  have c := conE_newAlg hok hg
  rw [encSgn] at c
  refine gI 127 Tryz.func70 ?_
  (have F := And.intro @tmz @encSgn_u; refine gG ?_; clear F)
  refine gB ?_
  (have F := @tmz; refine gCE (c) ?_; clear F)
  rintro r ⟨b, rfl⟩
  have c1 := con_implIsT (mc := .lit (.map (some b))) hg ht (big_of_bulk hb)
  generalize C.lit (.map (some b)) = mc at c1 ⊢
  (have F := And.intro @retA_u @sa_some; refine gR ?_; clear F)
  (have F := @tmz; refine gG ?_; clear F)
  refine gB ?_
  (have F := @tmz; refine gC (c1) ?_; clear F)
  (have F := @tmz; refine gR ?_; clear F)
  (have F := And.intro @tmz @hs; refine gG ?_; exact gT)
section
variable {g : Sgn} {a : Alg} {t : Tm} {xs : List Int}
theorem form_of (h : isTerm g t = true) : FormOk g t := (isTerm_iff.1 h).form
set_option maxHeartbeats 8000000 in
set_option maxRecDepth 100000 in
theorem con_specValueIn (hok : okSgn g) (ha : okAlg a) (ht : okTm t) (hb : bulkRow (encTm t) ≤ 1048576) (hxl : xs.length ≤ 1048576) : Con e0 24 [.agg (encSgn g), .agg (encAlg a), .agg (encTm t), .one (.sl (xs.map encInt))] [.one (.lit (.int .i64 (valIn g a t xs)))] := by
  have cV := con_specVars ht hb
  have cA := con_algF (f := 62) (by kernel_rfl) specIsAlgebra hok ha
  have cT := con_specIsTerm hok ht (big_of_bulk hb)
  have cW := fun hA hv hvs => con_specVal_all (g := g) (a := a) (vs := varsOf t) (xs := xs) hA hv hvs (okTms_vars ht) (sizeTm t + 1) t (Nat.lt_succ_self _) ht
  have hvl := varsOf_len t
  have hrb := rb_int xs
  rw [encSgn] at cA cT ⊢
  rw [encAlg] at cA cW ⊢
  refine gI 17601312851839 Tryz.func24 ?_
  (have F := @tmz; refine gG ?_; clear F)
  refine gB ?_
  (have F := @tmz; refine gC (cV) ?_; clear F)
  (have F := @tmz; refine gR ?_; clear F)
  (have F := @tmz; refine gG ?_; clear F)
  refine gB ?_
  (have F := @tmz; refine gC (cA) ?_; clear F)
  cases hA : isAlg g a with
  | false =>
    have hf : valIn g a t xs = -1 := valIn_no fun h => by rw [hA] at h; exact absurd h.1 (by decide)
    (have F := @tmz; refine gR ?_; clear F)
    (have F := @hf; refine gG ?_; exact gT)
  | true =>
  have hO := isAlg_iff.1 hA
  have hs := isSgn_true hO.sgn
  rw [hs, Bool.true_and] at cT
  (have F := @tmz; refine gC (cT) ?_; clear F)
  cases hT : isTerm g t with
  | false =>
    have hf : valIn g a t xs = -1 := valIn_no fun h => by rw [hT] at h; exact absurd h.2.1 (by decide)
    (have F := @tmz; refine gR ?_; clear F)
    (have F := @hf; refine gG ?_; exact gT)
  | true =>
  by_cases hlen : xs.length = (varsOf t).length
  rotate_left
  · have hf : valIn g a t xs = -1 := valIn_no fun h => hlen h.2.2.1
    have q1 : ((xs.length : Int) = ((varsOf t).length : Int)) = False := eq_false (by omega)
    (have F := And.intro @tmz @q1; refine gR ?_; clear F)
    (have F := @hf; refine gG ?_; exact gT)
  have q1 : ((xs.length : Int) = ((varsOf t).length : Int)) = True := eq_true (by omega)
  have hlo := hO.lo
  have hhi := hO.hi
  have hw : IntKind.i64.wrap (a.size - 1) = a.size - 1 := IntWalk.i64_in _ (by omega)
  (have F := And.intro @tmz @q1; refine gR ?_; clear F)
  (have F := @tmz; refine gG ?_; clear F)
  (have F := @e0P; refine gL (ι := Nat) [8, 10, 33, 44] [] (fun i => [(10, A.d (.one (.lit (.int .i64 i))))]) (fun i => []) (fun i => i ≤ xs.length ∧ (xs.take i).all (inB a.size) = true) (fun i => xs.length - i) (0) (⟨Nat.zero_le _, rfl⟩) (fun i hi => ?_); clear F)
  obtain ⟨hil, hall⟩ := hi
  by_cases hlt : i < xs.length
  · have q2 : (i : Int) < (xs.length : Int) := by omega
    obtain ⟨x, hx⟩ : ∃ x, xs[i]? = some x := ⟨_, List.getElem?_eq_getElem hlt⟩
    have hw1 := wrap1 (k := i) (by omega)
    (have F := And.intro @tmz @q2; refine gG ?_; clear F)
    refine gB ?_
    (have F := And.intro @tmz (And.intro @hrb (And.intro @encInt_u (And.intro @hx @hw))); refine gC (con_l1In x 0 (a.size - 1)) ?_; clear F)
    cases hh : inB a.size x with
    | false =>
      have hf : valIn g a t xs = -1 := valIn_no fun h => by rw [all_false (List.mem_of_getElem? hx) hh] at h; exact absurd h.2.2.2 (by decide)
      have q3 : decide (0 ≤ x ∧ x ≤ a.size - 1) = false := by
        simp only [inB, decide_eq_false_iff_not] at hh ⊢
        omega
      (have F := And.intro @tmz @q3; refine gR ?_; clear F)
      (have F := @hf; refine gG ?_; exact gT)
    | true =>
      have q3 : decide (0 ≤ x ∧ x ≤ a.size - 1) = true := by
        simp only [inB, decide_eq_true_eq] at hh ⊢
        omega
      have hq : i + 1 ≤ xs.length ∧ (xs.take (i + 1)).all (inB a.size) = true := ⟨hlt, by rw [all_take_c hx, hall, hh]; rfl⟩
      (have F := And.intro @tmz @q3; refine gR ?_; clear F)
      (have F := And.intro @tmz @hw1; refine gG ?_; exact ⟨i + 1, hq, gw, gw, by omega⟩)
  obtain rfl : i = xs.length := by omega
  have q2 : ¬ ((xs.length : Int) < (xs.length : Int)) := by omega
  rw [List.take_length] at hall
  have hval : ValOk a (varsOf t) xs := ⟨hlen, fun x hx => by
    have := List.all_eq_true.1 hall x hx
    simp only [inB, decide_eq_true_eq] at this
    exact this⟩
  have cW := cW hO hval (by unfold big; omega) (form_of hT) (fun v hv => mem_varsOf hv) (big_of_bulk hb)
  have ev : valIn g a t xs = valTm g a (varsOf t) xs t := if_pos ⟨hA, hT, hlen, hall⟩
  rw [ev]
  (have F := And.intro @tmz @q2; refine gG ?_; clear F)
  refine gB ?_
  (have F := @tmz; refine gC (cW) ?_; clear F)
  (have F := @tmz; refine gR ?_; clear F)
  (have F := @tmz; refine gG ?_; exact gT)
set_option maxHeartbeats 8000000 in
set_option maxRecDepth 100000 in
theorem con_implValueIn (hok : okSgn g) (ha : okAlg a) (ht : okTm t) (hb : bulkRow (encTm t) ≤ 1048576) (hxl : xs.length ≤ 1048576) : Con e0 28 [.agg (encSgn g), .agg (encAlg a), .agg (encTm t), .one (.sl (xs.map encInt))] [.one (.lit (.int .i64 (valIn g a t xs)))] := by
  have cV := con_implVars t hb
  have cA := con_algF (f := 69) (by kernel_rfl) implIsAlgebra hok ha
  have cT := con_implIsTerm hok ht hb
  have cW := fun hA hv hvs => con_implVal_all (g := g) (a := a) (vs := varsOf t) (xs := xs) hA hv hvs (sizeTm t + 1) t (Nat.lt_succ_self _)
  have hvl := varsOf_len t
  have hrb := rb_int xs
  rw [encSgn] at cA cT cW ⊢
  rw [encAlg] at cA cW ⊢
  refine gI 17625472043903 Tryz.func28 ?_
  (have F := @tmz; refine gG ?_; clear F)
  refine gB ?_
  (have F := @tmz; refine gC (cV) ?_; clear F)
  (have F := @tmz; refine gR ?_; clear F)
  (have F := @tmz; refine gG ?_; clear F)
  refine gB ?_
  (have F := @tmz; refine gC (cA) ?_; clear F)
  cases hA : isAlg g a with
  | false =>
    have hf : valIn g a t xs = -1 := valIn_no fun h => by rw [hA] at h; exact absurd h.1 (by decide)
    (have F := @tmz; refine gR ?_; clear F)
    (have F := @hf; refine gG ?_; exact gT)
  | true =>
  have hO := isAlg_iff.1 hA
  have hs := isSgn_true hO.sgn
  rw [hs, Bool.true_and] at cT
  (have F := @tmz; refine gC (cT) ?_; clear F)
  cases hT : isTerm g t with
  | false =>
    have hf : valIn g a t xs = -1 := valIn_no fun h => by rw [hT] at h; exact absurd h.2.1 (by decide)
    (have F := @tmz; refine gR ?_; clear F)
    (have F := @hf; refine gG ?_; exact gT)
  | true =>
  by_cases hlen : xs.length = (varsOf t).length
  rotate_left
  · have hf : valIn g a t xs = -1 := valIn_no fun h => hlen h.2.2.1
    have q1 : ((xs.length : Int) = ((varsOf t).length : Int)) = False := eq_false (by omega)
    (have F := And.intro @tmz @q1; refine gR ?_; clear F)
    (have F := @hf; refine gG ?_; exact gT)
  have q1 : ((xs.length : Int) = ((varsOf t).length : Int)) = True := eq_true (by omega)
  (have F := And.intro @tmz @q1; refine gR ?_; clear F)
  (have F := @tmz; refine gG ?_; clear F)
  (have F := @e0P; refine gL (ι := Nat) [8, 11, 33, 34, 44] [] (fun i => [(33, A.d (.one (.lit (.int .i64 i))))]) (fun i => []) (fun i => i ≤ xs.length ∧ (xs.take i).all (inB a.size) = true) (fun i => xs.length - i) (0) (⟨Nat.zero_le _, rfl⟩) (fun i hi => ?_); clear F)
  obtain ⟨hil, hall⟩ := hi
  by_cases hlt : i < xs.length
  · have q2 : (i : Int) < (xs.length : Int) := by omega
    obtain ⟨x, hx⟩ : ∃ x, xs[i]? = some x := ⟨_, List.getElem?_eq_getElem hlt⟩
    have hw1 := wrap1 (k := i) (by omega)
    have hno : ¬ (0 ≤ x ∧ x < a.size) → valIn g a t xs = -1 := fun hn => valIn_no fun h => by
      have := List.all_eq_true.1 h.2.2.2 x (List.mem_of_getElem? hx)
      simp only [inB, decide_eq_true_eq] at this
      exact hn this
    by_cases h1 : x < 0
    · have hf := hno (by omega)
      have q3 : (x < 0) = True := eq_true h1
      (have F := And.intro @tmz (And.intro @q2 (And.intro @hrb (And.intro @encInt_u (And.intro @hx (And.intro @q3 @hf))))); refine gG ?_; exact gT)
    have q3 : (x < 0) = False := eq_false h1
    by_cases h2 : a.size ≤ x
    · have hf := hno (by omega)
      have q4 : (a.size ≤ x) = True := eq_true h2
      (have F := And.intro @tmz (And.intro @q2 (And.intro @hrb (And.intro @encInt_u (And.intro @hx (And.intro @q3 (And.intro @q4 @hf)))))); refine gG ?_; exact gT)
    have q4 : (a.size ≤ x) = False := eq_false h2
    have hq : i + 1 ≤ xs.length ∧ (xs.take (i + 1)).all (inB a.size) = true := ⟨hlt, by
      rw [all_take_c hx, hall]
      simp only [inB, Bool.true_and, decide_eq_true_eq]
      omega⟩
    (have F := And.intro @tmz (And.intro @q2 (And.intro @hrb (And.intro @encInt_u (And.intro @hx (And.intro @q3 (And.intro @q4 @hw1)))))); refine gG ?_; exact ⟨i + 1, hq, gw, gw, by omega⟩)
  obtain rfl : i = xs.length := by omega
  have q2 : ¬ ((xs.length : Int) < (xs.length : Int)) := by omega
  rw [List.take_length] at hall
  have hval : ValOk a (varsOf t) xs := ⟨hlen, fun x hx => by
    have := List.all_eq_true.1 hall x hx
    simp only [inB, decide_eq_true_eq] at this
    exact this⟩
  have cW := cW hO hval (by unfold big; omega) (form_of hT) (fun v hv => mem_varsOf hv) (big_of_bulk hb)
  have ev : valIn g a t xs = valTm g a (varsOf t) xs t := if_pos ⟨hA, hT, hlen, hall⟩
  rw [ev]
  (have F := And.intro @tmz @q2; refine gG ?_; clear F)
  refine gB ?_
  (have F := @tmz; refine gC (cW) ?_; clear F)
  (have F := @tmz; refine gR ?_; clear F)
  (have F := @tmz; refine gG ?_; exact gT)
end
end Go.Proofs.YtpbikjkjfojjiaaGreat

namespace Go.Proofs.YtpbikjkjfojjiaaGreat
open Go.RowKit
set_option maxHeartbeats 40000000 in
set_option maxRecDepth 100000 in
theorem con_lawValueIn {row0 : List C} (hok0 : okRow (sigF) row0) {row1 : List C} (hok1 : okRow (algF) row1) {row2 : List C} (hok2 : okRow (fieldsOf .term) row2) {rows3 : List (List C)} (hok3 : okRows (fieldsOf .int) rows3) {R0 : Int} (hsp0 : bulkRow row0 ≤ 1048576 → bulkRow row1 ≤ 1048576 → bulkRow row2 ≤ 1048576 → rows3.length + bulkRows rows3 ≤ 1048576 → Con e0 24 [.agg row0, .agg row1, .agg row2, .one (.sl rows3)] [.one (.lit (.int .i64 R0))]) (him0 : bulkRow row0 ≤ 1048576 → bulkRow row1 ≤ 1048576 → bulkRow row2 ≤ 1048576 → rows3.length + bulkRows rows3 ≤ 1048576 → Con e0 28 [.agg row0, .agg row1, .agg row2, .one (.sl rows3)] [.one (.lit (.int .i64 R0))]) : Con e0 5 [.agg row0, .agg row1, .agg row2, .one (.sl rows3)] [.one (.lit (.bool true))] := by
  have okc0 := hok0.cells
  obtain ⟨len0, tk0, dr0⟩ := hok0.take (n := 3) rfl
  have okc1 := hok1.cells
  obtain ⟨len1, tk1, dr1⟩ := hok1.take (n := 2) rfl
  have okc2 := hok2.cells
  obtain ⟨len2, tk2, dr2⟩ := hok2.take (n := 4) rfl
  refine gI 311980847376997810503551 Tryz.func5 ?_
  by_cases hb3 : (rows3.length : Int) ≤ 1048576
  rotate_left
  · have n1 : ((rows3.length : Int) > 1048576) = True := eq_true (by omega)
    (have F := And.intro @okc0 (And.intro @len0 (And.intro @tk0 (And.intro @dr0 (And.intro @okc1 (And.intro @len1 (And.intro @tk1 (And.intro @dr1 (And.intro @okc2 (And.intro @len2 (And.intro @tk2 (And.intro @dr2 (And.intro @drop0 @n1)))))))))))); refine gG ?_; exact gT)
  have n1 : ((rows3.length : Int) > 1048576) = False := eq_false (by omega)
  (have F := And.intro @okc0 (And.intro @len0 (And.intro @tk0 (And.intro @dr0 (And.intro @okc1 (And.intro @len1 (And.intro @tk1 (And.intro @dr1 (And.intro @okc2 (And.intro @len2 (And.intro @tk2 (And.intro @dr2 (And.intro @drop0 @n1)))))))))))); refine gG ?_; clear F)
  clear n1
  have hB3 : rows3.length + bulkRows rows3 ≤ 1048576 := by have := ints_bulk hok3; omega
  have hL0_0 : (0 : Int) ≤ 1048576 := by omega
  have hL0_1 : (1048576 : Int) ≤ 1048576 := by omega
  refine gB ?_
  (have F := And.intro @okc0 (And.intro @len0 (And.intro @tk0 (And.intro @dr0 (And.intro @okc1 (And.intro @len1 (And.intro @tk1 (And.intro @dr1 (And.intro @okc2 (And.intro @len2 (And.intro @tk2 (And.intro @dr2 @drop0))))))))))); refine gC (con_szSignature hok0 hL0_0 hL0_1) ?_; clear F)
  (have F := And.intro @okc0 (And.intro @len0 (And.intro @tk0 (And.intro @dr0 (And.intro @okc1 (And.intro @len1 (And.intro @tk1 (And.intro @dr1 (And.intro @okc2 (And.intro @len2 (And.intro @tk2 (And.intro @dr2 @drop0))))))))))); refine gR ?_; clear F)
  by_cases hb0 : ((bulkRow row0) : Int) ≤ 1048576
  rotate_left
  · have n1 : sub 1048576 (bulkRow row0) = -1 := sub_neg (by omega)
    have n2 : (-1 : Int) < 0 := by omega
    (have F := And.intro @n1 @n2; refine gG ?_; exact gT)
  have nq0 : sub 1048576 (bulkRow row0) = 1048576 - ((bulkRow row0) : Nat) := sub_pos (by omega)
  rw [nq0]
  clear nq0
  have hB0 : bulkRow row0 ≤ 1048576 := by omega
  have hL1_0 : (0 : Int) ≤ 1048576 - ((bulkRow row0) : Nat) := by omega
  have hL1_1 : (1048576 : Int) - ((bulkRow row0) : Nat) ≤ 1048576 := by omega
  generalize hgl0 : (1048576 : Int) - ((bulkRow row0) : Nat) = L1 at *
  clear hgl0
  have n2 : ¬ (L1 < 0) := by omega
  (have F := And.intro @n2 (And.intro @okc0 (And.intro @len0 (And.intro @tk0 (And.intro @dr0 (And.intro @okc1 (And.intro @len1 (And.intro @tk1 (And.intro @dr1 (And.intro @okc2 (And.intro @len2 (And.intro @tk2 (And.intro @dr2 @drop0)))))))))))); refine gG ?_; clear F)
  clear n2 hb0
  refine gB ?_
  (have F := And.intro @okc0 (And.intro @len0 (And.intro @tk0 (And.intro @dr0 (And.intro @okc1 (And.intro @len1 (And.intro @tk1 (And.intro @dr1 (And.intro @okc2 (And.intro @len2 (And.intro @tk2 (And.intro @dr2 @drop0))))))))))); refine gC (con_szAlgebra hok1 hL1_0 hL1_1) ?_; clear F)
  (have F := And.intro @okc0 (And.intro @len0 (And.intro @tk0 (And.intro @dr0 (And.intro @okc1 (And.intro @len1 (And.intro @tk1 (And.intro @dr1 (And.intro @okc2 (And.intro @len2 (And.intro @tk2 (And.intro @dr2 @drop0))))))))))); refine gR ?_; clear F)
  by_cases hb1 : ((bulkRow row1) : Int) ≤ L1
  rotate_left
  · have n1 : sub L1 (bulkRow row1) = -1 := sub_neg (by omega)
    have n2 : (-1 : Int) < 0 := by omega
    (have F := And.intro @n1 @n2; refine gG ?_; exact gT)
  have nq1 : sub L1 (bulkRow row1) = L1 - ((bulkRow row1) : Nat) := sub_pos (by omega)
  rw [nq1]
  clear nq1
  have hB1 : bulkRow row1 ≤ 1048576 := by omega
  have hL2_0 : (0 : Int) ≤ L1 - ((bulkRow row1) : Nat) := by omega
  have hL2_1 : (L1 : Int) - ((bulkRow row1) : Nat) ≤ 1048576 := by omega
  generalize hgl1 : (L1 : Int) - ((bulkRow row1) : Nat) = L2 at *
  clear hgl1
  have n2 : ¬ (L2 < 0) := by omega
  (have F := And.intro @n2 (And.intro @okc0 (And.intro @len0 (And.intro @tk0 (And.intro @dr0 (And.intro @okc1 (And.intro @len1 (And.intro @tk1 (And.intro @dr1 (And.intro @okc2 (And.intro @len2 (And.intro @tk2 (And.intro @dr2 @drop0)))))))))))); refine gG ?_; clear F)
  clear n2 hb1
  refine gB ?_
  (have F := And.intro @okc0 (And.intro @len0 (And.intro @tk0 (And.intro @dr0 (And.intro @okc1 (And.intro @len1 (And.intro @tk1 (And.intro @dr1 (And.intro @okc2 (And.intro @len2 (And.intro @tk2 (And.intro @dr2 @drop0))))))))))); refine gC (con_szTerm hok2 hL2_0 hL2_1) ?_; clear F)
  (have F := And.intro @okc0 (And.intro @len0 (And.intro @tk0 (And.intro @dr0 (And.intro @okc1 (And.intro @len1 (And.intro @tk1 (And.intro @dr1 (And.intro @okc2 (And.intro @len2 (And.intro @tk2 (And.intro @dr2 @drop0))))))))))); refine gR ?_; clear F)
  by_cases hb2 : ((bulkRow row2) : Int) ≤ L2
  rotate_left
  · have n1 : sub L2 (bulkRow row2) = -1 := sub_neg (by omega)
    have n2 : (-1 : Int) < 0 := by omega
    (have F := And.intro @n1 @n2; refine gG ?_; exact gT)
  have nq2 : sub L2 (bulkRow row2) = L2 - ((bulkRow row2) : Nat) := sub_pos (by omega)
  rw [nq2]
  clear nq2
  have hB2 : bulkRow row2 ≤ 1048576 := by omega
  have hL3_0 : (0 : Int) ≤ L2 - ((bulkRow row2) : Nat) := by omega
  have hL3_1 : (L2 : Int) - ((bulkRow row2) : Nat) ≤ 1048576 := by omega
  generalize hgl2 : (L2 : Int) - ((bulkRow row2) : Nat) = L3 at *
  clear hgl2
  have n2 : ¬ (L3 < 0) := by omega
  (have F := And.intro @n2 (And.intro @okc0 (And.intro @len0 (And.intro @tk0 (And.intro @dr0 (And.intro @okc1 (And.intro @len1 (And.intro @tk1 (And.intro @dr1 (And.intro @okc2 (And.intro @len2 (And.intro @tk2 (And.intro @dr2 @drop0)))))))))))); refine gG ?_; clear F)
  clear n2 hb2
  have hsp := hsp0 hB0 hB1 hB2 hB3
  have him := him0 hB0 hB1 hB2 hB3
  have cT0 := con_toSignature hok0 hB0
  have cT1 := con_toAlgebra hok1 hB1
  have cT2 := con_toTerm hok2 hB2
  have cT3 := con_toIntS hok3 hB3
  refine gB ?_
  (have F := And.intro @okc0 (And.intro @len0 (And.intro @tk0 (And.intro @dr0 (And.intro @okc1 (And.intro @len1 (And.intro @tk1 (And.intro @dr1 (And.intro @okc2 (And.intro @len2 (And.intro @tk2 (And.intro @dr2 @drop0))))))))))); refine gC (cT0) ?_; clear F)
  (have F := And.intro @okc0 (And.intro @len0 (And.intro @tk0 (And.intro @dr0 (And.intro @okc1 (And.intro @len1 (And.intro @tk1 (And.intro @dr1 (And.intro @okc2 (And.intro @len2 (And.intro @tk2 (And.intro @dr2 @drop0))))))))))); refine gC (cT1) ?_; clear F)
  (have F := And.intro @okc0 (And.intro @len0 (And.intro @tk0 (And.intro @dr0 (And.intro @okc1 (And.intro @len1 (And.intro @tk1 (And.intro @dr1 (And.intro @okc2 (And.intro @len2 (And.intro @tk2 (And.intro @dr2 @drop0))))))))))); refine gC (cT2) ?_; clear F)
  (have F := And.intro @okc0 (And.intro @len0 (And.intro @tk0 (And.intro @dr0 (And.intro @okc1 (And.intro @len1 (And.intro @tk1 (And.intro @dr1 (And.intro @okc2 (And.intro @len2 (And.intro @tk2 (And.intro @dr2 @drop0))))))))))); refine gC (cT3) ?_; clear F)
  (have F := And.intro @okc0 (And.intro @len0 (And.intro @tk0 (And.intro @dr0 (And.intro @okc1 (And.intro @len1 (And.intro @tk1 (And.intro @dr1 (And.intro @okc2 (And.intro @len2 (And.intro @tk2 (And.intro @dr2 @drop0))))))))))); refine gC (hsp) ?_; clear F)
  (have F := And.intro @okc0 (And.intro @len0 (And.intro @tk0 (And.intro @dr0 (And.intro @okc1 (And.intro @len1 (And.intro @tk1 (And.intro @dr1 (And.intro @okc2 (And.intro @len2 (And.intro @tk2 (And.intro @dr2 @drop0))))))))))); refine gR ?_; clear F)
  (have F := And.intro @okc0 (And.intro @len0 (And.intro @tk0 (And.intro @dr0 (And.intro @okc1 (And.intro @len1 (And.intro @tk1 (And.intro @dr1 (And.intro @okc2 (And.intro @len2 (And.intro @tk2 (And.intro @dr2 @drop0))))))))))); refine gG ?_; clear F)
  refine gB ?_
  (have F := And.intro @okc0 (And.intro @len0 (And.intro @tk0 (And.intro @dr0 (And.intro @okc1 (And.intro @len1 (And.intro @tk1 (And.intro @dr1 (And.intro @okc2 (And.intro @len2 (And.intro @tk2 (And.intro @dr2 @drop0))))))))))); refine gC (cT0) ?_; clear F)
  (have F := And.intro @okc0 (And.intro @len0 (And.intro @tk0 (And.intro @dr0 (And.intro @okc1 (And.intro @len1 (And.intro @tk1 (And.intro @dr1 (And.intro @okc2 (And.intro @len2 (And.intro @tk2 (And.intro @dr2 @drop0))))))))))); refine gR ?_; clear F)
  (have F := And.intro @okc0 (And.intro @len0 (And.intro @tk0 (And.intro @dr0 (And.intro @okc1 (And.intro @len1 (And.intro @tk1 (And.intro @dr1 (And.intro @okc2 (And.intro @len2 (And.intro @tk2 (And.intro @dr2 @drop0))))))))))); refine gG ?_; clear F)
  refine gB ?_
  (have F := And.intro @okc0 (And.intro @len0 (And.intro @tk0 (And.intro @dr0 (And.intro @okc1 (And.intro @len1 (And.intro @tk1 (And.intro @dr1 (And.intro @okc2 (And.intro @len2 (And.intro @tk2 (And.intro @dr2 @drop0))))))))))); refine gC (cT1) ?_; clear F)
  (have F := And.intro @okc0 (And.intro @len0 (And.intro @tk0 (And.intro @dr0 (And.intro @okc1 (And.intro @len1 (And.intro @tk1 (And.intro @dr1 (And.intro @okc2 (And.intro @len2 (And.intro @tk2 (And.intro @dr2 @drop0))))))))))); refine gR ?_; clear F)
  (have F := And.intro @okc0 (And.intro @len0 (And.intro @tk0 (And.intro @dr0 (And.intro @okc1 (And.intro @len1 (And.intro @tk1 (And.intro @dr1 (And.intro @okc2 (And.intro @len2 (And.intro @tk2 (And.intro @dr2 @drop0))))))))))); refine gG ?_; clear F)
  refine gB ?_
  (have F := And.intro @okc0 (And.intro @len0 (And.intro @tk0 (And.intro @dr0 (And.intro @okc1 (And.intro @len1 (And.intro @tk1 (And.intro @dr1 (And.intro @okc2 (And.intro @len2 (And.intro @tk2 (And.intro @dr2 @drop0))))))))))); refine gC (cT2) ?_; clear F)
  (have F := And.intro @okc0 (And.intro @len0 (And.intro @tk0 (And.intro @dr0 (And.intro @okc1 (And.intro @len1 (And.intro @tk1 (And.intro @dr1 (And.intro @okc2 (And.intro @len2 (And.intro @tk2 (And.intro @dr2 @drop0))))))))))); refine gR ?_; clear F)
  (have F := And.intro @okc0 (And.intro @len0 (And.intro @tk0 (And.intro @dr0 (And.intro @okc1 (And.intro @len1 (And.intro @tk1 (And.intro @dr1 (And.intro @okc2 (And.intro @len2 (And.intro @tk2 (And.intro @dr2 @drop0))))))))))); refine gG ?_; clear F)
  refine gB ?_
  (have F := And.intro @okc0 (And.intro @len0 (And.intro @tk0 (And.intro @dr0 (And.intro @okc1 (And.intro @len1 (And.intro @tk1 (And.intro @dr1 (And.intro @okc2 (And.intro @len2 (And.intro @tk2 (And.intro @dr2 @drop0))))))))))); refine gC (cT3) ?_; clear F)
  (have F := And.intro @okc0 (And.intro @len0 (And.intro @tk0 (And.intro @dr0 (And.intro @okc1 (And.intro @len1 (And.intro @tk1 (And.intro @dr1 (And.intro @okc2 (And.intro @len2 (And.intro @tk2 (And.intro @dr2 @drop0))))))))))); refine gR ?_; clear F)
  (have F := And.intro @okc0 (And.intro @len0 (And.intro @tk0 (And.intro @dr0 (And.intro @okc1 (And.intro @len1 (And.intro @tk1 (And.intro @dr1 (And.intro @okc2 (And.intro @len2 (And.intro @tk2 (And.intro @dr2 @drop0))))))))))); refine gG ?_; clear F)
  refine gB ?_
  (have F := And.intro @okc0 (And.intro @len0 (And.intro @tk0 (And.intro @dr0 (And.intro @okc1 (And.intro @len1 (And.intro @tk1 (And.intro @dr1 (And.intro @okc2 (And.intro @len2 (And.intro @tk2 (And.intro @dr2 @drop0))))))))))); refine gC (him) ?_; clear F)
  (have F := And.intro @okc0 (And.intro @len0 (And.intro @tk0 (And.intro @dr0 (And.intro @okc1 (And.intro @len1 (And.intro @tk1 (And.intro @dr1 (And.intro @okc2 (And.intro @len2 (And.intro @tk2 (And.intro @dr2 @drop0))))))))))); refine gR ?_; clear F)
  (have F := And.intro @okc0 (And.intro @len0 (And.intro @tk0 (And.intro @dr0 (And.intro @okc1 (And.intro @len1 (And.intro @tk1 (And.intro @dr1 (And.intro @okc2 (And.intro @len2 (And.intro @tk2 (And.intro @dr2 (And.intro @drop0 @beq_self_eq_true.{0})))))))))))); refine gG ?_; clear F)
  refine gB ?_
  (have F := And.intro @okc0 (And.intro @len0 (And.intro @tk0 (And.intro @dr0 (And.intro @okc1 (And.intro @len1 (And.intro @tk1 (And.intro @dr1 (And.intro @okc2 (And.intro @len2 (And.intro @tk2 (And.intro @dr2 @drop0))))))))))); refine gC (cT0) ?_; clear F)
  (have F := And.intro @okc0 (And.intro @len0 (And.intro @tk0 (And.intro @dr0 (And.intro @okc1 (And.intro @len1 (And.intro @tk1 (And.intro @dr1 (And.intro @okc2 (And.intro @len2 (And.intro @tk2 (And.intro @dr2 @drop0))))))))))); refine gC (con_eqSignature hok0) ?_; clear F)
  (have F := And.intro @okc0 (And.intro @len0 (And.intro @tk0 (And.intro @dr0 (And.intro @okc1 (And.intro @len1 (And.intro @tk1 (And.intro @dr1 (And.intro @okc2 (And.intro @len2 (And.intro @tk2 (And.intro @dr2 @drop0))))))))))); refine gR ?_; clear F)
  (have F := And.intro @okc0 (And.intro @len0 (And.intro @tk0 (And.intro @dr0 (And.intro @okc1 (And.intro @len1 (And.intro @tk1 (And.intro @dr1 (And.intro @okc2 (And.intro @len2 (And.intro @tk2 (And.intro @dr2 @drop0))))))))))); refine gG ?_; clear F)
  refine gB ?_
  (have F := And.intro @okc0 (And.intro @len0 (And.intro @tk0 (And.intro @dr0 (And.intro @okc1 (And.intro @len1 (And.intro @tk1 (And.intro @dr1 (And.intro @okc2 (And.intro @len2 (And.intro @tk2 (And.intro @dr2 @drop0))))))))))); refine gC (cT1) ?_; clear F)
  (have F := And.intro @okc0 (And.intro @len0 (And.intro @tk0 (And.intro @dr0 (And.intro @okc1 (And.intro @len1 (And.intro @tk1 (And.intro @dr1 (And.intro @okc2 (And.intro @len2 (And.intro @tk2 (And.intro @dr2 @drop0))))))))))); refine gC (con_eqAlgebra hok1) ?_; clear F)
  (have F := And.intro @okc0 (And.intro @len0 (And.intro @tk0 (And.intro @dr0 (And.intro @okc1 (And.intro @len1 (And.intro @tk1 (And.intro @dr1 (And.intro @okc2 (And.intro @len2 (And.intro @tk2 (And.intro @dr2 @drop0))))))))))); refine gR ?_; clear F)
  (have F := And.intro @okc0 (And.intro @len0 (And.intro @tk0 (And.intro @dr0 (And.intro @okc1 (And.intro @len1 (And.intro @tk1 (And.intro @dr1 (And.intro @okc2 (And.intro @len2 (And.intro @tk2 (And.intro @dr2 @drop0))))))))))); refine gG ?_; clear F)
  refine gB ?_
  (have F := And.intro @okc0 (And.intro @len0 (And.intro @tk0 (And.intro @dr0 (And.intro @okc1 (And.intro @len1 (And.intro @tk1 (And.intro @dr1 (And.intro @okc2 (And.intro @len2 (And.intro @tk2 (And.intro @dr2 @drop0))))))))))); refine gC (cT2) ?_; clear F)
  (have F := And.intro @okc0 (And.intro @len0 (And.intro @tk0 (And.intro @dr0 (And.intro @okc1 (And.intro @len1 (And.intro @tk1 (And.intro @dr1 (And.intro @okc2 (And.intro @len2 (And.intro @tk2 (And.intro @dr2 @drop0))))))))))); refine gC (con_eqTerm hok2) ?_; clear F)
  (have F := And.intro @okc0 (And.intro @len0 (And.intro @tk0 (And.intro @dr0 (And.intro @okc1 (And.intro @len1 (And.intro @tk1 (And.intro @dr1 (And.intro @okc2 (And.intro @len2 (And.intro @tk2 (And.intro @dr2 @drop0))))))))))); refine gR ?_; clear F)
  (have F := And.intro @okc0 (And.intro @len0 (And.intro @tk0 (And.intro @dr0 (And.intro @okc1 (And.intro @len1 (And.intro @tk1 (And.intro @dr1 (And.intro @okc2 (And.intro @len2 (And.intro @tk2 (And.intro @dr2 @drop0))))))))))); refine gG ?_; clear F)
  refine gB ?_
  (have F := And.intro @okc0 (And.intro @len0 (And.intro @tk0 (And.intro @dr0 (And.intro @okc1 (And.intro @len1 (And.intro @tk1 (And.intro @dr1 (And.intro @okc2 (And.intro @len2 (And.intro @tk2 (And.intro @dr2 @drop0))))))))))); refine gC (cT3) ?_; clear F)
  (have F := And.intro @okc0 (And.intro @len0 (And.intro @tk0 (And.intro @dr0 (And.intro @okc1 (And.intro @len1 (And.intro @tk1 (And.intro @dr1 (And.intro @okc2 (And.intro @len2 (And.intro @tk2 (And.intro @dr2 @drop0))))))))))); refine gC (con_eqIntS hok3) ?_; clear F)
  (have F := And.intro @okc0 (And.intro @len0 (And.intro @tk0 (And.intro @dr0 (And.intro @okc1 (And.intro @len1 (And.intro @tk1 (And.intro @dr1 (And.intro @okc2 (And.intro @len2 (And.intro @tk2 (And.intro @dr2 @drop0))))))))))); refine gR ?_; clear F)
  (have F := And.intro @okc0 (And.intro @len0 (And.intro @tk0 (And.intro @dr0 (And.intro @okc1 (And.intro @len1 (And.intro @tk1 (And.intro @dr1 (And.intro @okc2 (And.intro @len2 (And.intro @tk2 (And.intro @dr2 @drop0))))))))))); refine gG ?_; exact gT)
theorem lawExactValueIn (w : World) (row0 : List C) (S0 : Nat → Prop) (us0 : List Value) (hok0 : okRow (sigF) row0) (hv0 : RepVals w S0 row0 us0) (row1 : List C) (S1 : Nat → Prop) (us1 : List Value) (hok1 : okRow (algF) row1) (hv1 : RepVals w S1 row1 us1) (row2 : List C) (S2 : Nat → Prop) (us2 : List Value) (hok2 : okRow (fieldsOf .term) row2) (hv2 : RepVals w S2 row2 us2) (rows3 : List (List C)) (S3 : Nat → Prop) (u3 : Value) (hok3 : okRows (fieldsOf .int) rows3) (hv3 : Rep w S3 (.sl rows3) u3) :
    Calls Tryz.prog 5 #[(.agg us0.toArray : Value), (.agg us1.toArray : Value), (.agg us2.toArray : Value), u3] w fun e w' => e = .returned (.bool true) ∧ Below w.heap.size w w' := by
  obtain ⟨g, rfl, k0⟩ := decSgn hok0
  obtain ⟨a, rfl, k1⟩ := decAlg hok1
  obtain ⟨t, rfl, k2⟩ := decTm hok2
  obtain ⟨xs, rfl, k3⟩ := decL decInt hok3
  have hc := (con_lawValueIn hok0 hok1 hok2 hok3 (fun b0 b1 b2 b3 => con_specValueIn k0 k1 k2 b2 (by simpa using Nat.le_trans (Nat.le_add_right _ _) b3)) (fun b0 b1 b2 b3 => con_implValueIn k0 k1 k2 b2 (by simpa using Nat.le_trans (Nat.le_add_right _ _) b3))).2 w (fun b => b < w.heap.size) [(.agg us0.toArray : Value), (.agg us1.toArray : Value), (.agg us2.toArray : Value), u3] (fun b hb => ⟨hb, id⟩) (fun b hb => hb.elim) trivial
    ⟨⟨us0, rfl, hv0.inside'⟩, ⟨us1, rfl, hv1.inside'⟩, ⟨us2, rfl, hv2.inside'⟩, (Rep.inside _ _ hv3).mono (fun b hb => hb.2), trivial⟩
  refine hc.mono fun e w' ⟨v, h1, h2, _, h4⟩ => ⟨?_, h2.below⟩
  have h4 : v = .bool true := by simpa [retA, ARel, DRel, Rep] using h4
  rw [h1, h4]
end Go.Proofs.YtpbikjkjfojjiaaGreat

namespace Go.Proofs.YtpbikjkjfojjiaaGreat
open Go.ChangeShapes Go.WideShapes Go.ChangeAt Go.RowKit Go.Deep

set_option maxRecDepth 100000 in
theorem valueIn_holds_lifted (os : Os) (started : os.Started) (H : Type) (enc : TypeId × Value → H) :
    ReturnsInHanded {} Tryz.checked os 5 .any (Rows.fnExactValueInSpec.pre6 enc Tryz.prog Tryz.f5 Rows.fnExactValueInRow.domain false) (Rows.fnExactValueInSpec.post enc Tryz.prog Tryz.f5 false true false false) := by
  refine returnsInHanded_of_change (C := Tryz.checked) own started (by kernel_rfl) Tryz.func5
    (ChangeSpec.witness6 (enc := enc) (C := Tryz.checked) false ⟨#[], #[.agg #[.slice none 0 0, .slice none 0 0, .slice none 0 0], .agg #[.int .i64 0, .slice none 0 0], .agg #[.int .i64 0, .string .empty, .int .i64 0, .slice none 0 0], .slice none 0 0], []⟩ 8 (by kernel_rfl) (by kernel_rfl) (by kernel_rfl) (by kernel_rfl)) ?_
  intro W base args ds gs before hval0 hW _ _
  have hval : ∀ (j : Nat) t v, Tryz.f5.params[j]? = some t → args[j]? = some v → Value.okWide Tryz.prog W .any base t v := hval0
  have hW' := hW
  obtain ⟨p, q, hA0, hV, rfl, _, _⟩ := hW
  have hA : DataW.TrodAll enc Tryz.prog W 0 (fun _ => true) true Tryz.f5.params.toList args.toList ds p := hA0
  rw [Tryz.params5] at hA hval
  obtain ⟨v0, vs0, d0, ds0, p0, q0, hargs0, hd0, hp0, h0, r0⟩ := trodAll_cons hA
  obtain ⟨v1, vs1, d1, ds1, p1, q1, hargs1, hd1, hp1, h1, r1⟩ := trodAll_cons r0
  obtain ⟨v2, vs2, d2, ds2, p2, q2, hargs2, hd2, hp2, h2, r2⟩ := trodAll_cons r1
  obtain ⟨v3, vs3, d3, ds3, p3, q3, hargs3, hd3, hp3, h3, r3⟩ := trodAll_cons r2
  obtain ⟨e4, e4d, _⟩ := trodAll_nil r3
  rw [e4] at hargs3
  rw [hargs3] at hargs2
  rw [hargs2] at hargs1
  rw [hargs1] at hargs0
  obtain rfl : args = #[v0, v1, v2, v3] := by cases args; simp_all
  rw [e4d] at hd3
  rw [hd3] at hd2
  rw [hd2] at hd1
  rw [hd1] at hd0
  subst hd0
  obtain ⟨rfl, rfl⟩ := trodVars_none hV
  obtain ⟨cs0, rfl, _⟩ := okWide_struct Tryz.underlying28 (hval 0 28 v0 rfl rfl)
  obtain ⟨fuel0, hf0⟩ := h0
  obtain ⟨row0, hok0, hrep0⟩ := open_row seatTR fuel0 _ _ _ _ ty_Signature hf0
  have e0c : (Value.agg cs0).cells.toList.toArray = cs0 := by simp [Value.cells]
  obtain ⟨cs1, rfl, _⟩ := okWide_struct Tryz.underlying68 (hval 1 68 v1 rfl rfl)
  obtain ⟨fuel1, hf1⟩ := h1
  obtain ⟨row1, hok1, hrep1⟩ := open_row seatTR fuel1 _ _ _ _ ty_Algebra hf1
  have e1c : (Value.agg cs1).cells.toList.toArray = cs1 := by simp [Value.cells]
  obtain ⟨cs2, rfl, _⟩ := okWide_struct Tryz.underlying31 (hval 2 31 v2 rfl rfl)
  obtain ⟨fuel2, hf2⟩ := h2
  obtain ⟨row2, hok2, hrep2⟩ := open_row seatTR fuel2 _ _ _ _ ty_Term hf2
  have e2c : (Value.agg cs2).cells.toList.toArray = cs2 := by simp [Value.cells]
  obtain ⟨fuel3, hf3⟩ := h3
  have hone3 := okWide_one Tryz.underlying69 (hval 3 69 v3 rfl rfl)
  rw [hone3] at hf3
  obtain ⟨row3, hok3, hrep3⟩ := open_row seatTR fuel3 _ _ _ _ ty_s_int hf3
  obtain ⟨rows3, hok3', hrep3'⟩ := open_sl hok3 hrep3
  have hlaw := lawExactValueIn W row0 _ _ hok0 hrep0 row1 _ _ hok1 hrep1 row2 _ _ hok2 hrep2 rows3 _ _ hok3' hrep3'
  rw [e0c, e1c, e2c] at hlaw
  refine hlaw.mono fun e W' ⟨he, hb⟩ => ?_
  subst he
  exact ⟨_, rfl, law_post laidOut rfl rfl Tryz.underlying4 (by rw [Tryz.params5]; decide +kernel) hW' rfl hb⟩

theorem valueIn_holds : Rows.FnExactValueInSaid :=
  OpenClaim.holds_of_wide 5 Tryz.f5 rfl rfl rfl rfl rfl rfl rfl ⟨rfl, rfl, rfl, rfl, rfl⟩ rfl rfl rfl rfl rfl (by kernel_rfl) Tryz.func5 (by kernel_rfl)
    (of_decide_eq_true (by kernel_rfl)) (by unfold Func.isWrapper; rw [if_neg (of_decide_eq_false (by kernel_rfl))]; exact ⟨rfl, rfl⟩)
    (fun os started H enc _ => valueIn_holds_lifted os started H enc)
#print axioms valueIn_holds
end Go.Proofs.YtpbikjkjfojjiaaGreat

