/-
  FnExactCandidateEquations returns true for every module and term, and turns nothing: proved without conditions.
-/
import Derived.Test.YtkekkmpogmlopaaGreatBCandidateEquations0
import Derived.Test.YtkekkmpogmlopaaGreatBCandidateEquations1
import Derived.Test.YtkekkmpogmlopaaGreatBCandidateEquations2
import Derived.Test.YtkekkmpogmlopaaGreatBCandidateEquations3
import Derived.Test.YtkekkmpogmlopaaGreatBCandidateEquations4
import Derived.Shelf.SlSortCmp.WholeK
import Derived.Shelf.SlSortCmp.NoneTotal
import Derived.Lib.QuietBelow
import Derived.Shelf.SlLaysF0
import Derived.Test.YtkekkmpogmlopaaGreatChecked
import Derived.Shelf.Lays8
import Derived.Shelf.Spec.SlicesGrow
set_option linter.unusedSimpArgs false
set_option linter.unusedVariables false
namespace Go.Proofs.YtkekkmpogmlopaaGreat
open Go.RowKit
open Go.Sort (grow HoldsK putRowK flatK SWO PermIn SortedIn Holds mapBlock onCells putRow putCells get_flatK size_flatK)
theorem kept_grow {w w' : World} (h : Kept True (fun _ => False) w.heap.size w w') : ∃ q os, w' = grow (w.drewN q) os := by
  obtain ⟨p, hp⟩ := regrown_of_below (w := w) (w' := w') ⟨h.os, h.tape, h.output, h.size, fun k hk => h.block k hk id⟩
  have hd := h.drawn trivial
  have e : p.d = w'.drawn := by rw [hp]; rfl
  refine ⟨w'.drawn - w.drawn, p.os, ?_⟩
  have e2 : redrawn w p.d = w.drewN (w'.drawn - w.drawn) := by
    unfold redrawn World.drewN
    rw [e, show w.drawn + (w'.drawn - w.drawn) = w'.drawn by omega]
  rw [<- e2]
  exact hp
abbrev SRow (w : World) (S : Nat -> Prop) (Q : List C -> Prop) := {x : List C × List Value // Q x.1 ∧ RepVals w S x.1 x.2}
theorem srows_of {w : World} {S : Nat -> Prop} {b k : Nat} {Q : List C -> Prop} (hk : ∀ r, Q r -> r.length = k) : ∀ (rows : List (List C)) (off : Nat), (∀ r ∈ rows, Q r) -> RepRows w S b off rows -> ∃ l : List (SRow w S Q), l.map (fun x => x.1.1) = rows ∧ ∀ (i : Nat) x, l[i]? = some x -> ∀ j u, x.1.2[j]? = some u -> w.cell? ⟨b, off + i * k + j, none⟩ = some u
  | [], off, _, _ => ⟨[], rfl, fun i x h => by simp at h⟩
  | r :: rs, off, hQ, h => by
    simp only [RepRows] at h
    obtain ⟨vs, h1, h2⟩ := h.1.vals
    obtain ⟨l, e, hl⟩ := srows_of hk rs (off + r.length) (fun x hx => hQ x (List.mem_cons_of_mem _ hx)) h.2
    have hr := hQ r List.mem_cons_self
    refine ⟨⟨(r, vs), hr, h1⟩ :: l, by simp [e], fun i x hi j u hj => ?_⟩
    cases i with
    | zero =>
      simp only [List.getElem?_cons_zero, Option.some.injEq] at hi
      subst hi
      have := h2 j u hj
      rwa [Nat.zero_mul, Nat.add_zero]
    | succ i =>
      have := hl i x (by simpa using hi) j u hj
      rw [hk r hr] at this
      rwa [show off + (i + 1) * k + j = off + k + i * k + j by rw [Nat.succ_mul]; omega]
theorem reprows_of {w W : World} {S S2 : Nat -> Prop} {b k : Nat} {Q : List C -> Prop} (hk : ∀ r, Q r -> r.length = k) (hv : ∀ x : SRow w S Q, RepVals W S2 x.1.1 x.1.2) : ∀ (l : List (SRow w S Q)) (off : Nat), (∀ (i : Nat) x, l[i]? = some x -> ∀ j u, x.1.2[j]? = some u -> W.cell? ⟨b, off + i * k + j, none⟩ = some u) -> RepRows W S2 b off (l.map (fun x => x.1.1))
  | [], off, _ => by simp [RepRows]
  | x :: l, off, h => by
    simp only [List.map_cons, RepRows]
    refine ⟨RepRow.of_vals _ _ off (hv x) fun j u hj => ?_, ?_⟩
    · have := h 0 x rfl j u hj
      rwa [Nat.zero_mul, Nat.add_zero] at this
    · rw [hk _ x.2.1]
      refine reprows_of hk hv l (off + k) fun i y hi j u hj => ?_
      have := h (i + 1) y (by simpa using hi) j u hj
      rwa [show off + (i + 1) * k + j = off + k + i * k + j by rw [Nat.succ_mul]; omega] at this
theorem cells_holdsK {α : Type} [Inhabited α] {enc : α -> List Value} {k : Nat} {W : World} {b : Nat} {d : Array α} (hk : ∀ x, (enc x).length = k) (h : HoldsK enc k W b 0 d) {i : Nat} {x : α} (hi : d.toList[i]? = some x) {j : Nat} {u : Value} (hj : (enc x)[j]? = some u) : W.cell? ⟨b, 0 + i * k + j, none⟩ = some u := by
  have hil : i < d.size := by have := (List.getElem?_eq_some_iff.1 hi).1; simpa using this
  have hjl : j < k := by have := (List.getElem?_eq_some_iff.1 hj).1; rwa [hk] at this
  have ht : i * k + j < d.size * k := by
    have := Nat.mul_le_mul_right k (show i + 1 <= d.size from hil)
    rw [Nat.succ_mul] at this
    omega
  have h1 := (h (i * k + j) (by rw [size_flatK]; exact ht)).1
  rw [get_flatK _ _ _ _ ht, show (i * k + j) / k = i by rw [Nat.add_comm, Nat.add_mul_div_right _ _ (by omega), Nat.div_eq_of_lt hjl, Nat.zero_add], show (i * k + j) % k = j by rw [Nat.add_comm, Nat.add_mul_mod_self_right, Nat.mod_eq_of_lt hjl]] at h1
  have e1 : d[i]! = x := by
    rw [getElem!_pos d i hil]
    have := (List.getElem?_eq_some_iff.1 hi).2
    simpa using this
  have e2 : (enc x)[j]! = u := by
    rw [getElem!_pos (enc x) j (by rw [hk]; exact hjl)]
    exact (List.getElem?_eq_some_iff.1 hj).2
  rw [e1, e2, <- Nat.add_assoc] at h1
  exact h1
theorem holdsK_of {α : Type} [Inhabited α] {enc : α -> List Value} {k : Nat} {w : World} {b : Nat} {l : List α} (hk : ∀ x, (enc x).length = k) (hf : ∀ o, w.frozen? ⟨b, o, none⟩ = false) (h : ∀ (i : Nat) x, l[i]? = some x -> ∀ j u, (enc x)[j]? = some u -> w.cell? ⟨b, 0 + i * k + j, none⟩ = some u) : HoldsK enc k w b 0 l.toArray := by
  intro t ht
  refine ⟨?_, hf _⟩
  rw [size_flatK] at ht
  have ht' : t < l.length * k := by simpa using ht
  have k0 : 0 < k := by rcases Nat.eq_zero_or_pos k with e | e; · subst e; simp at ht'
                        · exact e
  have hi : t / k < l.length := Nat.div_lt_of_lt_mul (by rw [Nat.mul_comm]; exact ht')
  have hj : t % k < k := Nat.mod_lt _ k0
  rw [get_flatK _ _ _ _ ht]
  have e1 : l.toArray[t / k]! = l[t / k] := by rw [getElem!_pos _ _ (by simpa using hi)]; rfl
  rw [e1, getElem!_pos _ _ (by rw [hk]; exact hj)]
  have := h (t / k) l[t / k] (List.getElem?_eq_getElem hi) (t % k) _ (List.getElem?_eq_getElem (by rw [hk]; exact hj))
  rwa [show 0 + t / k * k + t % k = 0 + t by have := Nat.div_add_mod' t k; omega] at this
theorem RepVals.one {w : World} {S : Nat -> Prop} : ∀ {cs : List C} {us : List Value}, cs.all okCell = true -> RepVals w S cs us -> ∀ v ∈ us, v.oneCell' = true
  | [], [], _, _, v, h => by simp at h
  | c :: cs, u :: us, hc, h, v, hv => by
    simp only [List.all_cons, Bool.and_eq_true] at hc
    simp only [RepVals] at h
    rcases List.mem_cons.1 hv with rfl | hv
    · exact okCell_one hc.1 h.1
    · exact RepVals.one hc.2 h.2 v hv
  | [], _ :: _, _, h, _, _ => by simp [RepVals] at h
  | _ :: _, [], _, h, _, _ => by simp [RepVals] at h
theorem sw_block {α : Type} [Inhabited α] {enc : α -> List Value} {k : Nat} {w : World} {b n : Nat} {d : Array α} {os : Array Obj} {cur : Array Value} {ty : Nat} (hh : w.heap[b]? = some (.cells cur ty (0, 0))) : (sortWorldK enc k w b 0 n d os).heap[b]? = some (.cells (putCells id 0 (flatK enc k d) cur) ty (0, 0)) := by
  have hb : b < w.heap.size := (Array.getElem?_eq_some_iff.1 hh).1
  show ((w.heap.modify b (onCells (putCells id 0 (flatK enc k d)))) ++ os)[b]? = _
  rw [Array.getElem?_append_left (by simpa using hb), Array.getElem?_modify, if_pos rfl, hh]
  rfl
theorem sw_other {α : Type} [Inhabited α] {enc : α -> List Value} {k : Nat} {w : World} {b n j : Nat} {d : Array α} {os : Array Obj} (hj : j < w.heap.size) (hne : j ≠ b) : (sortWorldK enc k w b 0 n d os).heap[j]? = w.heap[j]? := by
  show ((w.heap.modify b (onCells (putCells id 0 (flatK enc k d)))) ++ os)[j]? = _
  rw [Array.getElem?_append_left (by simpa using hj), Array.getElem?_modify, if_neg (fun e => hne e.symm)]
theorem sw_size {α : Type} [Inhabited α] {enc : α -> List Value} {k : Nat} {w : World} {b n : Nat} {d : Array α} {os : Array Obj} : w.heap.size <= (sortWorldK enc k w b 0 n d os).heap.size := by
  show _ <= ((w.heap.modify b (onCells (putCells id 0 (flatK enc k d)))) ++ os).size
  simp
set_option maxHeartbeats 2000000 in
theorem conI_sort {P : Program} (hP : e1.P = P) {ρ : Go.Shelf.Ren} (L : SlLaysF0.n6 P ρ) {k ty : Nat} (aE : ∀ w, (isAgg (ρ.t 24)).run P w = .ok true w) (zE : ∀ w, (Go.sizeOf (ρ.t 24)).run P w = .ok k w) (hbody : hasBody P (ρ.f 6) = true) {g : FuncId} (eg : ∀ args w, (callFunc g args).run P w = .ok (.enter g args) w)
    {rows rows' : List (List C)} {cf : List C -> List C -> Int} (hlen : rows.length < 4611686018427387904) (hg : ∀ a ∈ rows, ∀ b ∈ rows, Con e1 g [.agg a, .agg b] [.one (.lit (.int .i64 (cf a b)))])
    (h1 : ∀ a ∈ rows, ¬ cf a a < 0) (h2 : ∀ a ∈ rows, ∀ b ∈ rows, ∀ c ∈ rows, cf a b < 0 -> cf b c < 0 -> cf a c < 0) (h3 : ∀ a ∈ rows, ∀ b ∈ rows, ∀ c ∈ rows, ¬ cf a b < 0 -> ¬ cf b c < 0 -> ¬ cf a c < 0)
    (hu : ∀ l : List (List C), l.Perm rows -> (∀ (i j : Nat) a b, i < j -> l[i]? = some a -> l[j]? = some b -> ¬ cf b a < 0) -> l = rows') : ConI e1 (ρ.f 6) ty k rows [.one (.fn g [])] rows' [] := by
  refine ⟨by rw [hP]; exact hbody, fun w S v0 vs hS hE hvE hG hbuf hargs => ?_⟩
  rw [hP]
  match vs, hargs with
  | [u], hargs =>
    obtain ⟨⟨us, rfl, hus⟩, _⟩ : (∃ us : List Value, u = .func (.func g) #[] us.toArray ∧ RepVals w S [] us) ∧ True := by simpa [DsRel, DRel, Rep] using hargs
    have hus0 : us = [] := by cases us with
      | nil => rfl
      | cons _ _ => simp [RepVals] at hus
    subst hus0
    obtain ⟨h0, hrl, hcase⟩ := hbuf
    by_cases hne : rows = []
    · subst hne
      have hr' : rows' = [] := (hu [] (List.Perm.refl _) (fun i j a b _ h => by simp at h)).symm
      subst hr'
      have hform : ∃ p cap, v0 = .slice p 0 cap := by
        rcases hcase with ⟨_, a, rfl⟩ | ⟨b, cap, cur, rfl, _⟩
        · exact ⟨a, 0, rfl⟩
        · exact ⟨_, cap, rfl⟩
      obtain ⟨p, cap, hv0⟩ := hform
      rw [hv0]
      refine (AnyF.slices_SortFunc_none (P := P) L p cap _ w).mono ?_
      rintro e w' ⟨rfl, rfl⟩
      rw [<- hv0]
      have hs : (fun b => S b ∨ (w'.heap.size <= b ∧ b < w'.heap.size)) = S := by
        funext b
        exact propext ⟨fun h => h.elim id (fun h => absurd h.2 (by omega)), .inl⟩
      refine ⟨_, rfl, Kept.refl .., trivial, ?_, [], rfl, trivial⟩
      rw [hs]
      exact ⟨h0, hrl, hcase⟩
    · rcases hcase with ⟨e, _⟩ | ⟨b, cap, cur, rfl, hc, hbz, hSb, hh, hle, hmx, hcs, hrows⟩
      · exact absurd e hne
      have hkr : ∀ r, r ∈ rows -> r.length = k := fun r hr => (hrl r hr).1
      obtain ⟨l, hl, hcell⟩ := srows_of (k := k) (Q := fun r => r ∈ rows) hkr rows 0 (fun r h => h) hrows
      have hll : l.length = rows.length := by have := congrArg List.length hl; rwa [List.length_map] at this
      obtain ⟨x0, hx0⟩ : ∃ x, x ∈ l := List.exists_mem_of_ne_nil _ (fun e => hne (List.eq_nil_of_length_eq_zero (by rw [<- hll, e]; rfl)))
      letI : Inhabited (SRow w S (fun r => r ∈ rows)) := ⟨x0⟩
      have hk : ∀ x : SRow w S (fun r => r ∈ rows), x.1.2.length = k := fun x => by rw [x.2.2.len]; exact hkr _ x.2.1
      have h1c : ∀ x : SRow w S (fun r => r ∈ rows), ∀ v ∈ x.1.2, v.oneCell' = true := fun x => RepVals.one (hrl _ x.2.1).2 x.2.2
      have hH : HoldsK (fun x : SRow w S (fun r => r ∈ rows) => x.1.2) k w b 0 l.toArray := holdsK_of hk (fun o => frozen_of_row w b o cur ty hh) hcell
      have keepV : ∀ (m : Nat) (os : Array Obj) (dk : Array (SRow w S (fun r => r ∈ rows))) (S2 : Nat -> Prop), (∀ b, S b -> S2 b) -> ∀ x : SRow w S (fun r => r ∈ rows), RepVals (sortWorldK (fun x : SRow w S (fun r => r ∈ rows) => x.1.2) k w b 0 m dk os) S2 x.1.1 x.1.2 := fun m os dk S2 hS2 x =>
        RepVals.keep2 sw_size (fun b' o hb' => cell_of_heap (sw_other (hS b' hb').1 (fun e : b' = b => hSb (by rw [<- e]; exact hb'))) o) hS2 x.2.2
      have hcmp : CmpLays P g #[] (fun x : SRow w S (fun r => r ∈ rows) => x.1.2) k (fun x y => cf x.1.1 y.1.1) b 0 l.toArray.size w := by
        intro m os dk hdk x y
        have hc := (hg _ x.2.1 _ y.2.1).2 (sortWorldK (fun x : SRow w S (fun r => r ∈ rows) => x.1.2) k w b 0 m dk os) S [.agg x.1.2.toArray, .agg y.1.2.toArray] (fun b' hb' => ⟨Nat.lt_of_lt_of_le (hS b' hb').1 sw_size, id⟩) (fun b' h => h.elim) trivial
          ⟨⟨_, rfl, keepV m os dk S (fun _ h => h) x⟩, ⟨_, rfl, keepV m os dk S (fun _ h => h) y⟩, trivial⟩
        rw [hP] at hc
        refine hc.mono ?_
        rintro e w' ⟨v, rfl, hK, _, hv⟩
        have hv : v = .int .i64 (cf x.1.1 y.1.1) := by simpa [retA, ARel, DRel, Rep] using hv
        exact ⟨by rw [hv], kept_grow hK⟩
      have hO : SWO (ltOf (fun x y : SRow w S (fun r => r ∈ rows) => cf x.1.1 y.1.1)) := by
        refine ⟨fun x => ?_, fun x y z => ?_, fun x y z => ?_⟩ <;> simp only [ltOf, decide_eq_false_iff_not, decide_eq_true_eq]
        · exact h1 _ x.2.1
        · exact h2 _ x.2.1 _ y.2.1 _ z.2.1
        · exact h3 _ x.2.1 _ y.2.1 _ z.2.1
      have hsort := AnyQ.slices_SortFunc L k aE zE (fun x : SRow w S (fun r => r ∈ rows) => x.1.2) hk h1c (fun x y => cf x.1.1 y.1.1) hO g #[] b 0 cap l.toArray w eg hcmp hH hbz (by simp only [List.size_toArray]; omega)
      have hlz : l.toArray.size = rows.length := by simpa using hll
      rw [hlz] at hsort
      refine hsort.mono ?_
      rintro e w' ⟨rfl, d', n, os, hp, hs, rfl⟩
      obtain ⟨hp1, _, hp3⟩ := hp
      rw [hlz] at hp1
      have hex : ∀ a : Array (SRow w S (fun r => r ∈ rows)), a.size = rows.length -> a.extract 0 rows.length = a := fun a ha => by rw [<- ha]; simp
      rw [hex d' hp1, hex _ hlz] at hp3
      have hperm : (d'.toList.map (fun x => x.1.1)).Perm rows := by
        have := hp3.map (fun x : SRow w S (fun r => r ∈ rows) => x.1.1)
        rwa [show l.toArray.toList = l from rfl, hl] at this
      have hrows' : d'.toList.map (fun x => x.1.1) = rows' := hu _ hperm fun i j a c hij ha hc => by
        simp only [List.getElem?_map, Option.map_eq_some_iff] at ha hc
        obtain ⟨x, hx, rfl⟩ := ha
        obtain ⟨y, hy, rfl⟩ := hc
        have hjl : j < rows.length := by have := (List.getElem?_eq_some_iff.1 hy).1; simpa [hp1] using this
        have := hs i j (Nat.zero_le _) hij hjl
        have ex : d'[i]! = x := by
          rw [getElem!_pos d' i (by omega)]
          have := (List.getElem?_eq_some_iff.1 hx).2
          simpa using this
        have ey : d'[j]! = y := by
          rw [getElem!_pos d' j (by omega)]
          have := (List.getElem?_eq_some_iff.1 hy).2
          simpa using this
        rw [ex, ey] at this
        simpa [ltOf] using this
      have hlr : rows'.length = rows.length := by rw [<- hrows', List.length_map, Array.length_toList, hp1]
      have hW : HoldsK (fun x : SRow w S (fun r => r ∈ rows) => x.1.2) k (sortWorldK (fun x : SRow w S (fun r => r ∈ rows) => x.1.2) k w b 0 n d' os) b 0 d' := SWK.holds (d0 := l.toArray) ⟨n, os, rfl⟩ hbz hH (by rw [hp1, hlz])
      have hvb : vblk (.slice (some ⟨b, 0, none⟩) rows.length cap) = some b := by simp only [vblk]; rw [if_neg (by omega)]
      refine ⟨_, rfl, ⟨rfl, rfl, rfl, fun _ => Nat.le_add_right _ _, sw_size, fun j hj hn => sw_other hj (fun e => hn (.inr (by rw [hvb, e])))⟩, trivial, ⟨h0, fun r hr => ?_, .inr ⟨b, cap, _, by rw [hlr], hc, Nat.lt_of_lt_of_le hbz sw_size, fun hn => ?_, sw_block hh, by omega, hmx, by simp [putCells, hcs], ?_⟩⟩, [], rfl, trivial⟩
      · rw [<- hrows'] at hr
        exact hrl r (hperm.mem_iff.1 hr)
      · rcases hn with hn | hn
        · exact hSb hn
        · omega
      · rw [<- hrows']
        exact reprows_of (Q := fun r => r ∈ rows) hkr (keepV n os d' _ (fun b hb => .inl hb)) d'.toList 0 fun i x hi j u hj => cells_holdsK hk hW hi hj
end Go.Proofs.YtkekkmpogmlopaaGreat
namespace Go.Proofs.YtkekkmpogmlopaaGreat
open Go.Shelf
def sortT_ren : Ren := ⟨fun | 6 => 204 | 15 => 213 | 14 => 212 | 28 => 225 | 29 => 226 | 20 => 210 | 21 => 218 | 22 => 219 | 23 => 220 | 24 => 221 | 25 => 222 | 26 => 223 | 27 => 224 | 46 => 228 | 47 => 229 | 48 => 230 | 49 => 231 | 50 => 232 | 57 => 233 | n => n, fun | 22 => 49 | 24 => 51 | 25 => 201 | 3 => 3 | 39 => 248 | 0 => 0 | 53 => 267 | 55 => 269 | 4 => 4 | 46 => 260 | 45 => 259 | 50 => 264 | 5 => 5 | 9 => 9 | 66 => 270 | 70 => 274 | 76 => 276 | 77 => 277 | n => n, fun | n => n⟩
theorem sortT : Go.Proofs.SlLaysF0.n6 Tryz.prog sortT_ren := {
  mixed := by kernel_rfl,
  f6 := ⟨Tryz.f204.name, by decide, Tryz.func204.trans (congrArg some (by kernel_rfl))⟩,
  f14 := ⟨Tryz.f212.name, by decide, Tryz.func212.trans (congrArg some (by kernel_rfl))⟩,
  f15 := Tryz.func213.trans (congrArg some (by kernel_rfl)),
  f20 := ⟨Tryz.f210.name, by decide, Tryz.func210.trans (congrArg some (by kernel_rfl))⟩,
  f21 := ⟨Tryz.f218.name, by decide, Tryz.func218.trans (congrArg some (by kernel_rfl))⟩,
  f22 := ⟨Tryz.f219.name, by decide, Tryz.func219.trans (congrArg some (by kernel_rfl))⟩,
  f23 := ⟨Tryz.f220.name, by decide, Tryz.func220.trans (congrArg some (by kernel_rfl))⟩,
  f24 := ⟨Tryz.f221.name, by decide, Tryz.func221.trans (congrArg some (by kernel_rfl))⟩,
  f25 := ⟨Tryz.f222.name, by decide, Tryz.func222.trans (congrArg some (by kernel_rfl))⟩,
  f26 := ⟨Tryz.f223.name, by decide, Tryz.func223.trans (congrArg some (by kernel_rfl))⟩,
  f27 := ⟨Tryz.f224.name, by decide, Tryz.func224.trans (congrArg some (by kernel_rfl))⟩,
  f28 := Tryz.func225.trans (congrArg some (by kernel_rfl)),
  f29 := Tryz.func226.trans (congrArg some (by kernel_rfl)),
  f46 := ⟨Tryz.f228.name, by decide, Tryz.func228.trans (congrArg some (by kernel_rfl))⟩,
  f47 := Tryz.func229.trans (congrArg some (by kernel_rfl)),
  f48 := Tryz.func230.trans (congrArg some (by kernel_rfl)),
  f49 := ⟨Tryz.f231.name, by decide, Tryz.func231.trans (congrArg some (by kernel_rfl))⟩,
  f50 := ⟨Tryz.f232.name, by decide, Tryz.func232.trans (congrArg some (by kernel_rfl))⟩,
  f57 := ⟨Tryz.f233.name, by decide, Tryz.func233.trans (congrArg some (by kernel_rfl))⟩,
  t0 := Tryz.underlying0,
  a0 := Tryz.isAgg0,
  z0 := Tryz.sizeOf0,
  v0 := Tryz.zeroValue0,
  t3 := Tryz.underlying3,
  a3 := Tryz.isAgg3,
  z3 := Tryz.sizeOf3,
  v3 := Tryz.zeroValue3,
  t4 := Tryz.underlying4,
  a4 := Tryz.isAgg4,
  z4 := Tryz.sizeOf4,
  v4 := Tryz.zeroValue4,
  t5 := Tryz.underlying5,
  a5 := Tryz.isAgg5,
  z5 := Tryz.sizeOf5,
  v5 := Tryz.zeroValue5,
  t9 := Tryz.underlying9,
  a9 := Tryz.isAgg9,
  z9 := Tryz.sizeOf9,
  v9 := Tryz.zeroValue9,
  t22 := Tryz.underlying49,
  a22 := Tryz.isAgg49,
  z22 := Tryz.sizeOf49,
  v22 := Tryz.zeroValue49,
  t25 := Tryz.underlying201,
  a25 := Tryz.isAgg201,
  z25 := Tryz.sizeOf201,
  v25 := Tryz.zeroValue201,
  t39 := Tryz.underlying248,
  a39 := Tryz.isAgg248,
  z39 := Tryz.sizeOf248,
  v39 := Tryz.zeroValue248,
  t45 := Tryz.underlying259,
  a45 := Tryz.isAgg259,
  z45 := Tryz.sizeOf259,
  v45 := Tryz.zeroValue259,
  t46 := Tryz.underlying260,
  a46 := Tryz.isAgg260,
  z46 := Tryz.sizeOf260,
  v46 := Tryz.zeroValue260,
  t50 := Tryz.underlying264,
  a50 := Tryz.isAgg264,
  z50 := Tryz.sizeOf264,
  v50 := Tryz.zeroValue264,
  t53 := Tryz.underlying267,
  a53 := Tryz.isAgg267,
  z53 := Tryz.sizeOf267,
  v53 := Tryz.zeroValue267,
  t55 := Tryz.underlying269,
  a55 := Tryz.isAgg269,
  z55 := Tryz.sizeOf269,
  v55 := Tryz.zeroValue269,
  t66 := Tryz.underlying270,
  a66 := Tryz.isAgg270,
  z66 := Tryz.sizeOf270,
  v66 := Tryz.zeroValue270,
  t70 := Tryz.underlying274,
  a70 := Tryz.isAgg274,
  z70 := Tryz.sizeOf274,
  v70 := Tryz.zeroValue274,
  t76 := Tryz.underlying276,
  a76 := Tryz.isAgg276,
  z76 := Tryz.sizeOf276,
  v76 := Tryz.zeroValue276,
  t77 := Tryz.underlying277,
  a77 := Tryz.isAgg277,
  z77 := Tryz.sizeOf277,
  v77 := Tryz.zeroValue277 }
end Go.Proofs.YtkekkmpogmlopaaGreat
namespace Go.Proofs.YtkekkmpogmlopaaGreat
open Go.RowKit
def zTm0 : Tm := .mk 0 ByteArray.empty 0 []
def ddT : Option Tm -> List Tm -> List Tm
  | _, [] => []
  | none, x :: xs => x :: ddT (some x) xs
  | some y, x :: xs => if cmpTm x y = 0 then ddT (some x) xs else x :: ddT (some x) xs
def lastO : Option Tm -> List Tm -> Option Tm
  | p, [] => p
  | _, x :: xs => lastO (some x) xs
theorem ddT_snoc : ∀ (p : Option Tm) (l : List Tm) (x : Tm), ddT p (l ++ [x]) = match lastO p l with
    | none => ddT p l ++ [x]
    | some y => if cmpTm x y = 0 then ddT p l else ddT p l ++ [x]
  | none, [], x => rfl
  | some y, [], x => by simp only [List.nil_append, ddT, lastO]
  | none, a :: l, x => by
    simp only [List.cons_append, ddT, lastO, ddT_snoc (some a) l x]
    split
    · rfl
    · split <;> rfl
  | some y, a :: l, x => by
    simp only [List.cons_append, ddT, lastO, ddT_snoc (some a) l x]
    split
    · rfl
    · split
      · rfl
      · split <;> rfl
theorem lastO_take : ∀ (p : Option Tm) (l : List Tm) (i : Nat) (y : Tm), l[i]? = some y -> lastO p (l.take (i + 1)) = some y
  | p, [], i, y, h => by simp at h
  | p, x :: xs, 0, y, h => by simp at h; subst h; simp [lastO]
  | p, x :: xs, i + 1, y, h => by
    simp only [List.take_succ_cons, lastO]
    exact lastO_take (some x) xs i y (by simpa using h)
theorem ddT_step {l : List Tm} {i : Nat} {x y : Tm} (hx : l[i + 1]? = some x) (hy : l[i]? = some y) : ddT none (l.take (i + 2)) = if cmpTm x y = 0 then ddT none (l.take (i + 1)) else ddT none (l.take (i + 1)) ++ [x] := by
  have e : l.take (i + 2) = l.take (i + 1) ++ [x] := by simp [List.take_add_one, hx]
  rw [e, ddT_snoc, lastO_take none l i y hy]
theorem ddT_one {l : List Tm} {x : Tm} (hx : l[0]? = some x) : ddT none (l.take 1) = [x] := by
  cases l with
  | nil => simp at hx
  | cons a l => simp at hx; subst hx; simp [ddT]
def Up (l : List Tm) : Prop := l.Pairwise fun a b => cmpTm a b <= 0
theorem ddT_up : ∀ (l : List Tm) (y : Tm), Up l -> (∀ x ∈ l, cmpTm y x <= 0) -> Asc (ddT (some y) l) ∧ (∀ z ∈ ddT (some y) l, cmpTm y z < 0) ∧ ∀ z, (z = y ∨ z ∈ ddT (some y) l) ↔ (z = y ∨ z ∈ l)
  | [], y, _, _ => ⟨List.Pairwise.nil, fun z h => by simp [ddT] at h, fun z => by simp [ddT]⟩
  | x :: xs, y, hu, hy => by
    have h1 := List.pairwise_cons.1 hu
    have hyx := hy x List.mem_cons_self
    obtain ⟨k1, k2, k3⟩ := ddT_up xs x h1.2 h1.1
    simp only [ddT]
    by_cases h0 : cmpTm x y = 0
    · rw [if_pos h0]
      have e := cmpTm_zero h0
      subst e
      exact ⟨k1, k2, fun z => by rw [k3 z]; simp⟩
    · rw [if_neg h0]
      have hlt : cmpTm y x < 0 := by rw [cmpTm_neg x y] at hyx ⊢; omega
      refine ⟨List.pairwise_cons.2 ⟨k2, k1⟩, fun z hz => ?_, fun z => ?_⟩
      · rcases List.mem_cons.1 hz with rfl | hz
        · exact hlt
        · exact cmpTm_lt_trans hlt (k2 z hz)
      · have := k3 z
        simp only [List.mem_cons]
        rw [this]
theorem ddT_dist {l : List Tm} (h : Up l) : ddT none l = distTm l := by
  cases l with
  | nil => rfl
  | cons x xs =>
    have h1 := List.pairwise_cons.1 h
    obtain ⟨k1, k2, k3⟩ := ddT_up xs x h1.2 h1.1
    simp only [ddT]
    refine (distTm_eq (List.pairwise_cons.2 ⟨k2, k1⟩) fun t => ?_).symm
    simp only [List.mem_cons]
    exact k3 t
def sortTm (l : List Tm) : List Tm := l.mergeSort fun a b => decide (cmpTm a b <= 0)
theorem sortTm_perm (l : List Tm) : (sortTm l).Perm l := List.mergeSort_perm l _
theorem sortTm_up (l : List Tm) : Up (sortTm l) := by
  have h := List.pairwise_mergeSort (le := fun a b => decide (cmpTm a b <= 0)) (fun a b c h1 h2 => by simp only [decide_eq_true_eq] at *; exact cmpTm_le_trans h1 h2) (fun a b => by
    simp only [Bool.or_eq_true, decide_eq_true_eq]
    have := cmpTm_neg a b
    omega) l
  exact h.imp fun h => by simpa using h
theorem up_perm : ∀ {l l' : List Tm}, Up l -> Up l' -> l.Perm l' -> l = l'
  | [], l', _, _, h => by have := h.length_eq; cases l' with | nil => rfl | cons _ _ => simp at this
  | x :: xs, [], _, _, h => by have := h.length_eq; simp at this
  | x :: xs, y :: ys, h1, h2, h => by
    have p1 := List.pairwise_cons.1 h1
    have p2 := List.pairwise_cons.1 h2
    have hx : x ∈ y :: ys := h.mem_iff.1 List.mem_cons_self
    have hy : y ∈ x :: xs := h.mem_iff.2 List.mem_cons_self
    have e : x = y := by
      rcases List.mem_cons.1 hx with e | hx
      · exact e
      · rcases List.mem_cons.1 hy with e | hy
        · exact e.symm
        · have a1 := p2.1 x hx
          have a2 := p1.1 y hy
          refine cmpTm_zero ?_
          rw [cmpTm_neg x y] at a1
          omega
    subst e
    rw [up_perm p1.2 p2.2 h.cons_inv]
theorem distTm_perm {l l' : List Tm} (h : l.Perm l') : distTm l = distTm l' := (distTm_asc l).ext (distTm_asc l') fun t => by rw [mem_distTm, mem_distTm, h.mem_iff]
mutual
theorem encTm_inj : ∀ {a b : Tm}, encTm a = encTm b -> a = b
  | .mk o n s a, .mk o' n' s' a', h => by
    simp only [encTm, List.cons.injEq, C.lit.injEq, C.sl.injEq, Value.int.injEq, Value.string.injEq, true_and, and_true] at h
    obtain ⟨rfl, rfl, rfl, h⟩ := h
    rw [encTms_inj h]
theorem encTms_inj : ∀ {a b : List Tm}, encTms a = encTms b -> a = b
  | [], [], _ => rfl
  | [], _ :: _, h => by simp [encTms] at h
  | _ :: _, [], h => by simp [encTms] at h
  | x :: xs, y :: ys, h => by
    simp only [encTms, List.cons.injEq] at h
    rw [encTm_inj h.1, encTms_inj h.2]
end
open Classical in
noncomputable def unT (r : List C) : Tm := if h : ∃ t, r = encTm t then h.choose else zTm0
theorem unT_enc (t : Tm) : unT (encTm t) = t := by
  have h : ∃ t', encTm t = encTm t' := ⟨t, rfl⟩
  unfold unT
  rw [dif_pos h]
  exact (encTm_inj h.choose_spec).symm
theorem map_unT (l : List Tm) : (encTms l).map unT = l := by
  rw [encTms_eq, List.map_map]
  conv => rhs; rw [<- List.map_id l]
  exact List.map_congr_left fun t _ => unT_enc t
theorem conI_10 {f : FuncId} {ty sz : Nat} {rows rows' : List (List C)} {args r : List D} (h : ConI e1 f ty sz rows args rows' r) : ConI e0 f ty sz rows args rows' r :=
  ⟨h.1, fun w S v0 vs h1 h2 h3 h4 h5 h6 => (h.2 w S v0 vs h1 h2 h3 h4 h5 h6).mono fun en w' ⟨v, k1, k2, k3⟩ => ⟨v, k1, ⟨k2.os, k2.tape, k2.output, fun d => d.elim, k2.size, k2.block⟩, k3⟩⟩
theorem conI_sortT (ts : List Tm) (hl : ts.length <= 4000000) : ConI e0 204 51 4 (encTms ts) [.one (.fn 152 [])] (encTms (sortTm ts)) [] := by
  have hrow : ∀ a ∈ encTms ts, a = encTm (unT a) := fun a ha => by
    rw [encTms_eq] at ha
    obtain ⟨t, _, rfl⟩ := List.mem_map.1 ha
    rw [unT_enc]
  exact conI_10 (conI_sort (P := Tryz.prog) rfl sortT (k := 4) (ty := 51) Tryz.isAgg51 Tryz.sizeOf51 (by kernel_rfl) (g := 152) (enters_of Tryz.func152 (by kernel_rfl) rfl) (rows := encTms ts) (rows' := encTms (sortTm ts)) (cf := fun a b => cmpTm (unT a) (unT b)) (by rw [encTms_len]; omega)
    (fun a ha b hb => by
      have h := con_cmp1 (unT a) (unT b)
      rwa [<- hrow a ha, <- hrow b hb] at h)
    (fun a _ => by rw [cmpTm_self]; omega) (fun a _ b _ c _ h1 h2 => cmpTm_lt_trans h1 h2) (fun a _ b _ c _ h1 h2 => by
      rw [cmpTm_neg (unT b) (unT a)] at h1
      rw [cmpTm_neg (unT c) (unT b)] at h2
      rw [cmpTm_neg (unT c) (unT a)]
      have := cmpTm_le_trans (a := unT c) (b := unT b) (c := unT a) (by omega) (by omega)
      omega)
    (fun l hp hs => by
      have hmem : ∀ a ∈ l, a = encTm (unT a) := fun a ha => hrow a (hp.mem_iff.1 ha)
      have hp2 : (l.map unT).Perm ts := by have := hp.map unT; rwa [map_unT] at this
      have hup : Up (l.map unT) := by
        refine List.pairwise_iff_getElem.2 fun i j hi hj hij => ?_
        simp only [List.getElem_map]
        simp only [List.length_map] at hi hj
        have := hs i j l[i] l[j] hij (List.getElem?_eq_getElem hi) (List.getElem?_eq_getElem hj)
        rw [cmpTm_neg (unT l[j]) (unT l[i])]
        omega
      have e := up_perm (sortTm_up ts) hup ((sortTm_perm ts).trans hp2.symm)
      rw [e, encTms_eq, List.map_map]
      conv => lhs; rw [<- List.map_id l]
      exact List.map_congr_left fun a ha => hmem a ha))
theorem con_implSame (a b : Tm) : Con e0 168 [.agg (encTm a), .agg (encTm b)] [.one (.lit (.bool (decide (cmpTm a b = 0))))] := by
  refine gI (ts := [.slot 4]) 31 Tryz.func168 ?_
  (have F := @tmz; refine gG ?_; clear F)
  refine gB ?_
  (have F := @tmz; refine gC (con_1 (con_cmp1 a b)) ?_; clear F)
  (have F := @tmz; refine gR ?_; clear F)
  (have F := @tmz; refine gG ?_; exact gTd)
end Go.Proofs.YtkekkmpogmlopaaGreat
namespace Go.Proofs.YtkekkmpogmlopaaGreat
open Go.RowKit
def RCut (a : Option Addr) (cap ty sz : Nat) (rows : List (List C)) (r : List D) (pm : List Bk) : Prop := r = [.one (.lit (.slice a rows.length cap))] ∧ pm = [.buf (some (a, cap)) ty sz rows]
theorem sliced_zero (a : Option Addr) (k cap sz : Nat) : sliced a 0 k cap sz = .slice a k cap := by
  cases a with
  | none => simp [sliced]
  | some p =>
    have : p.add 0 = p := by cases p; simp [Addr.add]
    simp [sliced, this]
theorem lenNrm {m : List (Nat × Bk)} {a : Option Addr} {n cap : Nat} : lenA m (some true) [nrm m (.d (.one (.lit (.slice a n cap))))] = some (.d (.one (.lit (.int .i64 (n : Int))))) := by
  show lenA m (some true) [nrmBK m a n cap (bufK a n cap m)] = _
  cases bufK a n cap m with
  | none => rfl
  | some k =>
    show lenA m (some true) [nrmB a n cap k (gm m k)] = _
    cases hg : gm m k with
    | none => rfl
    | some bk =>
      cases bk with
      | var o cs => rfl
      | set E G => rfl
      | buf o ty sz rows =>
        cases o with
        | none => rfl
        | some q =>
          obtain ⟨a', cap'⟩ := q
          simp only [nrmB]
          split
          · rename_i h
            show lenS (bufA (gm m k)) = _
            rw [hg, h.2.1]
            rfl
          · rfl
theorem lenSub {m : List (Nat × Bk)} {a : Option Addr} {l h cap sz : Nat} : lenA m (some true) [nrm m (.d (.one (.lit (sliced a l h cap sz))))] = some (.d (.one (.lit (.int .i64 ((h - l : Nat) : Int))))) := lenNrm
theorem encTms_set (l : List Tm) (k : Nat) (t : Tm) : (encTms l).set k (encTm t) = encTms (l.set k t) := by rw [encTms_eq, encTms_eq, List.map_set]
theorem encTms_take (l : List Tm) (k : Nat) : (encTms l).take k = encTms (l.take k) := by rw [encTms_eq, encTms_eq, List.map_take]
theorem set_take' {α : Type} {l : List α} {i : Nat} {x : α} (h : i < l.length) : (l.set i x).take (i + 1) = l.take i ++ [x] := by
  rw [List.take_add_one, List.take_set_of_le (Nat.le_refl _)]
  simp [h]
theorem drop_at {l l' : List Tm} {m : Nat} (h : l.drop m = l'.drop m) (i : Nat) : l[m + i]? = l'[m + i]? := by
  rw [<- List.getElem?_drop, <- List.getElem?_drop, h]
theorem dd_short {ts : List Tm} (h : ts.length < 2) : ddT none ts = ts := by
  match ts, h with
  | [], _ => rfl
  | [x], _ => rfl
set_option maxHeartbeats 8000000 in
set_option maxRecDepth 100000 in
theorem conP_compact (ts : List Tm) (hl : ts.length <= 4000000) (a : Option Addr) (cap : Nat) : ConP e0 205 [.one (.lit (.slice a ts.length cap)), .one (.fn 168 [])] [.buf (some (a, cap)) 51 4 (encTms ts)] (RCut a cap 51 4 (encTms (ddT none ts))) := by
  refine gIP (ts := [.slot 4]) [1000] 562984581629171 Tryz.func205 ?_
  by_cases h2 : ts.length < 2
  · have q1 : ((ts.length : Int) < 2) = True := eq_true (by omega)
    (have F := ai @q1 @tmz; refine gG ?_; clear F)
    rw [dd_short h2]
    exact (have F := encTms_len; gTP (R := RCut a cap 51 4 (encTms ts)) [1000] ⟨by rw [encTms_len], rfl⟩)
  have q1 : ((ts.length : Int) < 2) = False := eq_false (by omega)
  (have F := ai @q1 @tmz; refine gG ?_; clear F)
  clear q1
  obtain ⟨t0, ht0⟩ : ∃ t, ts[0]? = some t := ⟨_, List.getElem?_eq_getElem (by omega)⟩
  (have F := @tmz; refine gL (ι := Nat) [4, 5, 6, 7, 15, 28, 35, 49] [] (fun x => [(5, .d (.one (.lit (.int .i64 (x : Int)))))]) (fun x => []) (fun x => 1 <= x ∧ x <= ts.length ∧ ddT none (ts.take x) = ts.take x) (fun x => ts.length - x) (1) (⟨Nat.le_refl _, by omega, by rw [ddT_one ht0]; cases ts with | nil => simp at ht0 | cons y ys => simp at ht0; simp [ht0]⟩) (fun x hx => ?_); clear F)
  obtain ⟨hx1, hxn, hxd⟩ := hx
  by_cases hlt : x < ts.length
  rotate_left
  · obtain rfl : x = ts.length := by omega
    have q1 : ((ts.length : Int) < (ts.length : Int)) = False := eq_false (by omega)
    rw [List.take_length] at hxd
    (have F := ai @q1 @tmz; refine gG ?_; clear F)
    rw [hxd]
    exact (have F := encTms_len; gTP (R := RCut a cap 51 4 (encTms ts)) [1000] ⟨by rw [encTms_len], rfl⟩)
  obtain ⟨u, hu⟩ : ∃ t, ts[x]? = some t := ⟨_, List.getElem?_eq_getElem hlt⟩
  obtain ⟨z, rfl⟩ : ∃ z, x = z + 1 := ⟨x - 1, by omega⟩
  obtain ⟨v, hv⟩ : ∃ t, ts[z]? = some t := ⟨_, List.getElem?_eq_getElem (by omega)⟩
  have q1 : (((z + 1 : Nat) : Int) < (ts.length : Int)) = True := eq_true (by omega)
  have w1 : IntKind.i64.wrap (((z + 1 : Nat) : Int) - 1) = (z : Int) := wrapN (by omega) (by omega) (by omega)
  have w2 : IntKind.i64.wrap (((z + 1 : Nat) : Int) + 1) = ((z + 1 + 1 : Nat) : Int) := wrapN (by omega) (by omega) (by omega)
  have hz1 : z + 1 < ts.length := hlt
  have hz0 : z < ts.length := by omega
  have hst := ddT_step hu hv
  generalize hxx : z + 1 = x at *
  rw [show z + 2 = x + 1 by omega] at hst
  (have F := ai @q1 @tmz; refine gG ?_; clear F)
  refine gB ?_
  (have F := ai @q1 (ai @tmz (ai @hu (ai @hv (ai @w1 (ai @hz1 (ai @hz0 @encTms_len)))))); refine gC (con_implSame u v) ?_; clear F)
  (have F := ai @q1 @tmz; refine gR ?_; clear F)
  by_cases h0 : cmpTm u v = 0
  rotate_left
  · have q3 : decide (cmpTm u v = 0) = false := decide_eq_false h0
    rw [if_neg h0, hxd] at hst
    (have F := ai @q3 @w2; refine gG ?_; exact ⟨x + 1, ⟨by omega, hlt, by rw [hst]; simp [List.take_add_one, hu]⟩, gw, gw, by omega⟩)
  have q3 : decide (cmpTm u v = 0) = true := decide_eq_true h0
  rw [if_pos h0, hxd] at hst
  (have F := ai @q3 @tmz; have NN : StopAt 7 := trivial; refine gGn ?_; clear F NN)
  refine gB ?_
  (have F := ai @q3 @tmz; refine gP 2 ?_; clear F)
  have F := encTms_len
  refine gSub 1000 x ts.length ⟨by omega, by rw [encTms_len]; exact Nat.le_refl _⟩ ?_
  clear F
  (have F := @tmz; refine gR ?_; clear F)
  (have F := @tmz; refine gG ?_; clear F)
  (have F := @tmz; refine gL (ι := Nat × Nat × List Tm) [5, 7, 35, 49] [1000] (fun y => [(7, .d (.one (.lit (.int .i64 (y.1 : Int))))), (5, .d (.one (.lit (.int .i64 (y.2.1 : Int)))))]) (fun y => [(1000, .buf (some (a, cap)) 51 4 (encTms y.2.2))]) (fun y => 1 <= y.1 ∧ x + y.1 <= ts.length ∧ y.2.1 + 1 <= x + y.1 ∧ y.2.2.length = ts.length ∧ y.2.2.take y.2.1 = ddT none (ts.take (x + y.1)) ∧ y.2.2.drop (x + y.1 - 1) = ts.drop (x + y.1 - 1)) (fun y => ts.length - y.1) ((1, x, ts)) (⟨Nat.le_refl _, hlt, Nat.le_refl _, rfl, hst.symm, rfl⟩) (fun y hy => ?_); clear F)
  obtain ⟨j, k, us⟩ := y
  obtain ⟨h1, h2', h3, h4, h5, h6⟩ := hy
  simp only at h1 h2' h3 h4 h5 h6
  dsimp only
  have hn4 : ts.length = us.length := h4.symm
  by_cases hj : j < ts.length - x
  · obtain ⟨i, rfl⟩ : ∃ i, j = i + 1 := ⟨j - 1, by omega⟩
    obtain ⟨u1, hu1⟩ : ∃ t, ts[x + i + 1]? = some t := ⟨_, List.getElem?_eq_getElem (by omega)⟩
    obtain ⟨v1, hv1⟩ : ∃ t, ts[x + i]? = some t := ⟨_, List.getElem?_eq_getElem (by omega)⟩
    have e1 : us[x + (i + 1)]? = some u1 := by
      rw [<- hu1, show x + (i + 1) - 1 = x + i by omega] at *
      exact drop_at h6 1
    have e2 : us[x + i]? = some v1 := by
      rw [<- hv1, show x + (i + 1) - 1 = x + i by omega] at *
      exact drop_at h6 0
    have q4 : (((i + 1 : Nat) : Int) < ((ts.length - x : Nat) : Int)) = True := eq_true (by omega)
    have w3 : IntKind.i64.wrap (((i + 1 : Nat) : Int) - 1) = (i : Int) := wrapN (by omega) (by omega) (by omega)
    have w4 : IntKind.i64.wrap (((i + 1 : Nat) : Int) + 1) = ((i + 1 + 1 : Nat) : Int) := wrapN (by omega) (by omega) (by omega)
    have hst2 := ddT_step hu1 hv1
    rw [show x + i + 2 = x + (i + 1 + 1) by omega, show x + i + 1 = x + (i + 1) by omega, <- h5] at hst2
    (have F := ai @q4 (ai @lenSub @tmz); have NN : StopAt 11 := trivial; refine gGn ?_; clear F NN)
    refine gB ?_
    (have F := ai @q4 @tmz; refine gP 3 ?_; clear F)
    have F := encTms_len
    refine gSubAq (l := x) (h := ts.length) (rows := encTms us) 1000 (i + 1) ⟨by omega, by rw [encTms_len]; omega⟩ ?_
    clear F
    (have F := ai @tmz (ai @e1 @w3); refine gP 4 ?_; clear F)
    have F := encTms_len
    refine gSubAq (l := x) (h := ts.length) (rows := encTms us) 1000 i ⟨by omega, by rw [encTms_len]; omega⟩ ?_
    clear F
    (have F := ai @tmz @e2; refine gC (con_implSame u1 v1) ?_; clear F)
    (have F := @tmz; refine gR ?_; clear F)
    by_cases h7 : cmpTm u1 v1 = 0
    · have q5 : decide (cmpTm u1 v1 = 0) = true := decide_eq_true h7
      rw [if_pos h7] at hst2
      (have F := ai @q5 @w4; refine gG ?_; exact ⟨(i + 1 + 1, k, us), ⟨by dsimp only; omega, by dsimp only; omega, by dsimp only; omega, h4, hst2.symm, by rw [show x + (i + 1 + 1) - 1 = x + (i + 1) - 1 + 1 by omega, <- List.drop_drop, <- List.drop_drop, h6]⟩, gw, gw, by omega⟩)
    · have q5 : decide (cmpTm u1 v1 = 0) = false := decide_eq_false h7
      rw [if_neg h7] at hst2
      obtain ⟨ok, hok⟩ : ∃ t, us[k]? = some t := ⟨_, List.getElem?_eq_getElem (by omega)⟩
      have w5 : IntKind.i64.wrap ((k : Int) + 1) = ((k + 1 : Nat) : Int) := wrapN (by omega) (by omega) (by omega)
      have hkl : k < us.length := by omega
      (have F := ai @q5 @tmz; have NN : StopAt 12 := trivial; refine gGn ?_; clear F NN)
      refine gB ?_
      (have F := ai @q5 @tmz; refine gP 4 ?_; clear F)
      have F := encTms_len
      refine gSubA (l := x) (h := ts.length) (rows := encTms us) 1000 (i + 1) ⟨by omega, by rw [encTms_len]; omega⟩ ?_
      clear F
      (have F := ai @tmz (ai @e1 (ai @hok (ai @hn4 (ai @hkl @encTms_set)))); refine gR ?_; clear F)
      (have F := ai @w4 (ai @w5 @hn4); refine gG ?_; exact ⟨(i + 1 + 1, k + 1, us.set k u1), ⟨by dsimp only; omega, by dsimp only; omega, by dsimp only; omega, by rw [List.length_set]; exact h4, by rw [hst2, set_take' hkl], by rw [List.drop_set_of_lt (by omega), show x + (i + 1 + 1) - 1 = x + (i + 1) - 1 + 1 by omega, <- List.drop_drop, <- List.drop_drop, h6]⟩, gw, gw, by omega⟩)
  · have q4 : ((j : Int) < ((ts.length - x : Nat) : Int)) = False := eq_false (by omega)
    have hjn : x + j = ts.length := by omega
    rw [hjn, List.take_length] at h5
    have hkl : k < us.length := by omega
    (have F := ai @q4 (ai @lenSub @tmz); have NN : StopAt 14 := trivial; refine gGn ?_; clear F NN)
    refine gB ?_
    (have F := ai @q4 @tmz; refine gP 2 ?_; clear F)
    have F := ai encTms_len hn4
    refine gSub 1000 k us.length ⟨by omega, by rw [encTms_len]; exact Nat.le_refl _⟩ ?_
    rw [show us.length = (encTms us).length by rw [encTms_len]]
    refine gClear 1000 (by rw [encTms_len]; exact hkl) ?_
    clear F
    have hRl : ((encTms us).take k ++ List.replicate ((encTms us).length - k) [C.lit (Value.int IntKind.i64 0), C.lit (Value.string ByteArray.empty), C.lit (Value.int IntKind.i64 0), C.sl []]).length = us.length := by simp [encTms_len]; omega
    have hRt : ((encTms us).take k ++ List.replicate ((encTms us).length - k) [C.lit (Value.int IntKind.i64 0), C.lit (Value.string ByteArray.empty), C.lit (Value.int IntKind.i64 0), C.sl []]).take k = encTms (ddT none ts) := by
      rw [List.take_append_of_le_length (by simp [encTms_len]; omega), List.take_take, Nat.min_self, encTms_take, h5]
    generalize (encTms us).take k ++ List.replicate ((encTms us).length - k) [C.lit (Value.int IntKind.i64 0), C.lit (Value.string ByteArray.empty), C.lit (Value.int IntKind.i64 0), C.sl []] = R at hRl hRt ⊢
    (have F := @tmz; refine gR ?_; clear F)
    (have F := ai @q4 @tmz; have NN : StopAt 15 := trivial; refine gGn ?_; clear F NN)
    refine gB ?_
    (have F := ai @q4 @tmz; refine gP 2 ?_; clear F)
    have F := ai hRl hn4
    refine gSub 1000 0 k ⟨by omega, by rw [hRl]; omega⟩ ?_
    clear F
    rw [sliced_zero]
    (have F := @tmz; refine gR ?_; clear F)
    (have F := @tmz; refine gG ?_; clear F)
    refine pE [1000] [1000] (re_cut k (by rw [hRl]; omega)) ?_
    rw [hRt]
    have hk2 : k = (encTms (ddT none ts)).length := by rw [encTms_len, <- h5, List.length_take]; omega
    exact (have F := encTms_len; gTP (R := RCut a cap 51 4 (encTms (ddT none ts))) [1000] ⟨by rw [<- hk2], rfl⟩)
end Go.Proofs.YtkekkmpogmlopaaGreat
namespace Go.Proofs.YtkekkmpogmlopaaGreat
open Go.RowKit
theorem sortTm_len (ts : List Tm) : (sortTm ts).length = ts.length := (sortTm_perm ts).length_eq
theorem dd_sort (ts : List Tm) : ddT none (sortTm ts) = distTm ts := by rw [ddT_dist (sortTm_up ts), distTm_perm (sortTm_perm ts)]
set_option maxHeartbeats 4000000 in
theorem conP_distinct (ts : List Tm) (hl : ts.length <= 4000000) (a : Option Addr) (cap : Nat) : ConP e0 187 [.one (.lit (.slice a ts.length cap))] [.buf (some (a, cap)) 51 4 (encTms ts)] (RCut a cap 51 4 (encTms (distTm ts))) := by
  have hc := conP_compact (sortTm ts) (by rw [sortTm_len]; exact hl) a cap
  rw [sortTm_len, dd_sort] at hc
  refine gIP (ts := [.slot 2]) [1000] 5 Tryz.func187 ?_
  (have F := @tmz; refine gG ?_; clear F)
  refine gB ?_
  (have F := @tmz; refine gCI (conI_sortT ts hl) (by rw [encTms_len, encTms_len, sortTm_len]) ?_; clear F)
  (have F := @tmz; refine gR ?_; clear F)
  (have F := @tmz; refine gG ?_; clear F)
  refine gB ?_
  (have F := @tmz; refine gCP [1000] [1000] (hc) ?_; clear F)
  rintro r pm ⟨rfl, rfl⟩
  simp only [setA, retA, zipM, List.cons_append, List.nil_append]
  (have F := @tmz; refine gR ?_; clear F)
  (have F := @tmz; refine gG ?_; clear F)
  exact (have F := encTms_len; gTP (R := RCut a cap 51 4 (encTms (distTm ts))) [1000] ⟨rfl, rfl⟩)
mutual
theorem vars_len : ∀ t : Tm, (varsTm t).length <= 1 + bulkRow (encTm t)
  | .mk op nm so args => by
    have := varss_len args
    simp only [varsTm, encTm, bulkRow, bulkC, encTms_len]
    split
    · simp
    · omega
theorem varss_len : ∀ ts : List Tm, (varsTms ts).length <= ts.length + bulkRows (encTms ts)
  | [] => by simp [varsTms]
  | t :: ts => by
    have h1 := vars_len t
    have h2 := varss_len ts
    simp only [varsTms, encTms, bulkRows, List.length_append, List.length_cons]
    omega
end
theorem vars_len2 {t : Tm} (h : bulkRow (encTm t) <= 1048576) : (varsTm t).length <= 1048576 := by
  obtain ⟨op, nm, so, args⟩ := t
  have := varss_len args
  simp only [varsTm, encTm, bulkRow, bulkC, encTms_len] at h ⊢
  split
  · simp
  · omega
theorem varsTms_snoc : ∀ (l : List Tm) (t : Tm), varsTms (l ++ [t]) = varsTms l ++ varsTm t
  | [], t => by simp [varsTms]
  | x :: xs, t => by simp [varsTms, varsTms_snoc xs t]
theorem varsTms_take {l : List Tm} {i : Nat} {t : Tm} (h : l[i]? = some t) : varsTms (l.take (i + 1)) = varsTms (l.take i) ++ varsTm t := by
  rw [show l.take (i + 1) = l.take i ++ [t] by simp [List.take_add_one, h], varsTms_snoc]
theorem varsTms_le : ∀ (l : List Tm) (i : Nat), (varsTms (l.take i)).length <= (varsTms l).length
  | [], i => by simp [varsTms]
  | x :: xs, 0 => by simp [varsTms]
  | x :: xs, i + 1 => by have := varsTms_le xs i; simp only [List.take_succ_cons, varsTms, List.length_append]; omega
def visL (ts args : List Tm) (i : Nat) : List Tm := ts ++ varsTms (args.take i)
theorem visL_0 (ts args : List Tm) : visL ts args 0 = ts := by simp [visL, varsTms]
theorem visL_step {ts args : List Tm} {i : Nat} {b : Tm} (h : args[i]? = some b) : visL ts args (i + 1) = visL ts args i ++ varsTm b := by
  unfold visL
  rw [varsTms_take h, List.append_assoc]
theorem visL_end (ts args : List Tm) : visL ts args args.length = ts ++ varsTms args := by unfold visL; rw [List.take_length]
theorem ktF : kindT Tryz.prog 228 = some .one := by kernel_rfl
theorem ztF : sizeT Tryz.prog 228 = some 1 := by kernel_rfl
theorem otF : zeroT Tryz.prog 228 = some [.lit .nilFunc] := by kernel_rfl
theorem okNilF : okCell (.lit .nilFunc) = true := rfl
theorem okFn {f : FuncId} {cs : List C} : okCell (.fn f cs) = true := rfl
theorem encTms_nil' : encTms [] = [] := by simp [encTms]
theorem gTPn {X : Prop} {P : Program} {ts : List RS} {R : List D -> List Bk -> Prop} {σ : St} {r : List D} {pm : List Bk} (ks : List Nat) (hR : R r pm) (hx : retQP P ts R .normal σ -> X := by first | exact fun h => h | exact fun h => ⟨_, Wk.refl _, h⟩) (hr : resD P σ ts = some r := by first | (simp only [pz, ↓reduceIte, Nat.reduceEqDiff, Nat.reduceAdd, Nat.reduceSub, Nat.reduceMul, Nat.reduceLeDiff, Nat.reduceBEq, Bool.false_eq_true, decide_true, decide_false, Int.reduceLE, Int.reduceToNat, Int.reduceLT, Int.reduceEq, eq_self, Nat.reduceShiftRight, Nat.reduceAnd, Nat.reduceBneDiff, F]; exact rfl) | simp only [pz, ↓reduceIte, Nat.reduceEqDiff, Nat.reduceAdd, Nat.reduceSub, Nat.reduceMul, Nat.reduceLeDiff, Nat.reduceBEq, Bool.false_eq_true, decide_true, decide_false, Int.reduceLE, Int.reduceToNat, Int.reduceLT, Int.reduceEq, eq_self, Nat.reduceShiftRight, Nat.reduceAnd, Nat.reduceBneDiff, F]) (hg : getM σ.m ks = some pm := by first | (simp only [pz, ↓reduceIte, Nat.reduceEqDiff, Nat.reduceAdd, Nat.reduceSub, Nat.reduceMul, Nat.reduceLeDiff, Nat.reduceBEq, Bool.false_eq_true, decide_true, decide_false, Int.reduceLE, Int.reduceToNat, Int.reduceLT, Int.reduceEq, eq_self, Nat.reduceShiftRight, Nat.reduceAnd, Nat.reduceBneDiff]; exact rfl) | simp only [pz, ↓reduceIte, Nat.reduceEqDiff, Nat.reduceAdd, Nat.reduceSub, Nat.reduceMul, Nat.reduceLeDiff, Nat.reduceBEq, Bool.false_eq_true, decide_true, decide_false, Int.reduceLE, Int.reduceToNat, Int.reduceLT, Int.reduceEq, eq_self, Nat.reduceShiftRight, Nat.reduceAnd, Nat.reduceBneDiff]) (hn : ks.Nodup := by decide) (hp : pm.all pinned = true := by simp only [pz, ↓reduceIte, Nat.reduceEqDiff, Nat.reduceAdd, Nat.reduceSub, Nat.reduceMul, Nat.reduceLeDiff, Nat.reduceBEq, Bool.false_eq_true, decide_true, decide_false, Int.reduceLE, Int.reduceToNat, Int.reduceLT, Int.reduceEq, eq_self, Nat.reduceShiftRight, Nat.reduceAnd, Nat.reduceBneDiff]) : X :=
  hx ⟨r, ks, pm, hg, hn, hp, hR, resOk_of hr⟩
def ptr0 (b : Nat) : Value := .pointer (some ⟨b, 0, none⟩)
def RVis (bo bv : Nat) (f : FuncId) (ty : Nat) (ts : List Tm) (r : List D) (pm : List Bk) : Prop := ∃ a cap, r = [] ∧ pm = [.var (some bo) [.lit (.slice a ts.length cap)], .buf (some (a, cap)) ty 4 (encTms ts), .var (some bv) [.fn f [.lit (ptr0 bo), .lit (ptr0 bv)]]]
set_option maxHeartbeats 8000000 in
set_option maxRecDepth 100000 in
theorem conP_visit_of (t : Tm) (ts : List Tm) (a : Option Addr) (cap bo bv : Nat) (hne : bo ≠ bv) (hb : bulkRow (encTm t) <= 1048576) (hl : ts.length + (varsTm t).length <= 4000000)
    (h : ∀ x ∈ t.args, ∀ (us : List Tm) (a : Option Addr) (cap : Nat), us.length + (varsTm x).length <= 4000000 -> ConP e0 186 [.agg (encTm x), .one (.lit (ptr0 bo)), .one (.lit (ptr0 bv))] [.var (some bo) [.lit (.slice a us.length cap)], .buf (some (a, cap)) 51 4 (encTms us), .var (some bv) [.fn 186 [.lit (ptr0 bo), .lit (ptr0 bv)]]] (RVis bo bv 186 51 (us ++ varsTm x))) :
    ConP e0 186 [.agg (encTm t), .one (.lit (ptr0 bo)), .one (.lit (ptr0 bv))] [.var (some bo) [.lit (.slice a ts.length cap)], .buf (some (a, cap)) 51 4 (encTms ts), .var (some bv) [.fn 186 [.lit (ptr0 bo), .lit (ptr0 bv)]]] (RVis bo bv 186 51 (ts ++ varsTm t)) := by
  obtain ⟨op, nm, so, args⟩ := t
  have hc : encTm (.mk op nm so args) = [.lit (.int .i64 op), .lit (.string nm), .lit (.int .i64 so), .sl (encTms args)] := by simp only [encTm]
  have hn1 : (bo = bv) = False := eq_false hne
  have hn2 : (bv = bo) = False := eq_false (fun e => hne e.symm)
  simp only [Tm.args] at h
  simp only [encTm, bulkRow, bulkC, encTms_len] at hb
  simp only [ptr0] at h ⊢
  refine gIP (ts := []) [1001, 1000, 1002] 15728943 Tryz.func186 ?_
  by_cases ho : op = -1
  · have q1 : (op = -1) = True := eq_true ho
    have e1 : varsTm (.mk op nm so args) = [.mk (-1) nm so []] := by simp only [varsTm, if_pos ho]
    rw [e1] at hl ⊢
    simp only [List.length_cons, List.length_nil, Nat.zero_add] at hl
    have hm : ts.length + 1 <= maxApp := by unfold maxApp; omega
    have c1 : encTm (.mk (-1) nm so []) = [.lit (.int .i64 (-1)), .lit (.string nm), .lit (.int .i64 so), .sl []] := by simp only [encTm, encTms]
    (have F := ai @hc (ai @q1 @tmz); have NN : StopAt 2 := trivial; refine gGn ?_; clear F NN)
    have hR : ∀ (a2 : Option Addr) (cap2 : Nat), RVis bo bv 186 51 (ts ++ [.mk (-1) nm so []]) [] [.var (some bo) [.lit (.slice a2 (ts.length + 1) cap2)], .buf (some (a2, cap2)) 51 4 (encTms ts ++ [[.lit (.int .i64 (-1)), .lit (.string nm), .lit (.int .i64 so), .sl []]]), .var (some bv) [.fn 186 [.lit (.pointer (some ⟨bo, 0, none⟩)), .lit (.pointer (some ⟨bv, 0, none⟩))]]] := fun a2 cap2 => ⟨a2, cap2, rfl, by
      rw [show encTms (ts ++ [.mk (-1) nm so []]) = encTms ts ++ [[.lit (.int .i64 (-1)), .lit (.string nm), .lit (.int .i64 so), .sl []]] by rw [encTms_eq, List.map_append, <- encTms_eq, List.map_cons, List.map_nil, c1], List.length_append]
      rfl⟩
    have a1 : (ts.length < ts.length + 1) = True := eq_true (Nat.lt_succ_self _)
    have a2 : ∀ Z : List C, (encTms ts ++ [Z])[ts.length]? = some Z := fun Z => by rw [List.getElem?_append_right (by rw [encTms_len]; exact Nat.le_refl _), encTms_len, Nat.sub_self]; rfl
    have a3 : ∀ Z X : List C, (encTms ts ++ [Z]).set ts.length X = encTms ts ++ [X] := fun Z X => by rw [List.set_append_right _ _ (by rw [encTms_len]; exact Nat.le_refl _), encTms_len, Nat.sub_self]; rfl
    have F := ai a1 (ai a2 (ai a3 (ai hc (ai q1 (ai @lenNrm (ai hm (ai hn1 (ai hn2 tmz))))))))
    refine gTree 8 ?_
    refine gT1 8 ?_
    refine gS 17 fun a2 cap2 => ?_
    refine runs_nil ?_
    refine gT2 9 11 ?_ ?_
    · refine runs_nil ?_
      refine gT2 10 11 ?_ ?_
      · refine runs_nil ?_
        refine gT1 11 ?_
        refine runs_nil ?_
        refine gT0 ?_
        (refine wkI ?_; (have F := @tmz; refine gG ?_; clear F); exact (have F := tmz; gTP [1001, 17, 1002] (hR a2 cap2)))
      · refine runs_nil ?_
        refine gT1 10 ?_
        refine runs_nil ?_
        refine gT0 ?_
        (refine wkI ?_; (have F := @tmz; refine gG ?_; clear F); exact (have F := tmz; gTP [1001, 17, 1002] (hR a2 cap2)))
    · refine runs_nil ?_
      refine gT1 9 ?_
      refine runs_nil ?_
      refine gT1 10 ?_
      refine runs_nil ?_
      refine gT0 ?_
      (refine wkI ?_; (have F := @tmz; refine gG ?_; clear F); exact (have F := tmz; gTP [1001, 17, 1002] (hR a2 cap2)))
  · have q1 : (op = -1) = False := eq_false ho
    have e1 : varsTm (.mk op nm so args) = varsTms args := by simp only [varsTm, if_neg ho]
    rw [e1] at hl ⊢
    have hal : args.length <= 1048576 := by omega
    (have F := ai @hc (ai @q1 @tmz); refine gG ?_; clear F)
    (have F := @visL_0; refine gL (ι := Nat × Option Addr × Nat) [5, 22, 23] [1000, 1001, 1002] (fun x => [(22, .d (.one (.lit (.int .i64 (x.1 : Int)))))]) (fun x => [(1001, .var (some bo) [.lit (.slice x.2.1 (visL ts args x.1).length x.2.2)]), (1000, .buf (some (x.2.1, x.2.2)) 51 4 (encTms (visL ts args x.1))), (1002, .var (some bv) [.fn 186 [.lit (.pointer (some ⟨bo, 0, none⟩)), .lit (.pointer (some ⟨bv, 0, none⟩))]])]) (fun x => x.1 <= args.length) (fun x => args.length - x.1) ((0, a, cap)) (Nat.zero_le _) (fun x hx => ?_); clear F)
    obtain ⟨i, a2, cap2⟩ := x
    simp only at hx
    dsimp only
    by_cases hlt : i < args.length
    · obtain ⟨b, hg⟩ : ∃ b, args[i]? = some b := ⟨_, List.getElem?_eq_getElem hlt⟩
      have q2 : ((i : Int) < (args.length : Int)) = True := eq_true (by omega)
      have q4 : IntKind.i64.wrap ((i : Int) + 1) = (i : Int) + 1 := IntWalk.i64_in _ (by omega)
      have hvt := varsTms_take hg
      have hle := varsTms_le args (i + 1)
      rw [hvt, List.length_append] at hle
      have hcon := h b (List.mem_of_getElem? hg) (visL ts args i) a2 cap2 (by unfold visL; rw [List.length_append]; omega)
      rw [<- visL_step hg] at hcon
      (have F := ai @q2 (ai @hc (ai @encTms_len (ai @encTms_get (ai @hg @tmz)))); refine gG ?_; clear F)
      refine gB ?_
      (have F := ai @ktF (ai @hn1 (ai @hn2 @tmz)); refine gCP [1001, 1000, 1002] [1001, 1000, 1002] (hcon) ?_; clear F)
      rintro r pm ⟨a3, cap3, rfl, rfl⟩
      simp only [ptr0, setA, retA, zipM, List.cons_append, List.nil_append]
      (have F := @tmz; refine gR ?_; clear F)
      (have F := @q4; refine gG ?_; exact ⟨(i + 1, a3, cap3), hlt, gw, gw, by omega⟩)
    · obtain rfl : i = args.length := by omega
      have q2 : ((args.length : Int) < (args.length : Int)) = False := eq_false (by omega)
      (have F := @q2; refine gG ?_; clear F)
      have hR : RVis bo bv 186 51 (ts ++ varsTms args) [] [.var (some bo) [.lit (.slice a2 (visL ts args args.length).length cap2)], .buf (some (a2, cap2)) 51 4 (encTms (visL ts args args.length)), .var (some bv) [.fn 186 [.lit (.pointer (some ⟨bo, 0, none⟩)), .lit (.pointer (some ⟨bv, 0, none⟩))]]] := by
        rw [<- visL_end]
        exact ⟨a2, cap2, rfl, rfl⟩
      exact (have F := tmz; gTPn [1001, 1000, 1002] hR)
theorem conP_visit_n (bo bv : Nat) (hne : bo ≠ bv) (n : Nat) : ∀ (t : Tm), nodesRow (encTm t) < n -> bulkRow (encTm t) <= 1048576 -> ∀ (ts : List Tm) (a : Option Addr) (cap : Nat), ts.length + (varsTm t).length <= 4000000 -> ConP e0 186 [.agg (encTm t), .one (.lit (ptr0 bo)), .one (.lit (ptr0 bv))] [.var (some bo) [.lit (.slice a ts.length cap)], .buf (some (a, cap)) 51 4 (encTms ts), .var (some bv) [.fn 186 [.lit (ptr0 bo), .lit (ptr0 bv)]]] (RVis bo bv 186 51 (ts ++ varsTm t)) := by
  induction n with
  | zero => exact fun _ h => by omega
  | succ n ih =>
    intro t hn hb ts a cap hl
    refine conP_visit_of t ts a cap bo bv hne hb hl fun x hx us a cap hl2 => ih x ?_ ?_ us a cap hl2
    · obtain ⟨op, nm, so, args⟩ := t
      simp only [encTm, nodesRow, nodesC] at hn
      simp only [Tm.args] at hx
      obtain ⟨i, hi⟩ := List.getElem?_of_mem hx
      have hi' : (encTms args)[i]? = some (encTm x) := by rw [encTms_get, hi]; rfl
      have h1 := nodes_get hi'
      omega
    · obtain ⟨op, nm, so, args⟩ := t
      simp only [encTm, bulkRow, bulkC] at hb
      simp only [Tm.args] at hx
      obtain ⟨i, hi⟩ := List.getElem?_of_mem hx
      have hi' : (encTms args)[i]? = some (encTm x) := by rw [encTms_get, hi]; rfl
      have h1 := bulk_get hi'
      omega
set_option maxHeartbeats 8000000 in
set_option maxRecDepth 100000 in
theorem con_implVars (t : Tm) (hb : bulkRow (encTm t) <= 1048576) : Con e0 147 [.agg (encTm t)] [.one (.sl (encTms (varsOf t)))] := by
  have hv := vars_len2 hb
  refine gI (ts := [.slot 2]) 31 Tryz.func147 ?_
  (have F := @tmz; have NN : StopAt 1 := trivial; refine gGn ?_; clear F NN)
  refine gB ?_
  (have F := @tmz; refine gP 1 ?_; clear F)
  refine gO 5 51 4 ?_
  refine gS 5 fun a cap => ?_
  (have F := @tmz; refine gR ?_; clear F)
  (have F := ai @otF (ai @ztF @tmz); have NN : StopAt 3 := trivial; refine gGn ?_; clear F NN)
  refine pV 3 fun b3 hb3 => ?_
  refine pV 4 fun b4 hb4 => ?_
  have hne : b3 ≠ b4 := fun e => hb4 3 b3 _ (by decide) rfl e.symm
  clear hb3 hb4
  have hn1 : (b3 = b4) = False := eq_false hne
  have hn2 : (b4 = b3) = False := eq_false (fun e => hne e.symm)
  (have F := ai @ktF (ai @ztF (ai @okNilF (ai @okFn (ai @hn1 (ai @hn2 @tmz))))); have NN : StopAt 4 := trivial; refine gGn ?_; clear F NN)
  refine gB ?_
  have hcon := conP_visit_n b3 b4 hne _ t (Nat.lt_succ_self _) (by omega) [] a cap (by simp; omega)
  have hdis := fun (a : Option Addr) (cap : Nat) => conP_distinct (varsTm t) (by omega) a cap
  simp only [ptr0, List.length_nil, List.nil_append, encTms_nil'] at hcon
  (have F := ai @ktF (ai @hn1 (ai @hn2 @tmz)); refine gCP [3, 5, 4] [3, 5, 4] (hcon) ?_; clear F)
  rintro r pm ⟨a2, cap2, rfl, rfl⟩
  simp only [ptr0, setA, retA, zipM, List.cons_append, List.nil_append]
  (have F := @tmz; refine gR ?_; clear F)
  (have F := @tmz; refine gG ?_; clear F)
  refine gB ?_
  (have F := ai @hn1 (ai @hn2 @tmz); refine gCP [5] [5] (hdis a2 cap2) ?_; clear F)
  rintro r pm ⟨rfl, rfl⟩
  simp only [setA, retA, zipM, List.cons_append, List.nil_append]
  (have F := @tmz; refine gR ?_; clear F)
  refine pD 5 [2] [] ?_ (hs := by simp only [pz, ↓reduceIte, Nat.reduceEqDiff, Nat.reduceAdd, Nat.reduceSub, Nat.reduceMul, Nat.reduceLeDiff, Nat.reduceBEq, Bool.false_eq_true, decide_true, decide_false, Int.reduceLE, Int.reduceToNat, Int.reduceLT, Int.reduceEq, eq_self, Nat.reduceShiftRight, Nat.reduceAnd, Nat.reduceBneDiff]; exact rfl)
  (have F := @tmz; refine gG ?_; exact gTd)
end Go.Proofs.YtkekkmpogmlopaaGreat
namespace Go.Proofs.YtkekkmpogmlopaaGreat
open Go.RowKit
theorem con_l5Var (nm : ByteArray) (so : Int) : Con e0 203 [.one (.lit (.string nm)), .one (.lit (.int .i64 so))] [.agg (encTm (.mk (-1) nm so []))] := by
  have c1 : encTm (.mk (-1) nm so []) = [.lit (.int .i64 (-1)), .lit (.string nm), .lit (.int .i64 so), .sl []] := by simp only [encTm, encTms]
  rw [c1]
  refine gI (ts := [.cell 4 51]) 19 Tryz.func203 ?_
  (have F := @e0P; refine gG ?_; exact gTd)
theorem insTm_step {t x : Tm} {ts : List Tm} {i : Nat} (hx : ts[i]? = some x) (h : insTm t ts = ts.take i ++ insTm t (ts.drop i)) (hc : cmpTm x t < 0) : insTm t ts = ts.take (i + 1) ++ insTm t (ts.drop (i + 1)) := by
  obtain ⟨hl, e⟩ := List.getElem?_eq_some_iff.1 hx
  rw [h, List.drop_eq_getElem_cons hl, e, insTm, if_pos hc]
  simp [List.take_add_one, hx]
theorem insTm_same {t x : Tm} {ts : List Tm} {i : Nat} (hx : ts[i]? = some x) (h : insTm t ts = ts.take i ++ insTm t (ts.drop i)) (hc : cmpTm x t = 0) : insTm t ts = ts := by
  obtain ⟨hl, e⟩ := List.getElem?_eq_some_iff.1 hx
  rw [h, List.drop_eq_getElem_cons hl, e, insTm, if_neg (by omega), if_pos hc, <- e, <- List.drop_eq_getElem_cons hl, List.take_append_drop]
theorem insTm_here {t x : Tm} {ts : List Tm} {i : Nat} (hx : ts[i]? = some x) (h : insTm t ts = ts.take i ++ insTm t (ts.drop i)) (h1 : ¬ cmpTm x t < 0) (h2 : ¬ cmpTm x t = 0) : insTm t ts = ts.take i ++ [t] ++ ts.drop i := by
  obtain ⟨hl, e⟩ := List.getElem?_eq_some_iff.1 hx
  rw [h, List.drop_eq_getElem_cons hl, e, insTm, if_neg h1, if_neg h2]
  simp
theorem insTm_end {t : Tm} {ts : List Tm} {i : Nat} (hi : ts.length <= i) (h : insTm t ts = ts.take i ++ insTm t (ts.drop i)) : insTm t ts = ts.take i ++ [t] ++ ts.drop i := by
  rw [h, List.drop_eq_nil_of_le hi, insTm]
  simp
theorem encTms_app (a b : List Tm) : encTms (a ++ b) = encTms a ++ encTms b := by rw [encTms_eq, encTms_eq, encTms_eq, List.map_append]
theorem encTms_drop (l : List Tm) (k : Nat) : (encTms l).drop k = encTms (l.drop k) := by rw [encTms_eq, encTms_eq, List.map_drop]
theorem encTms_one (t : Tm) : encTms [t] = [encTm t] := by simp [encTms]
set_option maxHeartbeats 8000000 in
set_option maxRecDepth 100000 in
theorem con_l5Insert (ts : List Tm) (t : Tm) (hts : okTms ts) (ht : okTm t) (hl : ts.length <= 8000000) : Con e0 202 [.one (.sl (encTms ts)), .agg (encTm t)] [.one (.sl (encTms (insTm t ts)))] := by
  refine gI (ts := [.slot 4]) 8590459003 Tryz.func202 ?_
  (have F := @tmz; refine gG ?_; clear F)
  (have F := @tmz; refine gL (ι := Nat) [5, 19] [] (fun x => [(5, .d (.one (.lit (.int .i64 (x : Int)))))]) (fun x => []) (fun x => x <= ts.length ∧ insTm t ts = ts.take x ++ insTm t (ts.drop x)) (fun x => ts.length - x) (0) (⟨Nat.zero_le _, rfl⟩) (fun x hx => ?_); clear F)
  obtain ⟨hi, hf⟩ := hx
  by_cases hlt : x < ts.length
  · obtain ⟨a, ha⟩ : ∃ n, ts[x]? = some n := ⟨_, List.getElem?_eq_getElem hlt⟩
    have q1 : ((x : Int) < (ts.length : Int)) = True := eq_true (by omega)
    have q4 : IntKind.i64.wrap ((x : Int) + 1) = (x : Int) + 1 := IntWalk.i64_in _ (by omega)
    have hcmp := con_specCmp (hts.mem (List.mem_of_getElem? ha)) ht
    (have F := ai @q1 @tmz; refine gG ?_; clear F)
    refine gB ?_
    (have F := ai @q1 (ai @tmz @ha); refine gC (hcmp) ?_; clear F)
    by_cases hc : cmpTm a t < 0
    · have q2 : (cmpTm a t < 0) = True := eq_true hc
      (have F := ai @q1 (ai @q2 @tmz); refine gR ?_; clear F)
      have hs := insTm_step ha hf hc
      (have F := ai @q4 @q2; refine gG ?_; exact ⟨x + 1, ⟨hlt, hs⟩, gw, gw, by omega⟩)
    · have q2 : (cmpTm a t < 0) = False := eq_false hc
      (have F := ai @q1 (ai @q2 @tmz); refine gR ?_; clear F)
      (have F := ai @q1 (ai @q2 @tmz); refine gG ?_; clear F)
      refine gB ?_
      (have F := ai @q1 (ai @tmz @ha); refine gC (con_l5Same (hts.mem (List.mem_of_getElem? ha)) ht) ?_; clear F)
      by_cases h0 : cmpTm a t = 0
      · have q3 : decide (cmpTm a t = 0) = true := decide_eq_true h0
        (have F := ai @q1 (ai @q3 @tmz); refine gR ?_; clear F)
        rw [insTm_same ha hf h0]
        (have F := ai @q3 @tmz; refine gG ?_; exact gTd)
      · have q3 : decide (cmpTm a t = 0) = false := decide_eq_false h0
        (have F := ai @q1 (ai @q3 @tmz); refine gR ?_; clear F)
        have hins := insTm_here ha hf hc h0
        (have F := ai @q3 @tmz; have NN : StopAt 6 := trivial; refine gGn ?_; clear F NN)
        rw [hins, encTms_app, encTms_app, encTms_one, <- encTms_take, <- encTms_drop]
        have hxl : ((x : Int) <= (ts.length : Int)) = True := eq_true (by omega)
        have r1 : rowsB 4 ((encTms ts).take x) = true := by rw [encTms_take]; exact rb_tm _
        have r2 : rowsB 4 ((encTms ts).drop x) = true := by rw [encTms_drop]; exact rb_tm _
        have n1 : ((encTms ts).take x).length <= 8000000 := by rw [List.length_take, encTms_len]; omega
        have n2 : ((encTms ts).drop x).length <= 8000000 := by rw [List.length_drop, encTms_len]; omega
        have n3 : ((encTms ts).take x).length + 1 <= maxApp := by unfold maxApp; omega
        have n4 : ((encTms ts).take x).length + 1 + ((encTms ts).drop x).length <= maxApp := by unfold maxApp; omega
        have F := ai r1 (ai r2 (ai hxl (ai n3 (ai n4 tmz))))
        refine gA 7 4 ?_ (.inl rfl) ?_
        · show 0 + _ <= maxApp
          unfold maxApp; omega
        clear F
        (have F := ai @r1 (ai @r2 (ai @hxl (ai @n3 (ai @n4 @tmz)))); refine gR ?_; clear F)
        have tkA : (encTms ts).take ts.length = encTms ts := by rw [<- encTms_len ts, List.take_length]
        have n5 : ((encTms ts).take x ++ [encTm t]).length + ((encTms ts).drop x).length <= maxApp := by simp only [List.length_append, List.length_cons, List.length_nil]; omega
        have hll : ((ts.length : Int) <= (ts.length : Int)) = True := eq_true (Int.le_refl _)
        (have F := ai @r1 (ai @r2 (ai @hxl (ai @n3 (ai @n4 (ai @n5 (ai @hll (ai @tkA @tmz))))))); refine gG ?_; exact gTz [4])
  · have q1 : ((x : Int) < (ts.length : Int)) = False := eq_false (by omega)
    have hins := insTm_end (by omega) hf
    (have F := ai @q1 @tmz; have NN : StopAt 6 := trivial; refine gGn ?_; clear F NN)
    rw [hins, encTms_app, encTms_app, encTms_one, <- encTms_take, <- encTms_drop]
    have hxl : ((x : Int) <= (ts.length : Int)) = True := eq_true (by omega)
    have r1 : rowsB 4 ((encTms ts).take x) = true := by rw [encTms_take]; exact rb_tm _
    have r2 : rowsB 4 ((encTms ts).drop x) = true := by rw [encTms_drop]; exact rb_tm _
    have n1 : ((encTms ts).take x).length <= 8000000 := by rw [List.length_take, encTms_len]; omega
    have n2 : ((encTms ts).drop x).length <= 8000000 := by rw [List.length_drop, encTms_len]; omega
    have n3 : ((encTms ts).take x).length + 1 <= maxApp := by unfold maxApp; omega
    have n4 : ((encTms ts).take x).length + 1 + ((encTms ts).drop x).length <= maxApp := by unfold maxApp; omega
    have F := ai r1 (ai r2 (ai hxl (ai n3 (ai n4 tmz))))
    refine gA 7 4 ?_ (.inl rfl) ?_
    · show 0 + _ <= maxApp
      unfold maxApp; omega
    clear F
    (have F := ai @r1 (ai @r2 (ai @hxl (ai @n3 (ai @n4 @tmz)))); refine gR ?_; clear F)
    have tkA : (encTms ts).take ts.length = encTms ts := by rw [<- encTms_len ts, List.take_length]
    have n5 : ((encTms ts).take x ++ [encTm t]).length + ((encTms ts).drop x).length <= maxApp := by simp only [List.length_append, List.length_cons, List.length_nil]; omega
    have hll : ((ts.length : Int) <= (ts.length : Int)) = True := eq_true (Int.le_refl _)
    (have F := ai @r1 (ai @r2 (ai @hxl (ai @n3 (ai @n4 (ai @n5 (ai @hll (ai @tkA @tmz))))))); refine gG ?_; exact gTz [4])
theorem con_clip2 {e : Env} {f : FuncId} {a : D} {rows : List (List C)} {r : List D} (h : Con e f [a, .one (.sl rows)] r) : Con e f [a, .clip rows] r :=
  ⟨h.1, fun w S vs h1 h2 h3 h4 => h.2 w S vs h1 h2 h3 (by
    match vs, h4 with
    | [x, y], h4 => exact ⟨h4.1, h4.2.1.1, trivial⟩)⟩
theorem okTm_var {op so : Int} {nm : ByteArray} {args : List Tm} (h : okTm (.mk op nm so args)) : okTm (.mk (-1) nm so []) := by
  simp only [okTm, okTms, and_true] at h ⊢
  exact ⟨by unfold I64; omega, h.2.1, h.2.2.1⟩
def colT (l : List Tm) (r : List Tm) : List Tm := l.foldl (fun r t => insTm t r) r
theorem colT_nil0 {ts : List Tm} : colT (varsTms []) ts = ts := by simp [colT, varsTms]
theorem colT_app (a b r : List Tm) : colT (a ++ b) r = colT b (colT a r) := by unfold colT; rw [List.foldl_append]
theorem insTm_len (t : Tm) : ∀ l : List Tm, (insTm t l).length <= l.length + 1
  | [] => by simp [insTm]
  | x :: xs => by
    have := insTm_len t xs
    simp only [insTm]
    split
    · simp only [List.length_cons]; omega
    · split <;> simp only [List.length_cons] <;> omega
theorem colT_len : ∀ (l r : List Tm), (colT l r).length <= r.length + l.length
  | [], r => by simp [colT]
  | x :: xs, r => by
    have h1 := colT_len xs (insTm x r)
    have h2 := insTm_len x r
    simp only [colT, List.foldl_cons, List.length_cons] at h1 ⊢
    omega
theorem insTm_ok {t : Tm} (ht : okTm t) : ∀ {l : List Tm}, okTms l -> okTms (insTm t l)
  | [], _ => by simp only [insTm, okTms]; exact ⟨ht, trivial⟩
  | x :: xs, h => by
    simp only [okTms] at h
    simp only [insTm]
    split
    · simp only [okTms]; exact ⟨h.1, insTm_ok ht h.2⟩
    · split
      · simp only [okTms]; exact h
      · simp only [okTms]; exact ⟨ht, h⟩
theorem colT_ok : ∀ {l r : List Tm}, okTms l -> okTms r -> okTms (colT l r)
  | [], r, _, h => h
  | x :: xs, r, h1, h2 => by
    simp only [okTms] at h1
    exact colT_ok (l := xs) (r := insTm x r) h1.2 (insTm_ok h1.1 h2)
theorem okTms_app : ∀ {a b : List Tm}, okTms a -> okTms b -> okTms (a ++ b)
  | [], _, _, h => h
  | x :: xs, b, h1, h2 => by
    simp only [okTms] at h1
    simp only [List.cons_append, okTms]
    exact ⟨h1.1, okTms_app h1.2 h2⟩
mutual
theorem varsTm_ok : ∀ {t : Tm}, okTm t -> okTms (varsTm t)
  | .mk op nm so args, h => by
    simp only [varsTm]
    split
    · simp only [okTms]; exact ⟨okTm_var h, trivial⟩
    · simp only [okTm] at h; exact varsTms_ok h.2.2.2
theorem varsTms_ok : ∀ {l : List Tm}, okTms l -> okTms (varsTms l)
  | [], _ => by simp [varsTms, okTms]
  | x :: xs, h => by
    simp only [okTms] at h
    simp only [varsTms]
    exact okTms_app (varsTm_ok h.1) (varsTms_ok h.2)
end
theorem okTms_take : ∀ {l : List Tm} (i : Nat), okTms l -> okTms (l.take i)
  | [], _, _ => by simp [okTms]
  | x :: xs, 0, _ => by simp [okTms]
  | x :: xs, i + 1, h => by
    simp only [okTms] at h
    simp only [List.take_succ_cons, okTms]
    exact ⟨h.1, okTms_take i h.2⟩
set_option maxHeartbeats 8000000 in
theorem con_l5Collect_of (t : Tm) (ts : List Tm) (ht : okTm t) (hts : okTms ts) (hb : bulkRow (encTm t) <= 1048576) (hl : ts.length + (varsTm t).length <= 7000000) (h : ∀ x ∈ t.args, ∀ us : List Tm, okTms us -> us.length + (varsTm x).length <= 7000000 -> Con e0 178 [.agg (encTm x), .one (.sl (encTms us))] [.one (.sl (encTms (colT (varsTm x) us)))]) :
    Con e0 178 [.agg (encTm t), .one (.sl (encTms ts))] [.one (.sl (encTms (colT (varsTm t) ts)))] := by
  obtain ⟨op, nm, so, args⟩ := t
  have hc : encTm (.mk op nm so args) = [.lit (.int .i64 op), .lit (.string nm), .lit (.int .i64 so), .sl (encTms args)] := by simp only [encTm]
  simp only [Tm.args] at h
  simp only [encTm, bulkRow, bulkC, encTms_len] at hb
  refine gI (ts := [.slot 4]) 1048887 Tryz.func178 ?_
  by_cases ho : op = -1
  · have q1 : (op = -1) = True := eq_true ho
    have e1 : varsTm (.mk op nm so args) = [.mk (-1) nm so []] := by simp only [varsTm, if_pos ho]
    rw [e1] at hl ⊢
    simp only [List.length_cons, List.length_nil, Nat.zero_add] at hl
    have hI := con_l5Insert ts (.mk (-1) nm so []) hts (okTm_var ht) (by omega)
    (have F := ai @hc (ai @q1 @tmz); refine gG ?_; clear F)
    refine gB ?_
    (have F := @hc; refine gC (con_l5Var nm so) ?_; clear F)
    (have F := @hc; refine gC (hI) ?_; clear F)
    (have F := @hc; refine gR ?_; clear F)
    simp only [colT, List.foldl_cons, List.foldl_nil]
    (have F := @tmz; refine gG ?_; exact gTd)
  · have q1 : (op = -1) = False := eq_false ho
    have e1 : varsTm (.mk op nm so args) = varsTms args := by simp only [varsTm, if_neg ho]
    rw [e1] at hl ⊢
    have hk : okTms args := by simp only [okTm] at ht; exact ht.2.2.2
    (have F := ai @hc (ai @q1 @tmz); refine gG ?_; clear F)
    (have F := ai ((fun (r : List Tm) => (colT_nil0 : colT (varsTms []) r = r))) @tmz; refine gL (ι := Nat) [1, 5, 20] [] (fun x => [(5, .d (.one (.lit (.int .i64 (x : Int))))), (1, .d (.one (.sl (encTms (colT (varsTms (args.take x)) ts)))))]) (fun x => []) (fun x => x <= args.length) (fun x => args.length - x) (0) (Nat.zero_le _) (fun x hx => ?_); clear F)
    by_cases hlt : x < args.length
    · obtain ⟨b, hg⟩ : ∃ b, args[x]? = some b := ⟨_, List.getElem?_eq_getElem hlt⟩
      have q2 : ((x : Int) < (args.length : Int)) = True := eq_true (by omega)
      have q4 : IntKind.i64.wrap ((x : Int) + 1) = (x : Int) + 1 := IntWalk.i64_in _ (by omega)
      have hvt := varsTms_take hg
      have hle := varsTms_le args (x + 1)
      rw [hvt, List.length_append] at hle
      have hcl := colT_len (varsTms (args.take x)) ts
      have hcon := h b (List.mem_of_getElem? hg) (colT (varsTms (args.take x)) ts) (colT_ok (varsTms_ok (okTms_take x hk)) hts) (by omega)
      rw [<- colT_app, <- hvt] at hcon
      (have F := ai @q2 (ai @hc @tmz); refine gG ?_; clear F)
      refine gB ?_
      (have F := ai @q2 (ai @hc (ai @hg @tmz)); refine gC (hcon) ?_; clear F)
      (have F := @tmz; refine gR ?_; clear F)
      (have F := @q4; refine gG ?_; exact ⟨x + 1, hlt, gw, gw, by omega⟩)
    · obtain rfl : x = args.length := by omega
      have q2 : ((args.length : Int) < (args.length : Int)) = False := eq_false (by omega)
      rw [List.take_length]
      (have F := ai @q2 (ai @hc @tmz); refine gG ?_; exact gTd)
theorem con_l5Collect_n (n : Nat) : ∀ t : Tm, nodesRow (encTm t) < n -> okTm t -> bulkRow (encTm t) <= 1048576 -> ∀ ts : List Tm, okTms ts -> ts.length + (varsTm t).length <= 7000000 -> Con e0 178 [.agg (encTm t), .one (.sl (encTms ts))] [.one (.sl (encTms (colT (varsTm t) ts)))] := by
  induction n with
  | zero => exact fun _ h => by omega
  | succ n ih =>
    intro t hn ht hb ts hts hl
    refine con_l5Collect_of t ts ht hts hb hl fun x hx us hus hl2 => ?_
    obtain ⟨op, nm, so, args⟩ := t
    simp only [encTm, nodesRow, nodesC] at hn
    simp only [encTm, bulkRow, bulkC] at hb
    simp only [okTm] at ht
    simp only [Tm.args] at hx
    obtain ⟨i, hi⟩ := List.getElem?_of_mem hx
    have hi' : (encTms args)[i]? = some (encTm x) := by rw [encTms_get, hi]; rfl
    have h1 := nodes_get hi'
    have h2 := bulk_get hi'
    exact ih x (by omega) (ht.2.2.2.mem hx) (by omega) us hus hl2
theorem con_specVars {t : Tm} (ht : okTm t) (hb : bulkRow (encTm t) <= 1048576) : Con e0 132 [.agg (encTm t)] [.one (.sl (encTms (varsOf t)))] := by
  have hv := vars_len t
  have hcon := con_l5Collect_n _ t (Nat.lt_succ_self _) ht hb [] trivial (by simp; omega)
  have hcon := con_clip2 (by rw [encTms_nil'] at hcon; exact hcon)
  rw [show colT (varsTm t) [] = varsOf t from rfl] at hcon
  refine gI (ts := [.slot 2]) 7 Tryz.func132 ?_
  (have F := @tmz; refine gG ?_; clear F)
  refine gB ?_
  (have F := @tmz; refine gC (hcon) ?_; clear F)
  (have F := @tmz; refine gR ?_; clear F)
  (have F := @tmz; refine gG ?_; exact gTd)
end Go.Proofs.YtkekkmpogmlopaaGreat
namespace Go.Proofs.YtkekkmpogmlopaaGreat
open Go.RowKit
theorem okTms_dist {l : List Tm} (h : okTms l) : okTms (distTm l) := colT_ok (r := []) h trivial
theorem okTms_vars {t : Tm} (h : okTm t) : okTms (varsOf t) := okTms_dist (varsTm_ok h)
theorem dist_len (l : List Tm) : (distTm l).length <= l.length := by have := colT_len l []; simpa [colT, distTm] using this
theorem varsOf_len (t : Tm) : (varsOf t).length <= 1 + bulkRow (encTm t) := Nat.le_trans (dist_len _) (vars_len t)
theorem any_take_succ {vs : List Tm} {p : Tm -> Bool} {i : Nat} {a : Tm} (h : vs[i]? = some a) : (vs.take (i + 1)).any p = ((vs.take i).any p || p a) := by
  rw [List.take_add_one, h]; simp
theorem all_take_succ {vs : List Tm} {p : Tm -> Bool} {i : Nat} {a : Tm} (h : vs[i]? = some a) : (vs.take (i + 1)).all p = ((vs.take i).all p && p a) := by
  rw [List.take_add_one, h]; simp
theorem all_take_c {α : Type} {vs : List α} {p : α -> Bool} {i : Nat} {a : α} (h : vs[i]? = some a) : (vs.take (i + 1)).all p = ((vs.take i).all p && p a) := by
  rw [List.take_add_one, h]; simp
theorem all_false {α : Type} {vs : List α} {p : α -> Bool} {a : α} (h : a ∈ vs) (hp : p a = false) : vs.all p = false := by
  rw [List.all_eq_false]
  exact ⟨a, h, by simp [hp]⟩
end Go.Proofs.YtkekkmpogmlopaaGreat
namespace Go.Proofs.YtkekkmpogmlopaaGreat
open Go.RowKit
structure Eqn where
  l : Tm
  r : Tm
  cs : List (Tm × Tm)
def encCnd (c : Tm × Tm) : List C := encTm c.1 ++ encTm c.2
def encEqn (e : Eqn) : List C := encTm e.l ++ (encTm e.r ++ [.sl (e.cs.map encCnd)])
def okCnd (c : Tm × Tm) : Prop := okTm c.1 ∧ okTm c.2
def okEqn (e : Eqn) : Prop := okTm e.l ∧ okTm e.r ∧ ∀ c ∈ e.cs, okCnd c
theorem decCnd {row : List C} (h : okRow (fieldsOf .cond) row) : ∃ c, row = encCnd c ∧ okCnd c := by
  obtain ⟨i0, t1, i2, r3, i4, t5, i6, r7, rfl, g0, g1, g2, g3, g4, g5, g6, g7⟩ := okRow_Condition h
  obtain ⟨a, rfl, ha⟩ := decTms g3
  obtain ⟨a', rfl, ha'⟩ := decTms g7
  refine ⟨(.mk i0 t1 i2 a, .mk i4 t5 i6 a'), by simp [encCnd, encTm], ?_⟩
  simp only [okCnd, okTm]
  exact ⟨⟨g0, g1, g2, ha⟩, g4, g5, g6, ha'⟩
theorem decCnds : ∀ {rows : List (List C)}, okRows (fieldsOf .cond) rows -> ∃ cs : List (Tm × Tm), rows = cs.map encCnd ∧ ∀ c ∈ cs, okCnd c
  | [], _ => ⟨[], rfl, by simp⟩
  | r :: rs, h => by
    simp only [okRows] at h
    obtain ⟨c, rfl, hc⟩ := decCnd h.1
    obtain ⟨cs, rfl, hcs⟩ := decCnds h.2
    exact ⟨c :: cs, rfl, by intro x hx; rcases List.mem_cons.1 hx with rfl | hx; exact hc; exact hcs x hx⟩
theorem decEqn {row : List C} (h : okRow (fieldsOf .eqn) row) : ∃ e, row = encEqn e ∧ okEqn e := by
  obtain ⟨i0, t1, i2, r3, i4, t5, i6, r7, r8, rfl, g0, g1, g2, g3, g4, g5, g6, g7, g8⟩ := okRow_Equation h
  obtain ⟨a, rfl, ha⟩ := decTms g3
  obtain ⟨a', rfl, ha'⟩ := decTms g7
  obtain ⟨cs, rfl, hcs⟩ := decCnds g8
  refine ⟨⟨.mk i0 t1 i2 a, .mk i4 t5 i6 a', cs⟩, by simp [encEqn, encTm], ?_, ?_, hcs⟩
  · simp only [okTm]; exact ⟨g0, g1, g2, ha⟩
  · simp only [okTm]; exact ⟨g4, g5, g6, ha'⟩
theorem tm4 (t : Tm) : ∃ a b c d, encTm t = [a, b, c, d] := by
  obtain ⟨op, nm, so, args⟩ := t
  simp only [encTm]
  exact ⟨_, _, _, _, rfl⟩
theorem take_tm (t : Tm) (l : List C) : (encTm t ++ l).take 4 = encTm t := by obtain ⟨a, b, c, d, h⟩ := tm4 t; rw [h]; rfl
theorem drop_tm (t : Tm) (l : List C) : (encTm t ++ l).drop 4 = l := by obtain ⟨a, b, c, d, h⟩ := tm4 t; rw [h]; rfl
theorem eq_take4 (e : Eqn) : (encEqn e).take 4 = encTm e.l := take_tm _ _
theorem eq_drop4 (e : Eqn) : (encEqn e).drop 4 = encTm e.r ++ [.sl (e.cs.map encCnd)] := drop_tm _ _
theorem eq_drop8 (e : Eqn) : (encEqn e).drop 8 = [.sl (e.cs.map encCnd)] := by
  rw [show (8 : Nat) = 4 + 4 from rfl, <- List.drop_drop, eq_drop4, drop_tm]
theorem eq_len (e : Eqn) : (encEqn e).length = 9 := by simp [encEqn, (tmz.2.2.2.2.1 : ∀ t, (encTm t).length = 4)]
theorem eq_take9 (e : Eqn) : (encEqn e).take 9 = encEqn e := List.take_of_length_le (by rw [eq_len]; exact Nat.le_refl _)
theorem eq_drop9 (e : Eqn) : (encEqn e).drop 9 = [] := List.drop_of_length_le (by rw [eq_len]; exact Nat.le_refl _)
theorem eq_ok (e : Eqn) : (encEqn e).all okCell = true := by
  simp only [encEqn, List.all_append, (tmz.2.2.2.2.2.2.2.1 : ∀ t, (encTm t).all okCell = true), Bool.true_and]
  rfl
theorem eq_op (e : Eqn) : valT TK.one (encEqn e) = some (A.d (.one (.lit (.int .i64 e.l.op)))) := by
  obtain ⟨⟨op, nm, so, args⟩, r, cs⟩ := e
  simp [encEqn, encTm, valT, Tm.op]
theorem cn_len (c : Tm × Tm) : (encCnd c).length = 8 := by simp [encCnd, (tmz.2.2.2.2.1 : ∀ t, (encTm t).length = 4)]
theorem cn_take4 (c : Tm × Tm) : (encCnd c).take 4 = encTm c.1 := take_tm _ _
theorem cn_drop4 (c : Tm × Tm) : (encCnd c).drop 4 = encTm c.2 := drop_tm _ _
theorem cn_take8 (c : Tm × Tm) : (encCnd c).take 8 = encCnd c := List.take_of_length_le (by rw [cn_len]; exact Nat.le_refl _)
theorem cn_drop8 (c : Tm × Tm) : (encCnd c).drop 8 = [] := List.drop_of_length_le (by rw [cn_len]; exact Nat.le_refl _)
theorem cn_ok (c : Tm × Tm) : (encCnd c).all okCell = true := by
  simp only [encCnd, List.all_append, (tmz.2.2.2.2.2.2.2.1 : ∀ t, (encTm t).all okCell = true), Bool.true_and]
theorem cn_rows (cs : List (Tm × Tm)) : rowsB 8 (cs.map encCnd) = true := by
  induction cs with
  | nil => rfl
  | cons c cs ih => simp only [List.map_cons, rowsB_cons, cn_len, ih]; simp [cn_ok]
theorem eqz : type_of% (ai eq_take4 (ai eq_drop4 (ai eq_drop8 (ai eq_len (ai eq_take9 (ai eq_drop9 (ai eq_ok (ai eq_op (ai cn_len (ai cn_take4 (ai cn_drop4 (ai cn_take8 (ai cn_drop8 (ai cn_ok (ai cn_rows (ai take_tm drop_tm)))))))))))))))) := ai eq_take4 (ai eq_drop4 (ai eq_drop8 (ai eq_len (ai eq_take9 (ai eq_drop9 (ai eq_ok (ai eq_op (ai cn_len (ai cn_take4 (ai cn_drop4 (ai cn_take8 (ai cn_drop8 (ai cn_ok (ai cn_rows (ai take_tm drop_tm)))))))))))))))
noncomputable def pairB (g : Sgn) (l r : Tm) : Bool := isTerm g l && (isTerm g r && decide (kindTm g l = kindTm g r))
def hasB (vs : List Tm) (v : Tm) : Bool := vs.any fun a => decide (cmpTm v a = 0)
def withB (vs : List Tm) (t : Tm) : Bool := (varsOf t).all (hasB vs)
noncomputable def cndB (g : Sgn) (vs : List Tm) (c : Tm × Tm) : Bool := pairB g c.1 c.2 && (withB vs c.1 && withB vs c.2)
noncomputable def eqnB (g : Sgn) (e : Eqn) : Bool := pairB g e.l e.r && (!decide (e.l.op = -1) && (decide (e.cs.length <= 2) && (decide ((varsOf e.l).length <= 5) && (withB (varsOf e.l) e.r && e.cs.all (cndB g (varsOf e.l))))))
noncomputable def isEqn (g : Sgn) (e : Eqn) : Bool := isSgn g && eqnB g e
theorem bulk_app (a b : List C) : bulkRow (a ++ b) = bulkRow a + bulkRow b := by
  induction a with
  | nil => simp [bulkRow]
  | cons x xs ih => simp only [List.cons_append, bulkRow, ih]; omega
theorem isName_size {s : ByteArray} (h : isName s = true) : s.size <= 12 := by
  simp only [isName, Bool.and_eq_true, decide_eq_true_eq] at h
  exact h.1.1.1.2
mutual
theorem form_bulk {g : Sgn} : ∀ {t : Tm}, FormOk g t -> bulkRow (encTm t) + 1 <= 14 * sizeTm t
  | .mk op nm so args, h => by
    simp only [FormOk] at h
    obtain ⟨hn, ha, _⟩ := h
    have h1 := forms_bulk ha
    have h2 : nm.size <= 12 := by
      rcases hn with hn | ⟨o, d, hn⟩
      · exact isName_size hn.2.1
      · have := hn.nm
        simp only [Tm.name] at this
        rw [this]
        exact Nat.zero_le _
    simp only [encTm, bulkRow, bulkC, sizeTm]
    omega
theorem forms_bulk {g : Sgn} : ∀ {ts : List Tm}, FormOks g ts -> (encTms ts).length + bulkRows (encTms ts) <= 14 * sizeTms ts
  | [], _ => by simp [encTms, bulkRows]
  | t :: ts, h => by
    simp only [FormOks] at h
    have h1 := form_bulk h.1
    have h2 := forms_bulk h.2
    simp only [encTms, bulkRows, List.length_cons, sizeTms]
    omega
end
theorem term_bulk {g : Sgn} {t : Tm} (h : isTerm g t = true) : bulkRow (encTm t) <= 1048576 := by
  have := form_bulk (isTerm_iff.1 h).form
  have := (isTerm_iff.1 h).size
  omega
set_option maxHeartbeats 8000000 in
set_option maxRecDepth 100000 in
theorem con_l13Pair {g : Sgn} (hokg : okSgn g) (hg : SgnOk g) {l r : Tm} (hl : okTm l) (hr : okTm r) (hbl : bulkRow (encTm l) <= 1048576) (hbr : bulkRow (encTm r) <= 1048576) : Con e0 131 [.agg (encSgn g), .agg (encTm l), .agg (encTm r)] [.one (.lit (.bool (pairB g l r)))] := by
  have b1 := big_of_bulk hbl
  have b2 := big_of_bulk hbr
  have cF1 := con_l6Form hokg hg hl b1
  have cF2 := con_l6Form hokg hg hr b2
  have cK1 := fun h => con_l6Kind hokg hg (t := l) h
  have cK2 := fun h => con_l6Kind hokg hg (t := r) h
  rw [encSgn] at cF1 cF2 cK1 cK2
  refine gI 127 Tryz.func131 ?_
  (have F := ai @tmz @encSgn_u; refine gG ?_; clear F)
  refine gB ?_
  (have F := @tmz; refine gC (con_l6Small b1) ?_; clear F)
  by_cases h1 : sizeTm l <= 60 ∧ depthTm l <= 20
  rotate_left
  · have hf : pairB g l r = false := by rw [pairB, isTerm_false fun h => h1 ⟨h.size, h.depth⟩]; rfl
    have h1' : decide (sizeTm l <= 60 ∧ depthTm l <= 20) = false := by simp only [decide_eq_false_iff_not]; exact h1
    (have F := ai @tmz @h1'; refine gR ?_; clear F)
    (have F := @hf; refine gG ?_; exact gT)
  have h1' : decide (sizeTm l <= 60 ∧ depthTm l <= 20) = true := by simp only [decide_eq_true_eq]; exact h1
  (have F := ai @tmz @h1'; refine gC (cF1) ?_; clear F)
  have e1 := isTerm_form (g := g) h1.1 h1.2
  cases hF1 : isForm g l with
  | false =>
    have hf : pairB g l r = false := by rw [pairB, <- e1, hF1]; rfl
    (have F := ai @tmz @h1'; refine gR ?_; clear F)
    (have F := @hf; refine gG ?_; exact gT)
  | true =>
    (have F := ai @tmz @h1'; refine gC (con_l6Small b2) ?_; clear F)
    by_cases h2 : sizeTm r <= 60 ∧ depthTm r <= 20
    rotate_left
    · have hf : pairB g l r = false := by rw [pairB, isTerm_false (t := r) fun h => h2 ⟨h.size, h.depth⟩]; simp
      have h2' : decide (sizeTm r <= 60 ∧ depthTm r <= 20) = false := by simp only [decide_eq_false_iff_not]; exact h2
      (have F := ai @tmz (ai @h1' @h2'); refine gR ?_; clear F)
      (have F := @hf; refine gG ?_; exact gT)
    have h2' : decide (sizeTm r <= 60 ∧ depthTm r <= 20) = true := by simp only [decide_eq_true_eq]; exact h2
    (have F := ai @tmz (ai @h1' @h2'); refine gC (cF2) ?_; clear F)
    have e2 := isTerm_form (g := g) h2.1 h2.2
    cases hF2 : isForm g r with
    | false =>
      have hf : pairB g l r = false := by rw [pairB, <- e2, hF2]; simp
      (have F := ai @tmz (ai @h1' @h2'); refine gR ?_; clear F)
      (have F := @hf; refine gG ?_; exact gT)
    | true =>
      have ef : pairB g l r = decide (kindTm g l = kindTm g r) := by rw [pairB, <- e1, <- e2, hF1, hF2]; rfl
      (have F := ai @tmz (ai @h1' @h2'); refine gC (cK1 (isForm_iff.1 hF1).node) ?_; clear F)
      (have F := ai @tmz (ai @h1' @h2'); refine gC (cK2 (isForm_iff.1 hF2).node) ?_; clear F)
      (have F := ai @tmz (ai @h1' @h2'); refine gR ?_; clear F)
      (have F := @ef; refine gG ?_; exact gT)
theorem any_nil0 {p : Tm -> Bool} : ([] : List Tm).any p = false := rfl
set_option maxHeartbeats 8000000 in
set_option maxRecDepth 100000 in
theorem con_l13Within {t : Tm} {vs : List Tm} (ht : okTm t) (hvs : okTms vs) (hb : bulkRow (encTm t) <= 1048576) (hl : vs.length <= 8000000) : Con e0 133 [.agg (encTm t), .one (.sl (encTms vs))] [.one (.lit (.bool (withB vs t)))] := by
  have hok := okTms_vars ht
  have hle := varsOf_len t
  have cV := con_specVars ht hb
  have eW : withB vs t = (varsOf t).all (hasB vs) := rfl
  rw [eW]
  clear eW
  generalize varsOf t = us at hok hle cV ⊢
  refine gI 68720542199 Tryz.func133 ?_
  (have F := @tmz; refine gG ?_; clear F)
  refine gB ?_
  (have F := @tmz; refine gC (cV) ?_; clear F)
  (have F := @tmz; refine gR ?_; clear F)
  (have F := @tmz; refine gG ?_; clear F)
  (have F := @e0P; refine gL (ι := Nat) [4, 6, 7, 8, 14, 20, 36] [] (fun x => [(6, A.d (.one (.lit (.int .i64 x))))]) (fun x => []) (fun x => x <= us.length ∧ (us.take x).all (hasB vs) = true) (fun x => us.length - x) (0) (⟨Nat.zero_le _, rfl⟩) (fun x hx => ?_); clear F)
  obtain ⟨hxl, hall⟩ := hx
  by_cases hlt : x < us.length
  rotate_left
  · have q1 : ¬ ((x : Int) < (us.length : Int)) := by omega
    obtain rfl : x = us.length := by omega
    rw [List.take_length] at hall
    (have F := ai @tmz (ai @q1 @hall); refine gG ?_; exact gT)
  have q1 : (x : Int) < (us.length : Int) := by omega
  obtain ⟨v, hv⟩ : ∃ a, us[x]? = some a := ⟨_, List.getElem?_eq_getElem hlt⟩
  have hvo := hok.mem (List.mem_of_getElem? hv)
  have hw1 := wrap1 (k := x) (by omega)
  (have F := ai @tmz @q1; refine gG ?_; clear F)
  (have F := ((fun (p : Tm -> Bool) => (any_nil0 : ([] : List Tm).any p = false))); refine gL (ι := Nat) [7, 8, 20] [] (fun y => [(7, .d (.one (.lit (.bool ((vs.take y).any fun a => decide (cmpTm v a = 0)))))), (8, A.d (.one (.lit (.int .i64 y))))]) (fun y => []) (fun y => y <= vs.length) (fun y => vs.length - y) (0) (Nat.zero_le _) (fun y hy => ?_); clear F)
  by_cases hlt2 : y < vs.length
  rotate_left
  · have q2 : ¬ ((y : Int) < (vs.length : Int)) := by omega
    obtain rfl : y = vs.length := by omega
    rw [List.take_length]
    cases hh : hasB vs v with
    | true =>
      have e : (vs.any fun a => decide (cmpTm v a = 0)) = true := hh
      have hq : x + 1 <= us.length ∧ (us.take (x + 1)).all (hasB vs) = true := ⟨hlt, by rw [all_take_succ hv, hall, hh]; rfl⟩
      (have F := ai @tmz (ai @q1 (ai @q2 (ai @e @hw1))); refine gG ?_; exact ⟨x + 1, hq, gw, gw, by omega⟩)
    | false =>
      have e : (vs.any fun a => decide (cmpTm v a = 0)) = false := hh
      have hf : us.all (hasB vs) = false := all_false (List.mem_of_getElem? hv) hh
      (have F := ai @tmz (ai @q1 (ai @q2 (ai @e @hf))); refine gG ?_; exact gT)
  have q2 : (y : Int) < (vs.length : Int) := by omega
  obtain ⟨a, ha⟩ : ∃ a, vs[y]? = some a := ⟨_, List.getElem?_eq_getElem hlt2⟩
  have hao := hvs.mem (List.mem_of_getElem? ha)
  have hw2 := wrap1 (k := y) (by omega)
  have hst := any_take_succ (p := fun a => decide (cmpTm v a = 0)) ha
  cases hc : (vs.take y).any fun a => decide (cmpTm v a = 0) with
  | true =>
    rw [hc, Bool.true_or] at hst
    (have F := ai @tmz (ai @q1 @q2); refine gG ?_; clear F)
    (have F := ai @tmz (ai @q2 (ai @hst @hw2)); refine gG ?_; exact ⟨y + 1, hlt2, gw, gw, by omega⟩)
  | false =>
    rw [hc, Bool.false_or] at hst
    (have F := ai @tmz (ai @q1 @q2); refine gG ?_; clear F)
    refine gB ?_
    (have F := ai @tmz (ai @q1 (ai @q2 (ai @hv @ha))); refine gC (con_l5Same hvo hao) ?_; clear F)
    (have F := ai @tmz (ai @q1 @q2); refine gR ?_; clear F)
    (have F := ai @tmz (ai @q2 (ai @hst @hw2)); refine gG ?_; exact ⟨y + 1, hlt2, gw, gw, by omega⟩)
end Go.Proofs.YtkekkmpogmlopaaGreat
namespace Go.Proofs.YtkekkmpogmlopaaGreat
open Go.RowKit
theorem bulk_eqn (e : Eqn) : bulkRow (encEqn e) = bulkRow (encTm e.l) + (bulkRow (encTm e.r) + (e.cs.length + bulkRows (e.cs.map encCnd))) := by
  rw [encEqn, bulk_app, bulk_app]
  simp [bulkRow, bulkC]
theorem bulk_cnd {cs : List (Tm × Tm)} {c : Tm × Tm} (h : c ∈ cs) : bulkRow (encTm c.1) + bulkRow (encTm c.2) <= bulkRows (cs.map encCnd) := by
  obtain ⟨i, hi⟩ := List.getElem?_of_mem h
  have : (cs.map encCnd)[i]? = some (encCnd c) := by rw [List.getElem?_map, hi]; rfl
  have := bulk_get this
  rw [encCnd, bulk_app] at this
  exact this
set_option maxHeartbeats 8000000 in
set_option maxRecDepth 100000 in
theorem con_specEqn {g : Sgn} {e : Eqn} (hokg : okSgn g) (he : okEqn e) (hb : bulkRow (encEqn e) <= 1048576) : Con e0 77 [.agg (encSgn g), .agg (encEqn e)] [.one (.lit (.bool (isEqn g e)))] := by
  rw [bulk_eqn] at hb
  obtain ⟨hol, hor, hoc⟩ := he
  have cS := con_specSgn hokg
  rw [encSgn] at cS
  refine gI 151115728032372933787903 Tryz.func77 ?_
  (have F := ai @tmz (ai @eqz @encSgn_u); refine gG ?_; clear F)
  refine gB ?_
  (have F := ai @tmz (ai @eqz @encSgn_u); refine gC (cS) ?_; clear F)
  by_cases hs : isSgn g = true
  rotate_left
  · have hs' : isSgn g = false := by simpa using hs
    have hf : isEqn g e = false := by simp [isEqn, hs']
    (have F := ai @tmz (ai @eqz (ai @encSgn_u @hs')); refine gR ?_; clear F)
    (have F := @hf; refine gG ?_; exact gT)
  have hg := isSgn_iff.1 hs
  have ei : isEqn g e = eqnB g e := by simp [isEqn, hs]
  rw [ei]
  have cP := con_l13Pair hokg hg hol hor (by omega) (by omega)
  rw [encSgn] at cP
  (have F := ai @tmz (ai @eqz (ai @encSgn_u @hs)); refine gC (cP) ?_; clear F)
  cases hP : pairB g e.l e.r with
  | false =>
    have hf : eqnB g e = false := by simp [eqnB, hP]
    (have F := ai @tmz (ai @eqz (ai @encSgn_u @hs)); refine gR ?_; clear F)
    (have F := @hf; refine gG ?_; exact gT)
  | true =>
    by_cases h1 : e.l.op = -1
    · have hf : eqnB g e = false := by simp [eqnB, h1]
      (have F := ai @tmz (ai @eqz (ai @encSgn_u (ai @hs @h1))); refine gR ?_; clear F)
      (have F := @hf; refine gG ?_; exact gT)
    have h1' : (e.l.op = -1) = False := eq_false h1
    by_cases h2 : e.cs.length <= 2
    rotate_left
    · have hf : eqnB g e = false := by simp [eqnB, h2]
      have h2' : (2 : Int) < (e.cs.length : Int) := by omega
      (have F := ai @tmz (ai @eqz (ai @encSgn_u (ai @hs (ai @h1' @h2')))); refine gR ?_; clear F)
      (have F := @hf; refine gG ?_; exact gT)
    have h2' : ¬ ((2 : Int) < (e.cs.length : Int)) := by omega
    have cV := con_specVars hol (by omega)
    have hvo := okTms_vars hol
    have hvl := varsOf_len e.l
    have cWr := con_l13Within hor hvo (by omega) (by omega)
    (have F := ai @tmz (ai @eqz (ai @encSgn_u (ai @hs (ai @h1' @h2')))); refine gR ?_; clear F)
    (have F := ai @tmz (ai @eqz @encSgn_u); refine gG ?_; clear F)
    refine gB ?_
    (have F := ai @tmz (ai @eqz @encSgn_u); refine gC (cV) ?_; clear F)
    (have F := ai @tmz (ai @eqz @encSgn_u); refine gR ?_; clear F)
    by_cases h3 : (varsOf e.l).length <= 5
    rotate_left
    · have hf : eqnB g e = false := by simp [eqnB, h3]
      have h3' : (5 : Int) < ((varsOf e.l).length : Int) := by omega
      (have F := ai @tmz (ai @eqz (ai @encSgn_u (ai @h3' @hf))); refine gG ?_; exact gT)
    have h3' : ¬ ((5 : Int) < ((varsOf e.l).length : Int)) := by omega
    (have F := ai @tmz (ai @eqz (ai @encSgn_u @h3')); refine gG ?_; clear F)
    refine gB ?_
    (have F := ai @tmz (ai @eqz (ai @encSgn_u @h3')); refine gC (cWr) ?_; clear F)
    cases hW : withB (varsOf e.l) e.r with
    | false =>
      have hf : eqnB g e = false := by simp [eqnB, hW]
      (have F := ai @tmz (ai @eqz (ai @encSgn_u @h3')); refine gR ?_; clear F)
      (have F := @hf; refine gG ?_; exact gT)
    | true =>
      have ea : eqnB g e = e.cs.all (cndB g (varsOf e.l)) := by simp [eqnB, hP, h1, h2, h3, hW]
      rw [ea]
      (have F := ai @tmz (ai @eqz (ai @encSgn_u @h3')); refine gR ?_; clear F)
      (have F := ai @tmz (ai @eqz @encSgn_u); refine gG ?_; clear F)
      generalize varsOf e.l = vs at *
      (have F := @e0P; refine gL (ι := Nat) [4, 6, 7, 49, 77] [] (fun x => [(6, A.d (.one (.lit (.int .i64 x))))]) (fun x => []) (fun x => x <= e.cs.length ∧ (e.cs.take x).all (cndB g vs) = true) (fun x => e.cs.length - x) (0) (⟨Nat.zero_le _, rfl⟩) (fun x hx => ?_); clear F)
      obtain ⟨hxl, hall⟩ := hx
      by_cases hlt : x < e.cs.length
      rotate_left
      · have q1 : ¬ ((x : Int) < (e.cs.length : Int)) := by omega
        obtain rfl : x = e.cs.length := by omega
        rw [List.take_length] at hall
        (have F := ai @tmz (ai @eqz (ai @encSgn_u (ai @q1 @hall))); refine gG ?_; exact gT)
      have q1 : (x : Int) < (e.cs.length : Int) := by omega
      obtain ⟨c, hc⟩ : ∃ a, e.cs[x]? = some a := ⟨_, List.getElem?_eq_getElem hlt⟩
      have hm := List.mem_of_getElem? hc
      have hco := hoc c hm
      have hcb := bulk_cnd hm
      have hw1 := wrap1 (k := x) (by omega)
      have cPc := con_l13Pair hokg hg hco.1 hco.2 (by omega) (by omega)
      rw [encSgn] at cPc
      have cW1 := con_l13Within hco.1 hvo (by omega) (by omega)
      have cW2 := con_l13Within hco.2 hvo (by omega) (by omega)
      (have F := ai @tmz (ai @eqz (ai @encSgn_u (ai @q1 @hc))); refine gG ?_; clear F)
      refine gB ?_
      (have F := ai @tmz (ai @eqz (ai @encSgn_u @hc)); refine gC (cPc) ?_; clear F)
      cases hPc : pairB g c.1 c.2 with
      | false =>
        have hf : e.cs.all (cndB g vs) = false := all_false hm (by simp [cndB, hPc])
        (have F := ai @tmz (ai @eqz @encSgn_u); refine gR ?_; clear F)
        (have F := @hf; refine gG ?_; exact gT)
      | true =>
        (have F := ai @tmz (ai @eqz (ai @encSgn_u @hc)); refine gC (cW1) ?_; clear F)
        cases hW1 : withB vs c.1 with
        | false =>
          have hf : e.cs.all (cndB g vs) = false := all_false hm (by simp [cndB, hW1])
          (have F := ai @tmz (ai @eqz @encSgn_u); refine gR ?_; clear F)
          (have F := @hf; refine gG ?_; exact gT)
        | true =>
          (have F := ai @tmz (ai @eqz (ai @encSgn_u @hc)); refine gC (cW2) ?_; clear F)
          cases hW2 : withB vs c.2 with
          | false =>
            have hf : e.cs.all (cndB g vs) = false := all_false hm (by simp [cndB, hW2])
            (have F := ai @tmz (ai @eqz @encSgn_u); refine gR ?_; clear F)
            (have F := @hf; refine gG ?_; exact gT)
          | true =>
            have hq : x + 1 <= e.cs.length ∧ (e.cs.take (x + 1)).all (cndB g vs) = true := ⟨hlt, by rw [all_take_c hc, hall]; simp [cndB, hPc, hW1, hW2]⟩
            (have F := ai @tmz (ai @eqz @encSgn_u); refine gR ?_; clear F)
            (have F := ai @tmz (ai @eqz (ai @encSgn_u @hw1)); refine gG ?_; exact ⟨x + 1, hq, gw, gw, by omega⟩)
theorem con_hasTerm1 (t a : Tm) : Con e0 188 [.agg (encTm a), .one (.ptr (encTm t))] [.one (.lit (.bool (decide (cmpTm t a = 0))))] := by
  refine gI 15 Tryz.func188 ?_
  (have F := @tmz; refine gG ?_; clear F)
  refine gB ?_
  (have F := @tmz; refine gC (con_implSame t a) ?_; clear F)
  (have F := @tmz; refine gR ?_; clear F)
  (have F := @tmz; refine gG ?_; exact gT)
theorem con_hasTerm (ts : List Tm) (t : Tm) (hl : ts.length <= big) : Con e0 148 [.one (.sl (encTms ts)), .agg (encTm t)] [.one (.lit (.bool (hasB ts t)))] := by
  have c := con_containsFunc (ts := ts) (f := 188) (caps := [.ptr (encTm t)]) (P := fun a => decide (cmpTm t a = 0)) hl fun a _ => con_hasTerm1 t a
  have eh : hasB ts t = ts.any fun a => decide (cmpTm t a = 0) := rfl
  rw [eh]
  refine gI 27 Tryz.func148 ?_
  (have F := @tmz; refine gG ?_; clear F)
  refine gB ?_
  (have F := @tmz; refine gC (c) ?_; clear F)
  (have F := @tmz; refine gR ?_; clear F)
  (have F := @tmz; refine gG ?_; exact gT)
end Go.Proofs.YtkekkmpogmlopaaGreat
namespace Go.Proofs.YtkekkmpogmlopaaGreat
open Go.RowKit
def flatC (cs : List (Tm × Tm)) : List Tm := cs.flatMap fun c => [c.1, c.2]
def AL (e : Eqn) (x : Nat) : List (List C) := encTms (e.r :: flatC (e.cs.take x))
def s6 (e : Eqn) : Nat -> A
  | 0 => .d (.clip (AL e 0))
  | _ + 1 => .buf 6
def m6 (e : Eqn) : Nat -> List (Nat × Bk)
  | 0 => []
  | x + 1 => [(6, .buf none 51 4 (AL e (x + 1)))]
theorem s6_0 (e : Eqn) : s6 e 0 = .d (.clip [encTm e.r]) := by simp [s6, AL, flatC, encTms]
theorem m6_0 (e : Eqn) : m6 e 0 = [] := rfl
theorem s6_s (e : Eqn) (x : Nat) : s6 e (x + 1) = .buf 6 := rfl
theorem m6_s (e : Eqn) (x : Nat) : m6 e (x + 1) = [(6, .buf none 51 4 (AL e (x + 1)))] := rfl
theorem s6_m6 (e : Eqn) (x : Nat) : (s6 e x = .d (.clip (AL e x)) ∧ m6 e x = []) ∨ (s6 e x = .buf 6 ∧ m6 e x = [(6, .buf none 51 4 (AL e x))]) := by
  cases x with
  | zero => exact .inl ⟨rfl, rfl⟩
  | succ x => exact .inr ⟨rfl, rfl⟩
theorem AL_rows (e : Eqn) (x : Nat) : rowsB 4 (AL e x) = true := rb_tm _
theorem flatC_len (cs : List (Tm × Tm)) : (flatC cs).length = 2 * cs.length := by
  induction cs with
  | nil => rfl
  | cons c cs ih => simp only [flatC, List.flatMap_cons, List.length_append, List.length_cons, List.length_nil] at ih ⊢; omega
theorem AL_len (e : Eqn) (x : Nat) : (AL e x).length <= 1 + 2 * e.cs.length := by
  rw [AL, encTms_len, List.length_cons, flatC_len, List.length_take]; omega
theorem AL_step {e : Eqn} {x : Nat} {c : Tm × Tm} (h : e.cs[x]? = some c) : AL e x ++ [encTm c.1, encTm c.2] = AL e (x + 1) := by
  have h1 : flatC (e.cs.take (x + 1)) = flatC (e.cs.take x) ++ [c.1, c.2] := by
    rw [List.take_add_one, h]; simp [flatC]
  rw [AL, AL, h1, <- List.cons_append, encTms_app]
  simp [encTms]
theorem cnd_all {g : Sgn} {vs : List Tm} : ∀ {cs : List (Tm × Tm)}, (cs.all fun c => pairB g c.1 c.2) = true -> cs.all (cndB g vs) = (flatC cs).all (withB vs)
  | [], _ => rfl
  | c :: cs, h => by
    simp only [List.all_cons, Bool.and_eq_true] at h
    have ih := cnd_all (vs := vs) h.2
    rw [List.all_cons, ih, cndB, h.1, Bool.true_and]
    simp [flatC, List.all_cons, Bool.and_assoc]
theorem pair_l {g : Sgn} {l r : Tm} (h : pairB g l r = true) : isTerm g l = true := by simp only [pairB, Bool.and_eq_true] at h; exact h.1
theorem pair_r {g : Sgn} {l r : Tm} (h : pairB g l r = true) : isTerm g r = true := by simp only [pairB, Bool.and_eq_true] at h; exact h.2.1
theorem flat_term {g : Sgn} : ∀ {cs : List (Tm × Tm)}, (cs.all fun c => pairB g c.1 c.2) = true -> ∀ t ∈ flatC cs, isTerm g t = true
  | [], _, t, ht => by simp [flatC] at ht
  | c :: cs, h, t, ht => by
    simp only [List.all_cons, Bool.and_eq_true] at h
    simp only [flatC, List.flatMap_cons, List.mem_append, List.mem_cons, List.not_mem_nil, or_false] at ht
    rcases ht with (rfl | rfl) | ht
    · exact pair_l h.1
    · exact pair_r h.1
    · exact flat_term h.2 t ht
theorem op_neg {g : Sgn} {t : Tm} (h : isTerm g t = true) : t.op < 0 ↔ t.op = -1 := by
  rcases (isTerm_iff.1 h).form.node with hn | ⟨o, d, hn⟩
  · have := hn.1; omega
  · have := hn.lo; omega
noncomputable def eqnR (g : Sgn) (e : Eqn) (vs : List Tm) : Bool := decide (vs.length <= 5) && (withB vs e.r && e.cs.all (cndB g vs))
section
variable {g : Sgn} {mc : C}
set_option maxHeartbeats 16000000 in
set_option maxRecDepth 100000 in
theorem con_algEqn (hg : SgnOk g) {e : Eqn} (he : okEqn e) (hb : bulkRow (encEqn e) <= 1048576) : Con e0 88 [.one (.ptr (encX g mc)), .agg (encEqn e)] [.one (.lit (.bool (eqnB g e)))] := by
  rw [bulk_eqn] at hb
  obtain ⟨hol, hor, hoc⟩ := he
  have cT := fun (t : Tm) (h : okTm t) (hb : bulkRow (encTm t) <= 1048576) => con_implIsT (mc := mc) hg h (big_of_bulk hb)
  have cK := fun (t : Tm) (h : isTerm g t = true) => con_kindOf (mc := mc) hg (isTerm_iff.1 h).form.node
  refine gI 334100219233902667600601412539771 Tryz.func88 ?_
  (have F := ai @tmz @eqz; refine gG ?_; clear F)
  refine gB ?_
  (have F := ai @tmz @eqz; refine gC (cT e.l hol (by omega)) ?_; clear F)
  cases hL : isTerm g e.l with
  | false =>
    have hf : eqnB g e = false := by simp [eqnB, pairB, hL]
    (have F := ai @tmz @eqz; refine gR ?_; clear F)
    (have F := @hf; refine gG ?_; exact gT)
  | true =>
  (have F := ai @tmz @eqz; refine gC (cT e.r hor (by omega)) ?_; clear F)
  cases hR : isTerm g e.r with
  | false =>
    have hf : eqnB g e = false := by simp [eqnB, pairB, hR]
    (have F := ai @tmz @eqz; refine gR ?_; clear F)
    (have F := @hf; refine gG ?_; exact gT)
  | true =>
  (have F := ai @tmz @eqz; refine gC (cK e.l hL) ?_; clear F)
  (have F := ai @tmz @eqz; refine gC (cK e.r hR) ?_; clear F)
  by_cases hk : kindTm g e.l = kindTm g e.r
  rotate_left
  · have hf : eqnB g e = false := by simp [eqnB, pairB, hk]
    have hk' : (kindTm g e.l = kindTm g e.r) = False := eq_false hk
    (have F := ai @tmz (ai @eqz @hk'); refine gR ?_; clear F)
    (have F := @hf; refine gG ?_; exact gT)
  have hk' : (kindTm g e.l = kindTm g e.r) = True := eq_true hk
  have hP : pairB g e.l e.r = true := by simp [pairB, hL, hR, hk]
  by_cases h1 : e.l.op = -1
  · have hf : eqnB g e = false := by simp [eqnB, h1]
    have h1' : (e.l.op < 0) = True := eq_true (by omega)
    (have F := ai @tmz (ai @eqz (ai @hk' @h1')); refine gR ?_; clear F)
    (have F := @hf; refine gG ?_; exact gT)
  have h1' : (e.l.op < 0) = False := eq_false fun h => h1 ((op_neg hL).1 h)
  by_cases h2 : e.cs.length <= 2
  rotate_left
  · have hf : eqnB g e = false := by simp [eqnB, h2]
    have h2' : ((2 : Int) < (e.cs.length : Int)) = True := eq_true (by omega)
    (have F := ai @tmz (ai @eqz (ai @hk' (ai @h1' @h2'))); refine gR ?_; clear F)
    (have F := @hf; refine gG ?_; exact gT)
  have h2' : ((2 : Int) < (e.cs.length : Int)) = False := eq_false (by omega)
  have ea : eqnB g e = eqnR g e (varsOf e.l) := by simp [eqnB, eqnR, hP, h1, h2]
  rw [ea]
  clear ea
  have cV := con_implVars e.l (term_bulk hL)
  have hvl := varsOf_len e.l
  (have F := ai @tmz (ai @eqz (ai @hk' (ai @h1' @h2'))); refine gR ?_; clear F)
  (have F := ai @tmz @eqz; refine gG ?_; clear F)
  refine gB ?_
  (have F := ai @tmz @eqz; refine gC (cV) ?_; clear F)
  (have F := ai @tmz @eqz; refine gR ?_; clear F)
  generalize varsOf e.l = vs at *
  have hvb : vs.length <= big := by unfold big; omega
  (have F := ai @tmz @eqz; refine gG ?_; clear F)
  have F := ai (s6_0 e) (m6_0 e)
  refine gL (ι := Nat) [4, 6, 8, 57, 58, 83] [6] (fun x => [(57, A.d (.one (.lit (.int .i64 x)))), (6, s6 e x)]) (fun x => m6 e x) (fun x => x <= e.cs.length ∧ ((e.cs.take x).all fun c => pairB g c.1 c.2) = true) (fun x => e.cs.length - x) 0 ⟨Nat.zero_le _, rfl⟩ (fun x hx => ?_) (hmm := fun x => rfl)
  clear F
  obtain ⟨hxl, hall⟩ := hx
  rcases s6_m6 e x with ⟨es, em⟩ | ⟨es, em⟩
  all_goals (
    simp only [es, em, List.nil_append, List.cons_append]
    clear es em
    by_cases hlt : x < e.cs.length
    · have q1 : (x : Int) < (e.cs.length : Int) := by omega
      obtain ⟨c, hc⟩ : ∃ a, e.cs[x]? = some a := ⟨_, List.getElem?_eq_getElem hlt⟩
      have hm := List.mem_of_getElem? hc
      have hco := hoc c hm
      have hcb := bulk_cnd hm
      have hw1 := wrap1 (k := x) (by omega)
      have hst := AL_step hc
      have hrb := AL_rows e x
      have hal := AL_len e x
      have hmx : (AL e x).length + 2 <= maxApp := by unfold maxApp; omega
      have es1 := s6_s e x
      have em1 := m6_s e x
      have hcf : pairB g c.1 c.2 = false -> eqnR g e vs = false := fun h => by
        have : e.cs.all (cndB g vs) = false := all_false hm (by simp [cndB, h])
        simp [eqnR, this]
      (have F := ai @tmz (ai @eqz (ai @q1 @hc)); refine gG ?_; clear F)
      refine gB ?_
      (have F := ai @tmz @eqz; refine gC (cT c.1 hco.1 (by omega)) ?_; clear F)
      cases hL1 : isTerm g c.1 with
      | false =>
        have hf := hcf (by simp [pairB, hL1])
        (have F := ai @tmz @eqz; refine gR ?_; clear F)
        (have F := @hf; refine gG ?_; exact gT)
      | true =>
      (have F := ai @tmz @eqz; refine gC (cT c.2 hco.2 (by omega)) ?_; clear F)
      cases hR1 : isTerm g c.2 with
      | false =>
        have hf := hcf (by simp [pairB, hR1])
        (have F := ai @tmz @eqz; refine gR ?_; clear F)
        (have F := @hf; refine gG ?_; exact gT)
      | true =>
      (have F := ai @tmz @eqz; refine gC (cK c.1 hL1) ?_; clear F)
      (have F := ai @tmz @eqz; refine gC (cK c.2 hR1) ?_; clear F)
      by_cases hk1 : kindTm g c.1 = kindTm g c.2
      rotate_left
      · have hf := hcf (by simp [pairB, hk1])
        have hk1' : (kindTm g c.1 = kindTm g c.2) = False := eq_false hk1
        (have F := ai @tmz (ai @eqz @hk1'); refine gR ?_; clear F)
        (have F := @hf; refine gG ?_; exact gT)
      have hk1' : (kindTm g c.1 = kindTm g c.2) = True := eq_true hk1
      have hPc : pairB g c.1 c.2 = true := by simp [pairB, hL1, hR1, hk1]
      have hq : x + 1 <= e.cs.length ∧ ((e.cs.take (x + 1)).all fun c => pairB g c.1 c.2) = true := ⟨hlt, by rw [all_take_c hc, hall, hPc]; rfl⟩
      (have F := ai @tmz (ai @eqz @hk1'); refine gR ?_; clear F)
      (have F := ai @tmz (ai @eqz (ai @hw1 (ai @hst (ai @hrb (ai @hmx (ai @es1 @em1)))))); refine gG ?_; exact ⟨x + 1, hq, gw, gw, by omega⟩)
    obtain rfl : x = e.cs.length := by omega
    have q1 : ¬ ((e.cs.length : Int) < (e.cs.length : Int)) := by omega
    rw [List.take_length] at hall
    have eA : AL e e.cs.length = encTms (e.r :: flatC e.cs) := by rw [AL, List.take_length]
    rw [eA]
    have er : eqnR g e vs = (decide (vs.length <= 5) && (e.r :: flatC e.cs).all (withB vs)) := by rw [eqnR, cnd_all hall, List.all_cons]
    rw [er]
    have hall2 : ∀ t ∈ e.r :: flatC e.cs, isTerm g t = true := fun t ht => by
      rcases List.mem_cons.1 ht with rfl | ht
      · exact hR
      · exact flat_term hall t ht
    have hsl : (e.r :: flatC e.cs).length <= 5 := by rw [List.length_cons, flatC_len]; omega
    generalize e.r :: flatC e.cs = all at *
    (have F := ai @tmz (ai @eqz @q1); refine gG ?_; clear F)
    (have F := @e0P; refine gL (ι := Nat) [4, 10, 12, 94, 95, 99, 100, 101, 102, 108] [] (fun y => [(94, A.d (.one (.lit (.int .i64 y))))]) (fun y => []) (fun y => y <= all.length ∧ (all.take y).all (withB vs) = true) (fun y => all.length - y) (0) (⟨Nat.zero_le _, rfl⟩) (fun y hy => ?_); clear F)
    obtain ⟨hyl, hally⟩ := hy
    by_cases hlt2 : y < all.length
    rotate_left
    · have q2 : ¬ ((y : Int) < (all.length : Int)) := by omega
      obtain rfl : y = all.length := by omega
      rw [List.take_length] at hally
      have e5 : decide ((vs.length : Int) <= 5) = decide (vs.length <= 5) := by rw [decide_eq_decide]; omega
      (have F := ai @tmz (ai @q2 (ai @hally @e5)); refine gG ?_; exact gT)
    have q2 : (y : Int) < (all.length : Int) := by omega
    obtain ⟨t, ht⟩ : ∃ a, all[y]? = some a := ⟨_, List.getElem?_eq_getElem hlt2⟩
    have hw2 := wrap1 (k := y) (by omega)
    have hmt := List.mem_of_getElem? ht
    have cVt := con_implVars t (term_bulk (hall2 t hmt))
    have hus := varsOf_len t
    have hub := term_bulk (hall2 t hmt)
    have eW : withB vs t = (varsOf t).all (hasB vs) := rfl
    (have F := ai @tmz (ai @q2 (ai @hlt2 @ht)); refine gG ?_; clear F)
    refine gB ?_
    (have F := ai @tmz (ai @hlt2 @ht); refine gC (cVt) ?_; clear F)
    (have F := @tmz; refine gR ?_; clear F)
    (have F := @tmz; refine gG ?_; clear F)
    generalize varsOf t = us at *
    (have F := @e0P; refine gL (ι := Nat) [4, 12, 101, 102, 108] [] (fun z => [(101, A.d (.one (.lit (.int .i64 z))))]) (fun z => []) (fun z => z <= us.length ∧ (us.take z).all (hasB vs) = true) (fun z => us.length - z) (0) (⟨Nat.zero_le _, rfl⟩) (fun z hz => ?_); clear F)
    obtain ⟨hzl, hallz⟩ := hz
    by_cases hlt3 : z < us.length
    rotate_left
    · have q3 : ¬ ((z : Int) < (us.length : Int)) := by omega
      obtain rfl : z = us.length := by omega
      rw [List.take_length] at hallz
      have hq : y + 1 <= all.length ∧ (all.take (y + 1)).all (withB vs) = true := ⟨hlt2, by rw [all_take_c ht, hally, eW, hallz]; rfl⟩
      (have F := ai @tmz (ai @q3 @hw2); refine gG ?_; exact ⟨y + 1, hq, gw, gw, by omega⟩)
    have q3 : (z : Int) < (us.length : Int) := by omega
    obtain ⟨v, hv⟩ : ∃ a, us[z]? = some a := ⟨_, List.getElem?_eq_getElem hlt3⟩
    have hw3 := wrap1 (k := z) (by omega)
    (have F := ai @tmz (ai @q3 @hv); refine gG ?_; clear F)
    refine gB ?_
    (have F := @tmz; refine gC (con_hasTerm vs v hvb) ?_; clear F)
    cases hh : hasB vs v with
    | false =>
      have hf : all.all (withB vs) = false := all_false hmt (by rw [eW]; exact all_false (List.mem_of_getElem? hv) hh)
      (have F := @tmz; refine gR ?_; clear F)
      (have F := @hf; refine gG ?_; exact gT)
    | true =>
      have hq : z + 1 <= us.length ∧ (us.take (z + 1)).all (hasB vs) = true := ⟨hlt3, by rw [all_take_c hv, hallz, hh]; rfl⟩
      (have F := @tmz; refine gR ?_; clear F)
      (have F := ai @tmz @hw3; refine gG ?_; exact ⟨z + 1, hq, gw, gw, by omega⟩))
end
end Go.Proofs.YtkekkmpogmlopaaGreat
namespace Go.Proofs.YtkekkmpogmlopaaGreat
open Go.Shelf
def growE_ren : Ren := ⟨fun | 4 => 146 | n => n, fun | 22 => 45 | 25 => 88 | 3 => 3 | 4 => 4 | 9 => 9 | 20 => 20 | 0 => 0 | n => n, fun | n => n⟩
theorem growE : Go.Proofs.Lays8.n4 Tryz.prog growE_ren := {
  mixed := by kernel_rfl,
  f4 := ⟨Tryz.f146.name, by decide, Tryz.func146.trans (congrArg some (by kernel_rfl))⟩,
  t0 := Tryz.underlying0,
  a0 := Tryz.isAgg0,
  z0 := Tryz.sizeOf0,
  v0 := Tryz.zeroValue0,
  t3 := Tryz.underlying3,
  a3 := Tryz.isAgg3,
  z3 := Tryz.sizeOf3,
  v3 := Tryz.zeroValue3,
  t4 := Tryz.underlying4,
  a4 := Tryz.isAgg4,
  z4 := Tryz.sizeOf4,
  v4 := Tryz.zeroValue4,
  t9 := Tryz.underlying9,
  a9 := Tryz.isAgg9,
  z9 := Tryz.sizeOf9,
  v9 := Tryz.zeroValue9,
  t20 := Tryz.underlying20,
  a20 := Tryz.isAgg20,
  z20 := Tryz.sizeOf20,
  v20 := Tryz.zeroValue20,
  t22 := Tryz.underlying45,
  a22 := Tryz.isAgg45,
  z22 := Tryz.sizeOf45,
  v22 := Tryz.zeroValue45 }
end Go.Proofs.YtkekkmpogmlopaaGreat
namespace Go.Proofs.YtkekkmpogmlopaaGreat
open Go.RowKit
theorem conR_growOf {ρ : Go.Shelf.Ren} (L : Go.Proofs.Lays8.n4 Tryz.prog ρ) {ts ety sz by' : Nat} (he : ρ.t 25 = ety) (hb : bytesT Tryz.prog ts = some (ety, sz, by')) (hby : by' <= 4096) (hf : hasBody Tryz.prog (ρ.f 4) = true) {n : Nat} (h0 : 0 < n) (h1 : n <= 1000000) : ConR e0 (ρ.f 4) [.clip [], .one (.lit (.int .i64 n))] ety sz [] := by
  subst he
  refine ⟨hf, fun w S vs hS hE hG hv => ?_⟩
  obtain ⟨i, z, hu, hi, hz, hsz, hby', hzs, hs0, hb4⟩ := bytesT_spec hb
  match vs, hv with
  | [v, u], hv =>
    obtain ⟨⟨⟨A, n', cap, hvA, hn', _⟩, b, k, hbk⟩, h2, _⟩ := hv
    have h2 : u = .int .i64 n := by simpa [DRel, Rep] using h2
    subst h2
    have hk : k = 0 := by
      rw [hbk] at hvA
      obtain ⟨_, e1, e2⟩ := by simpa only [Value.slice.injEq] using hvA
      simp at hn'
      omega
    subst hk hbk
    have h := Any8.slices_Grow_grow L i z hi hz (by omega) b 0 0 n [] w (Nat.le_refl _) (by omega) (by
      have : (0 + n) * i.bytes <= 1000000 * 4096 := Nat.mul_le_mul (by omega) (by omega)
      omega) (by omega) (by simp) (fun _ => rfl) (fun a _ j v hj => by simp at hj)
    refine h.mono fun en w' ⟨h3, h4⟩ => ?_
    have hge := grownCap_ge w (0 + n) 0 (ρ.t 25)
    have hle := grownCap_le_maxLen w (0 + n) 0 (ρ.t 25) (by unfold maxLen; omega)
    generalize grownCap w (0 + n) 0 (ρ.t 25) = G at h3 h4 hge hle
    have hne : G ≠ 0 := by omega
    have hvb : vblk (.slice (some ⟨w.heap.size, 0, none⟩) 0 G) = some w.heap.size := by simp [vblk, hne]
    subst h4
    have hk : Kept e0.D (fun b => (none : Option Nat) = some b) w.heap.size w (w.drew.alloc (.cells (([] : List Value).toArray ++ Builtin.zeroCells z.cells (0 + n - 0) ++ Builtin.zeroCells z.cells (G - (0 + n))) (ρ.t 25))) :=
      ⟨rfl, rfl, rfl, fun _ => Nat.le_succ _, by simp, fun k hk _ => heap_alloc_old w.drew _ hk⟩
    have hheap := heap_alloc_new w.drew (.cells (([] : List Value).toArray ++ Builtin.zeroCells z.cells (0 + n - 0) ++ Builtin.zeroCells z.cells (G - (0 + n))) (ρ.t 25))
    refine ⟨_, h3, ⟨hk.os, hk.tape, hk.output, hk.drawn, hk.size, fun b hb _ => hk.block b hb (by simp)⟩, trivial, fun g hg => ?_, ?_⟩
    · rw [hvb] at hg
      injection hg with hg
      omega
    · refine ⟨by omega, fun r hr => by simp at hr, .inr ⟨w.heap.size, G, _, rfl, by omega, by simp, fun h => h.2 hvb, hheap, by simp, hle, ?_, by simp [RepRows]⟩⟩
      simp only [Array.size_append, size_zeroCells, hzs, List.size_toArray, List.length_nil, Nat.zero_add, Nat.sub_zero, <- Nat.add_mul]
      rw [show n + (G - n) = G by omega]
theorem con_growRoom {ρ : Go.Shelf.Ren} (L : Go.Proofs.Lays8.n4 Tryz.prog ρ) (hf : hasBody Tryz.prog (ρ.f 4) = true) {n : Nat} (h0 : n = 0) : Con e0 (ρ.f 4) [.clip [], .one (.lit (.int .i64 n))] [.clip []] := by
  subst h0
  refine ⟨hf, fun w S vs hS hE hG hv => ?_⟩
  match vs, hv with
  | [v, u], hv =>
    obtain ⟨⟨⟨A, n', cap, hvA, hn', hr⟩, b, k, hbk⟩, h2, _⟩ := hv
    have h2 : u = .int .i64 ((0 : Nat) : Int) := by simpa [DRel, Rep] using h2
    subst h2
    have hk : k = 0 := by
      rw [hbk] at hvA
      obtain ⟨_, e1, e2⟩ := by simpa only [Value.slice.injEq] using hvA
      simp at hn'
      omega
    subst hk hbk
    have h := Any8.slices_Grow_room L b 0 0 0 w (Nat.le_refl _) (by omega) (by omega) (by omega)
    refine h.mono fun en w' ⟨h3, h4⟩ => ?_
    subst h4
    refine ⟨_, h3, ⟨rfl, rfl, rfl, fun _ => Nat.le_refl _, Nat.le_refl _, fun k hk _ => rfl⟩, hG, ?_⟩
    simp only [retA, ARel, DRel, Rep]
    exact ⟨⟨b, 0, 0, rfl, by simp, by simp, by simp, fun h => absurd h (by simp)⟩, b, 0, rfl⟩
theorem con_growE0 {n : Nat} (h0 : n = 0) : Con e0 146 [.clip [], .one (.lit (.int .i64 n))] [.clip []] := con_growRoom growE (by kernel_rfl) h0
theorem conR_growE {n : Nat} (h0 : 0 < n) (h1 : n <= 1000000) : ConR e0 146 [.clip [], .one (.lit (.int .i64 n))] 88 9 [] :=
  conR_growOf growE (ts := 45) (by' := 136) rfl (by kernel_rfl) (by decide) (by kernel_rfl) h0 h1
end Go.Proofs.YtkekkmpogmlopaaGreat
namespace Go.Proofs.YtkekkmpogmlopaaGreat
open Go.RowKit
def totR (rs : List (List (List C))) (x : Nat) : Nat := (rs.take x).flatten.length
def flR (rs : List (List (List C))) (x : Nat) : List (List C) := (rs.take x).flatten
theorem totR_0 (rs : List (List (List C))) : totR rs 0 = 0 := by simp [totR]
theorem flR_0 (rs : List (List (List C))) : flR rs 0 = [] := by simp [flR]
theorem flR_step {rs : List (List (List C))} {x : Nat} {r : List (List C)} (h : rs[x]? = some r) : flR rs x ++ r = flR rs (x + 1) := by
  simp [flR, List.take_add_one, h]
theorem totR_step {rs : List (List (List C))} {x : Nat} {r : List (List C)} (h : rs[x]? = some r) : totR rs (x + 1) = totR rs x + r.length := by
  have := flR_step h
  simp only [totR, flR] at this ⊢
  rw [<- this, List.length_append]
theorem totR_le (rs : List (List (List C))) (x : Nat) : totR rs x <= rs.flatten.length := by
  have : rs.flatten = (rs.take x).flatten ++ (rs.drop x).flatten := by rw [<- List.flatten_append, List.take_append_drop]
  rw [totR, this, List.length_append]; omega
theorem rb_sls (rs : List (List (List C))) : rowsB 1 (rs.map fun r => [C.sl r]) = true := by
  induction rs with
  | nil => rfl
  | cons r rs ih => simp [rowsB_cons, ih, okCell]
set_option maxHeartbeats 8000000 in
set_option maxRecDepth 100000 in
theorem con_concatE (rs : List (List (List C))) (hr : ∀ r ∈ rs, rowsB 9 r = true) (hn : rs.length <= 1000) (hl : rs.flatten.length <= 1000000) : Con e0 87 [.one (.sl (rs.map fun r => [.sl r]))] [.one (.sl rs.flatten)] := by
  have rb := rb_sls rs
  refine gI 504373101 Tryz.func87 ?_
  (have F := @tmz; refine gG ?_; clear F)
  (have F := ((totR_0 rs)); refine gL (ι := Nat) [3, 5, 11, 12, 20] [] (fun x => [(3, A.d (.one (.lit (.int .i64 (totR rs x))))), (11, A.d (.one (.lit (.int .i64 x))))]) (fun x => []) (fun x => x <= rs.length) (fun x => rs.length - x) (0) (Nat.zero_le _) (fun x hx => ?_); clear F)
  by_cases hlt : x < rs.length
  · have q1 : (x : Int) < (rs.length : Int) := by omega
    obtain ⟨r, hx1⟩ : ∃ a, rs[x]? = some a := ⟨_, List.getElem?_eq_getElem hlt⟩
    have hw1 := wrap1 (k := x) (by omega)
    have hts := totR_step hx1
    have htl := totR_le rs (x + 1)
    have hw2 : IntKind.i64.wrap ((totR rs x : Int) + (r.length : Int)) = (totR rs (x + 1) : Int) := by rw [IntWalk.i64_in _ (by omega)]; omega
    have hn2 : ¬ ((totR rs (x + 1) : Int) < 0) := by omega
    (have F := ai @tmz (ai @rb (ai @q1 (ai @hx1 (ai @hw1 (ai @hw2 @hn2))))); refine gG ?_; exact ⟨x + 1, hlt, gw, gw, by omega⟩)
  obtain rfl : x = rs.length := by omega
  have q1 : ¬ ((rs.length : Int) < (rs.length : Int)) := by omega
  have htt : totR rs rs.length = rs.flatten.length := by simp [totR]
  (have F := ai @tmz @q1; refine gG ?_; clear F)
  refine gB ?_
  have hfin : flR rs rs.length = rs.flatten := by simp [flR]
  rcases Nat.eq_zero_or_pos (totR rs rs.length) with h0 | h0
  (have F := @tmz; refine gC (con_growE0 h0) ?_; clear F)
  rotate_left
  (have F := @tmz; refine gCR (conR_growE h0 (by omega)) ?_; clear F)
  all_goals (
    (have F := @tmz; refine gR ?_; clear F)
    (have F := @tmz; refine gG ?_; clear F)
    (have F := ((flR_0 rs)); refine gL (ι := Nat) [6, 8, 27, 28] [6] (fun y => [(6, .buf 6), (27, A.d (.one (.lit (.int .i64 y))))]) (fun y => [(6, .buf none 88 9 (flR rs y))]) (fun y => y <= rs.length) (fun y => rs.length - y) (0) (Nat.zero_le _) (fun y hy => ?_); clear F)
    by_cases hlt : y < rs.length
    · have q2 : (y : Int) < (rs.length : Int) := by omega
      obtain ⟨r, hy1⟩ : ∃ a, rs[y]? = some a := ⟨_, List.getElem?_eq_getElem hlt⟩
      have hw1 := wrap1 (k := y) (by omega)
      have hrr := hr r (List.mem_of_getElem? hy1)
      have hst := flR_step hy1
      have htl := totR_le rs (y + 1)
      have hlen : (flR rs y).length + r.length <= maxApp := by
        rw [<- List.length_append, hst]
        unfold maxApp
        have : (flR rs (y + 1)).length = totR rs (y + 1) := rfl
        omega
      (have F := ai @tmz (ai @rb (ai @q2 (ai @hy1 (ai @hw1 (ai @hrr (ai @hst @hlen)))))); refine gG ?_; exact ⟨y + 1, hlt, gw, gw, by omega⟩)
    obtain rfl : y = rs.length := by omega
    have q2 : ¬ ((rs.length : Int) < (rs.length : Int)) := by omega
    rw [hfin]
    (have F := ai @tmz @q2; refine gG ?_; exact gTz [2]))
end Go.Proofs.YtkekkmpogmlopaaGreat
namespace Go.Proofs.YtkekkmpogmlopaaGreat
open Go.RowKit
structure Mdl where
  sig : Sgn
  eqs : List Eqn
  rules : List Eqn
def encMdl (m : Mdl) : List C := [.sl (m.sig.sorts.names.map encStr), .sl (m.sig.sorts.subs.map encSub), .sl (m.sig.ops.map encOpr), .sl (m.eqs.map encEqn), .sl (m.rules.map encEqn)]
def okMdl (m : Mdl) : Prop := okSgn m.sig ∧ (∀ e ∈ m.eqs, okEqn e) ∧ ∀ e ∈ m.rules, okEqn e
theorem decEqns : ∀ {rows : List (List C)}, okRows (fieldsOf .eqn) rows -> ∃ l : List Eqn, rows = l.map encEqn ∧ ∀ e ∈ l, okEqn e
  | [], _ => ⟨[], rfl, by simp⟩
  | r :: rs, h => by
    simp only [okRows] at h
    obtain ⟨c, rfl, hc⟩ := decEqn h.1
    obtain ⟨cs, rfl, hcs⟩ := decEqns h.2
    exact ⟨c :: cs, rfl, by intro x hx; rcases List.mem_cons.1 hx with rfl | hx; exact hc; exact hcs x hx⟩
theorem decMod {row : List C} (h : okRow moduleF row) : ∃ m, row = encMdl m ∧ okMdl m := by
  obtain ⟨r0, r1, r2, r3, r4, rfl, g0, g1, g2, g3, g4⟩ := okRow_Module h
  obtain ⟨s, hs, hok⟩ := decSgn (mkRow_Signature g0 g1 g2)
  obtain ⟨es, rfl, hes⟩ := decEqns g3
  obtain ⟨us, rfl, hus⟩ := decEqns g4
  rw [encSgn] at hs
  injection hs with e0 hs
  injection hs with e1 hs
  injection hs with e2 hs
  exact ⟨⟨s, es, us⟩, by rw [encMdl, e0, e1, e2], hok, hes, hus⟩
theorem eqn_rows (l : List Eqn) : rowsB 9 (l.map encEqn) = true := by
  induction l with
  | nil => rfl
  | cons e l ih => simp only [List.map_cons, rowsB_cons, eq_len, ih, eq_ok]; rfl
noncomputable def hasEq (m : Mdl) : Bool := decide (m.eqs.length <= 16) && (decide (m.rules.length <= 16) && (m.eqs.all (eqnB m.sig) && m.rules.all (eqnB m.sig)))
noncomputable def isMdl (m : Mdl) : Bool := isSgn m.sig && hasEq m
theorem bulk_mdl (m : Mdl) : bulkRow (encMdl m) = bulkRow (encSgn m.sig) + (m.eqs.length + bulkRows (m.eqs.map encEqn) + (m.rules.length + bulkRows (m.rules.map encEqn))) := by
  simp only [encMdl, encSgn, bulkRow, bulkC, List.length_map]
  omega
theorem bulk_eq_mem {l : List Eqn} {e : Eqn} (h : e ∈ l) : bulkRow (encEqn e) <= bulkRows (l.map encEqn) := by
  obtain ⟨i, hi⟩ := List.getElem?_of_mem h
  have : (l.map encEqn)[i]? = some (encEqn e) := by rw [List.getElem?_map, hi]; rfl
  exact bulk_get this
set_option maxHeartbeats 8000000 in
set_option maxRecDepth 100000 in
theorem con_specMod {m : Mdl} (hm : okMdl m) (hb : bulkRow (encMdl m) <= 1048576) : Con e0 37 [.agg (encMdl m)] [.one (.lit (.bool (isMdl m)))] := by
  rw [bulk_mdl] at hb
  obtain ⟨hokg, hoe, hou⟩ := hm
  have cS := con_specSgn hokg
  rw [encSgn] at cS
  have cE := fun (e : Eqn) (he : okEqn e) (hb : bulkRow (encEqn e) <= 1048576) => con_specEqn hokg he hb
  rw [encSgn] at cE
  have er := eqn_rows
  have ed : encMdl m = [.sl (m.sig.sorts.names.map encStr), .sl (m.sig.sorts.subs.map encSub), .sl (m.sig.ops.map encOpr), .sl (m.eqs.map encEqn), .sl (m.rules.map encEqn)] := rfl
  rw [ed]
  refine gI 4505867404705823 Tryz.func37 ?_
  (have F := ai @tmz (ai @eqz @er); refine gG ?_; clear F)
  refine gB ?_
  (have F := @tmz; refine gC (cS) ?_; clear F)
  by_cases hs : isSgn m.sig = true
  rotate_left
  · have hs' : isSgn m.sig = false := by simpa using hs
    have hf : isMdl m = false := by simp [isMdl, hs']
    (have F := ai @tmz @hs'; refine gR ?_; clear F)
    (have F := @hf; refine gG ?_; exact gT)
  by_cases h1 : m.eqs.length <= 16
  rotate_left
  · have hf : isMdl m = false := by simp [isMdl, hasEq, h1]
    have h1' : (16 : Int) < (m.eqs.length : Int) := by omega
    (have F := ai @tmz (ai @hs @h1'); refine gR ?_; clear F)
    (have F := @hf; refine gG ?_; exact gT)
  have h1' : ¬ ((16 : Int) < (m.eqs.length : Int)) := by omega
  by_cases h2 : m.rules.length <= 16
  rotate_left
  · have hf : isMdl m = false := by simp [isMdl, hasEq, h2]
    have h2' : (16 : Int) < (m.rules.length : Int) := by omega
    (have F := ai @tmz (ai @hs (ai @h1' @h2')); refine gR ?_; clear F)
    (have F := @hf; refine gG ?_; exact gT)
  have h2' : ¬ ((16 : Int) < (m.rules.length : Int)) := by omega
  have ei : isMdl m = (m.eqs.all (eqnB m.sig) && m.rules.all (eqnB m.sig)) := by simp [isMdl, hasEq, hs, h1, h2]
  rw [ei]
  have eq' : ∀ e, isEqn m.sig e = eqnB m.sig e := fun e => by simp [isEqn, hs]
  (have F := ai @tmz (ai @hs (ai @h1' @h2')); refine gR ?_; clear F)
  (have F := ai @tmz (ai @eqz @er); refine gG ?_; clear F)
  (have F := @e0P; refine gL (ι := Nat) [2, 3, 25, 36] [] (fun x => [(3, A.d (.one (.lit (.int .i64 x))))]) (fun x => []) (fun x => x <= m.eqs.length ∧ (m.eqs.take x).all (eqnB m.sig) = true) (fun x => m.eqs.length - x) (0) (⟨Nat.zero_le _, rfl⟩) (fun x hx => ?_); clear F)
  obtain ⟨hxl, hall⟩ := hx
  by_cases hlt : x < m.eqs.length
  · have q1 : (x : Int) < (m.eqs.length : Int) := by omega
    obtain ⟨c, hc⟩ : ∃ a, m.eqs[x]? = some a := ⟨_, List.getElem?_eq_getElem hlt⟩
    have hmm := List.mem_of_getElem? hc
    have hw1 := wrap1 (k := x) (by omega)
    have hbb := bulk_eq_mem hmm
    (have F := ai @tmz (ai @eqz (ai @er (ai @q1 @hc))); refine gG ?_; clear F)
    refine gB ?_
    (have F := ai @tmz (ai @eqz (ai @er @hc)); refine gC (cE c (hoe c hmm) (by omega)) ?_; clear F)
    rw [eq' c]
    cases hh : eqnB m.sig c with
    | false =>
      have hf : m.eqs.all (eqnB m.sig) = false := all_false hmm hh
      (have F := @tmz; refine gR ?_; clear F)
      (have F := @hf; refine gG ?_; exact gT)
    | true =>
      have hq : x + 1 <= m.eqs.length ∧ (m.eqs.take (x + 1)).all (eqnB m.sig) = true := ⟨hlt, by rw [all_take_c hc, hall, hh]; rfl⟩
      (have F := @tmz; refine gR ?_; clear F)
      (have F := ai @tmz @hw1; refine gG ?_; exact ⟨x + 1, hq, gw, gw, by omega⟩)
  obtain rfl : x = m.eqs.length := by omega
  have q1 : ¬ ((m.eqs.length : Int) < (m.eqs.length : Int)) := by omega
  rw [List.take_length] at hall
  rw [hall, Bool.true_and]
  (have F := ai @tmz (ai @eqz (ai @er @q1)); refine gG ?_; clear F)
  (have F := @e0P; refine gL (ι := Nat) [2, 4, 41, 52] [] (fun y => [(4, A.d (.one (.lit (.int .i64 y))))]) (fun y => []) (fun y => y <= m.rules.length ∧ (m.rules.take y).all (eqnB m.sig) = true) (fun y => m.rules.length - y) (0) (⟨Nat.zero_le _, rfl⟩) (fun y hy => ?_); clear F)
  obtain ⟨hyl, hally⟩ := hy
  by_cases hlt2 : y < m.rules.length
  · have q2 : (y : Int) < (m.rules.length : Int) := by omega
    obtain ⟨c, hc⟩ : ∃ a, m.rules[y]? = some a := ⟨_, List.getElem?_eq_getElem hlt2⟩
    have hmm := List.mem_of_getElem? hc
    have hw1 := wrap1 (k := y) (by omega)
    have hbb := bulk_eq_mem hmm
    (have F := ai @tmz (ai @eqz (ai @er (ai @q2 @hc))); refine gG ?_; clear F)
    refine gB ?_
    (have F := ai @tmz (ai @eqz (ai @er @hc)); refine gC (cE c (hou c hmm) (by omega)) ?_; clear F)
    rw [eq' c]
    cases hh : eqnB m.sig c with
    | false =>
      have hf : m.rules.all (eqnB m.sig) = false := all_false hmm hh
      (have F := @tmz; refine gR ?_; clear F)
      (have F := @hf; refine gG ?_; exact gT)
    | true =>
      have hq : y + 1 <= m.rules.length ∧ (m.rules.take (y + 1)).all (eqnB m.sig) = true := ⟨hlt2, by rw [all_take_c hc, hally, hh]; rfl⟩
      (have F := @tmz; refine gR ?_; clear F)
      (have F := ai @tmz @hw1; refine gG ?_; exact ⟨y + 1, hq, gw, gw, by omega⟩)
  obtain rfl : y = m.rules.length := by omega
  have q2 : ¬ ((m.rules.length : Int) < (m.rules.length : Int)) := by omega
  rw [List.take_length] at hally
  (have F := ai @tmz (ai @er (ai @q2 @hally)); refine gG ?_; exact gT)
theorem con_clip1 {e : Env} {f : FuncId} {rows : List (List C)} {r : List D} (h : Con e f [.one (.sl rows)] r) : Con e f [.clip rows] r :=
  h.weaken fun w S vs hv => by
    match vs, hv with
    | [x], hv => exact ⟨hv.1.1, trivial⟩
set_option maxHeartbeats 8000000 in
set_option maxRecDepth 100000 in
theorem con_hasEq {m : Mdl} {mc : C} (hg : SgnOk m.sig) (hm : okMdl m) (hb : bulkRow (encMdl m) <= 1048576) : Con e0 43 [.one (.ptr (encX m.sig mc)), .agg (encMdl m)] [.one (.lit (.bool (hasEq m)))] := by
  rw [bulk_mdl] at hb
  obtain ⟨hokg, hoe, hou⟩ := hm
  have cE := fun (e : Eqn) (he : okEqn e) (hb : bulkRow (encEqn e) <= 1048576) => con_algEqn (mc := mc) hg he hb
  have er := eqn_rows
  have ed : encMdl m = [.sl (m.sig.sorts.names.map encStr), .sl (m.sig.sorts.subs.map encSub), .sl (m.sig.ops.map encOpr), .sl (m.eqs.map encEqn), .sl (m.rules.map encEqn)] := rfl
  rw [ed]
  refine gI 2210463835 Tryz.func43 ?_
  by_cases h1 : m.eqs.length <= 16
  rotate_left
  · have hf : hasEq m = false := by simp [hasEq, h1]
    have h1' : (16 : Int) < (m.eqs.length : Int) := by omega
    (have F := ai @tmz (ai @er (ai @h1' @hf)); refine gG ?_; exact gT)
  have h1' : ¬ ((16 : Int) < (m.eqs.length : Int)) := by omega
  by_cases h2 : m.rules.length <= 16
  rotate_left
  · have hf : hasEq m = false := by simp [hasEq, h2]
    have h2' : (16 : Int) < (m.rules.length : Int) := by omega
    (have F := ai @tmz (ai @er (ai @h1' (ai @h2' @hf))); refine gG ?_; exact gT)
  have h2' : ¬ ((16 : Int) < (m.rules.length : Int)) := by omega
  have cC := con_clip1 (con_concatE [m.eqs.map encEqn, m.rules.map encEqn] (by intro r hr; simp at hr; rcases hr with rfl | rfl <;> exact er _) (by simp) (by simp; omega))
  have ef : [m.eqs.map encEqn, m.rules.map encEqn].flatten = (m.eqs ++ m.rules).map encEqn := by simp
  rw [ef] at cC
  simp only [List.map_cons, List.map_nil] at cC
  have ei : hasEq m = (m.eqs ++ m.rules).all (eqnB m.sig) := by simp [hasEq, h1, h2, List.all_append]
  rw [ei]
  have hal : ∀ e ∈ m.eqs ++ m.rules, okEqn e ∧ bulkRow (encEqn e) <= 1048576 := fun e he => by
    rcases List.mem_append.1 he with h | h
    · have := bulk_eq_mem h
      exact ⟨hoe e h, by omega⟩
    · have := bulk_eq_mem h
      exact ⟨hou e h, by omega⟩
  have hln : (m.eqs ++ m.rules).length <= 32 := by rw [List.length_append]; omega
  (have F := ai @tmz (ai @er (ai @h1' @h2')); refine gG ?_; clear F)
  refine gB ?_
  (have F := ai @tmz @er; refine gC (cC) ?_; clear F)
  generalize m.eqs ++ m.rules = l at *
  (have F := ai @tmz @er; refine gR ?_; clear F)
  (have F := ai @tmz @er; refine gG ?_; clear F)
  (have F := @e0P; refine gL (ι := Nat) [4, 6, 24, 25, 31] [] (fun x => [(24, A.d (.one (.lit (.int .i64 x))))]) (fun x => []) (fun x => x <= l.length ∧ (l.take x).all (eqnB m.sig) = true) (fun x => l.length - x) (0) (⟨Nat.zero_le _, rfl⟩) (fun x hx => ?_); clear F)
  obtain ⟨hxl, hall⟩ := hx
  by_cases hlt : x < l.length
  · have q1 : (x : Int) < (l.length : Int) := by omega
    obtain ⟨c, hc⟩ : ∃ a, l[x]? = some a := ⟨_, List.getElem?_eq_getElem hlt⟩
    have hmm := List.mem_of_getElem? hc
    have hw1 := wrap1 (k := x) (by omega)
    (have F := ai @tmz (ai @eqz (ai @er (ai @q1 @hc))); refine gG ?_; clear F)
    refine gB ?_
    (have F := ai @tmz (ai @eqz (ai @er @hc)); refine gC (cE c (hal c hmm).1 (hal c hmm).2) ?_; clear F)
    cases hh : eqnB m.sig c with
    | false =>
      have hf : l.all (eqnB m.sig) = false := all_false hmm hh
      (have F := @tmz; refine gR ?_; clear F)
      (have F := @hf; refine gG ?_; exact gT)
    | true =>
      have hq : x + 1 <= l.length ∧ (l.take (x + 1)).all (eqnB m.sig) = true := ⟨hlt, by rw [all_take_c hc, hall, hh]; rfl⟩
      (have F := @tmz; refine gR ?_; clear F)
      (have F := ai @tmz @hw1; refine gG ?_; exact ⟨x + 1, hq, gw, gw, by omega⟩)
  obtain rfl : x = l.length := by omega
  have q1 : ¬ ((l.length : Int) < (l.length : Int)) := by omega
  rw [List.take_length] at hall
  (have F := ai @tmz (ai @er (ai @q1 @hall)); refine gG ?_; exact gT)
end Go.Proofs.YtkekkmpogmlopaaGreat
namespace Go.Proofs.YtkekkmpogmlopaaGreat
open Go.RowKit
def ceTo (P : Nat -> Bool) : Nat -> List Nat
  | 0 => []
  | i + 1 => ceTo P i ++ (if P i then [i] else [])
theorem ce_0 (P : Nat -> Bool) : nR (ceTo P 0) = [] := rfl
theorem ce_yes {P : Nat -> Bool} {i : Nat} (h : P i = true) : nR (ceTo P i) ++ [[.lit (.int .i64 i)]] = nR (ceTo P (i + 1)) := by rw [nR_snoc, ceTo, if_pos h]
theorem ce_no {P : Nat -> Bool} {i : Nat} (h : P i = false) : ceTo P (i + 1) = ceTo P i := by rw [ceTo, h]; simp
theorem ce_len (P : Nat -> Bool) : ∀ i, (ceTo P i).length <= i
  | 0 => Nat.le_refl _
  | i + 1 => by
    have := ce_len P i
    simp only [ceTo, List.length_append]
    split <;> simp <;> omega
theorem ce_lt (P : Nat -> Bool) : ∀ i, ∀ x ∈ ceTo P i, x < i
  | 0, x, h => by cases h
  | i + 1, x, h => by
    simp only [ceTo, List.mem_append] at h
    rcases h with h | h
    · have := ce_lt P i x h; omega
    · split at h
      · simp at h; omega
      · cases h
noncomputable def mayE (g : Sgn) (l : List Eqn) (t : Tm) (i : Nat) : Bool := match l[i]? with
  | none => false
  | some e => may g (sizeTm e.l + 1) e.l t
theorem mayE_at {g : Sgn} {l : List Eqn} {t : Tm} {i : Nat} {e : Eqn} (h : l[i]? = some e) : mayE g l t i = may g (sizeTm e.l + 1) e.l t := by simp [mayE, h]
open Classical in
noncomputable def ceL (m : Mdl) (t : Tm) : List Nat := if isMdl m = true ∧ isTerm m.sig t = true then ceTo (mayE m.sig m.eqs t) m.eqs.length else []
theorem ceL_yes {m : Mdl} {t : Tm} (h1 : isMdl m = true) (h2 : isTerm m.sig t = true) : ceL m t = ceTo (mayE m.sig m.eqs t) m.eqs.length := if_pos ⟨h1, h2⟩
theorem ceL_no {m : Mdl} {t : Tm} (h : ¬ (isMdl m = true ∧ isTerm m.sig t = true)) : ceL m t = [] := if_neg h
theorem isMdl_u {m : Mdl} (h : isMdl m = true) : isSgn m.sig = true ∧ m.eqs.length <= 16 ∧ ∀ e ∈ m.eqs, TermOk m.sig e.l := by
  simp only [isMdl, hasEq, Bool.and_eq_true, decide_eq_true_eq, List.all_eq_true] at h
  obtain ⟨h1, h2, _, h3, _⟩ := h
  refine ⟨h1, h2, fun e he => ?_⟩
  have := h3 e he
  simp only [eqnB, pairB, Bool.and_eq_true] at this
  exact isTerm_iff.1 this.1.1
theorem bulk_l (e : Eqn) : bulkRow (encTm e.l) <= bulkRow (encEqn e) := by
  rw [encEqn, bulk_app]; omega
theorem ceL_len (m : Mdl) (t : Tm) : (nR (ceL m t)).length + bulkRows (nR (ceL m t)) <= 1048576 := by
  have hb : ∀ l : List Nat, bulkRows (nR l) = 0 := fun l => by
    induction l with
    | nil => rfl
    | cons x l ih =>
      simp only [nR, casts, List.map_cons, bulkRows] at ih ⊢
      rw [ih]; rfl
  rw [hb, nR_len]
  by_cases h : isMdl m = true ∧ isTerm m.sig t = true
  · rw [ceL_yes h.1 h.2]
    have := ce_len (mayE m.sig m.eqs t) m.eqs.length
    have := (isMdl_u h.1).2.1
    omega
  · rw [ceL_no h]; simp
theorem ceL_ok (m : Mdl) (t : Tm) : okRows (fieldsOf .int) (nR (ceL m t)) := by
  have h : ∀ l : List Nat, (∀ x ∈ l, x < 16) -> okRows (fieldsOf .int) (nR l) := fun l => by
    induction l with
    | nil => exact fun _ => trivial
    | cons x l ih =>
      intro h
      have h1 := h x List.mem_cons_self
      have h2 := ih fun y hy => h y (List.mem_cons_of_mem _ hy)
      have h3 : I64 ((x : Nat) : Int) := ⟨by omega, by omega⟩
      exact ⟨mkRow_Int h3, h2⟩
  refine h _ fun x hx => ?_
  by_cases hc : isMdl m = true ∧ isTerm m.sig t = true
  · rw [ceL_yes hc.1 hc.2] at hx
    have := ce_lt _ _ x hx
    have := (isMdl_u hc.1).2.1
    omega
  · rw [ceL_no hc] at hx; cases hx
theorem nR_lits (l : List Nat) : nR l = (l.map fun (x : Nat) => [Value.int .i64 (x : Int)]).map litRow := by
  simp [nR, casts, List.map_map, litRow, encInt, Function.comp]
set_option maxHeartbeats 16000000 in
set_option maxRecDepth 100000 in
theorem con_specCe {m : Mdl} (hm : okMdl m) {t : Tm} (ht : okTm t) (hb : bulkRow (encMdl m) <= 1048576) (hbt : bulkRow (encTm t) <= 1048576) : Con e0 8 [.agg (encMdl m), .agg (encTm t)] [.one (.sl (nR (ceL m t)))] := by
  have cM := con_specMod hm hb
  have cT := con_specIsTerm hm.1 ht (big_of_bulk hbt)
  have ed : encMdl m = [.sl (m.sig.sorts.names.map encStr), .sl (m.sig.sorts.subs.map encSub), .sl (m.sig.ops.map encOpr), .sl (m.eqs.map encEqn), .sl (m.rules.map encEqn)] := rfl
  have cY := fun hg (p : Tm) => con_l19May (g := m.sig) hm.1 hg (sizeTm p + 1) p t (Nat.lt_succ_self _)
  simp only [mayS] at cY
  rw [encSgn] at cT cY
  rw [ed] at cM ⊢
  have er := eqn_rows
  refine gI 34368258175 Tryz.func8 ?_
  (have F := @tmz; refine gG ?_; clear F)
  refine gB ?_
  (have F := @tmz; refine gC (cM) ?_; clear F)
  cases h1 : isMdl m with
  | false =>
    rw [ceL_no fun h => by rw [h1] at h; cases h.1]
    (have F := @tmz; refine gR ?_; clear F)
    (have F := ai @tmz @nR_nil; refine gG ?_; clear F)
    (have F := ai @tmz @nR_nil; refine gG ?_; exact gTz [4])
  | true =>
  obtain ⟨hs, h16, hel⟩ := isMdl_u h1
  rw [hs, Bool.true_and] at cT
  (have F := @tmz; refine gC (cT) ?_; clear F)
  cases h2 : isTerm m.sig t with
  | false =>
    rw [ceL_no fun h => by rw [h2] at h; cases h.2]
    (have F := @tmz; refine gR ?_; clear F)
    (have F := ai @tmz @nR_nil; refine gG ?_; clear F)
    (have F := ai @tmz @nR_nil; refine gG ?_; exact gTz [4])
  | true =>
  rw [ceL_yes h1 h2]
  (have F := @tmz; refine gR ?_; clear F)
  (have F := @tmz; refine gG ?_; clear F)
  (have F := ((ce_0 (mayE m.sig m.eqs t))); refine gL (ι := Nat) [5, 6, 23, 35] [5] (fun i => [(6, A.d (.one (.lit (.int .i64 i)))), (5, .buf 5)]) (fun i => [(5, .buf none 3 1 (nR (ceTo (mayE m.sig m.eqs t) i)))]) (fun i => i <= m.eqs.length) (fun i => m.eqs.length - i) (0) (Nat.zero_le _) (fun i hi => ?_); clear F)
  by_cases hlt : i < m.eqs.length
  rotate_left
  · obtain rfl : i = m.eqs.length := by omega
    have q1 : ((m.eqs.length : Int) < (m.eqs.length : Int)) = False := eq_false (by omega)
    (have F := ai @q1 @tmz; refine gG ?_; clear F)
    (have F := @tmz; refine gG ?_; exact gTz [4])
  obtain ⟨e, he⟩ : ∃ a, m.eqs[i]? = some a := ⟨_, List.getElem?_eq_getElem hlt⟩
  have hem := List.mem_of_getElem? he
  have hbe := bulk_eq_mem hem
  have hbl := bulk_l e
  rw [bulk_mdl] at hb
  have q1 : ((i : Int) < (m.eqs.length : Int)) = True := eq_true (by omega)
  have hw := wrap1 (k := i) (by omega)
  have hcy := cY (isSgn_iff.1 hs) e.l (hel e hem).form (isTerm_iff.1 h2).form (big_of_bulk (by omega)) (big_of_bulk hbt)
  rw [<- mayE_at (g := m.sig) (t := t) he] at hcy
  (have F := ai @q1 @tmz; refine gG ?_; clear F)
  refine gB ?_
  (have F := ai @tmz (ai @eqz (ai @er @he)); refine gC (hcy) ?_; clear F)
  have l1 := nR_rows (l := ceTo (mayE m.sig m.eqs t) i)
  have l2 := nR_len (l := ceTo (mayE m.sig m.eqs t) i)
  have l3 : ((ceTo (mayE m.sig m.eqs t) i).length + 1 <= maxApp) = True := eq_true (by have := ce_len (mayE m.sig m.eqs t) i; unfold maxApp; omega)
  cases hh : mayE m.sig m.eqs t i with
  | false =>
    have e1 := ce_no hh
    rw [<- e1]
    (have F := @tmz; refine gR ?_; clear F)
    (have F := @hw; refine gG ?_; exact ⟨i + 1, hlt, gw, gw, by omega⟩)
  | true =>
    have e1 := ce_yes hh
    (have F := @tmz; refine gR ?_; clear F)
    (have F := ai @l1 (ai @l2 (ai @l3 (ai @e1 @hw))); refine gG ?_; exact ⟨i + 1, hlt, gw, gw, by omega⟩)
set_option maxHeartbeats 16000000 in
set_option maxRecDepth 100000 in
theorem conP_implCe {m : Mdl} (hm : okMdl m) {t : Tm} (ht : okTm t) (hb : bulkRow (encMdl m) <= 1048576) (hbt : bulkRow (encTm t) <= 1048576) : ConP e0 11 [.agg (encMdl m), .agg (encTm t)] [] (RTreeS (nR (ceL m t))) := by
  have hok := hm.1
  have ed : encMdl m = [.sl (m.sig.sorts.names.map encStr), .sl (m.sig.sorts.subs.map encSub), .sl (m.sig.ops.map encOpr), .sl (m.eqs.map encEqn), .sl (m.rules.map encEqn)] := rfl
  have er := eqn_rows
  by_cases hg : SgnOk m.sig
  rotate_left
  · have hf : ceL m t = [] := ceL_no fun h => by
      have := (isMdl_u h.1).1
      exact hg (isSgn_iff.1 this)
    have c := con_newAlg_not hok hg
    rw [encSgn] at c
    rw [ed, hf, show nR [] = [] from rfl]
    refine gIP (ts := [.slot 4]) [] 8861054403583 Tryz.func11 ?_
    (have F := @tmz; refine gG ?_; clear F)
    refine gB ?_
    (have F := @tmz; refine gC (c) ?_; clear F)
    (have F := @tmz; refine gR ?_; clear F)
    (have F := @tmz; refine gG ?_; clear F)
    refine pS 4 (fun a cap => ?_)
    obtain ⟨E9, hre⟩ := re_litRows (a := a) (cap := cap) (ety := 3) (sz := 1) (rows := []) (us := []) rfl
    refine pE [4] [4] hre ?_
    exact (have F := hg; gTP (R := RTreeS []) [4] ⟨_, E9, rfl, rfl, rfl⟩)
  have hs := isSgn_true hg
  have hmd : isMdl m = hasEq m := by rw [isMdl, hs, Bool.true_and]
  have c := conE_newAlg hok hg
  have cH := fun mc => con_hasEq (mc := mc) hg hm hb
  rw [encSgn] at c
  rw [ed] at cH ⊢
  refine gIP (ts := [.slot 4]) [] 8861054403583 Tryz.func11 ?_
  (have F := @tmz; refine gG ?_; clear F)
  refine gB ?_
  (have F := @tmz; refine gCE (c) ?_; clear F)
  rintro r ⟨b, rfl⟩
  have c1 := cH (.lit (.map (some b)))
  have c2 := con_implIsT (mc := .lit (.map (some b))) hg ht (big_of_bulk hbt)
  have c3 := fun (p : Tm) => con_mayMatch (mc := .lit (.map (some b))) hg (sizeTm p + 1) p t (Nat.lt_succ_self _)
  simp only [mayC] at c3
  clear cH
  generalize C.lit (.map (some b)) = mc at c1 c2 c3 ⊢
  (have F := ai @retA_u @sa_some; refine gR ?_; clear F)
  (have F := @tmz; refine gG ?_; clear F)
  refine gB ?_
  (have F := @tmz; refine gC (c1) ?_; clear F)
  cases h1 : hasEq m with
  | false =>
    rw [ceL_no (fun h => by rw [hmd, h1] at h; cases h.1), show nR [] = [] from rfl]
    (have F := @tmz; refine gR ?_; clear F)
    (have F := @tmz; refine gG ?_; clear F)
    refine pS 4 (fun a cap => ?_)
    obtain ⟨E9, hre⟩ := re_litRows (a := a) (cap := cap) (ety := 3) (sz := 1) (rows := []) (us := []) rfl
    refine pE [4] [4] hre ?_
    exact (have F := hg; gTP (R := RTreeS []) [4] ⟨_, E9, rfl, rfl, rfl⟩)
  | true =>
  rw [h1] at hmd
  obtain ⟨_, h16, hel⟩ := isMdl_u hmd
  (have F := @tmz; refine gC (c2) ?_; clear F)
  cases h2 : isTerm m.sig t with
  | false =>
    rw [ceL_no (fun h => by rw [h2] at h; cases h.2), show nR [] = [] from rfl]
    (have F := @tmz; refine gR ?_; clear F)
    (have F := @tmz; refine gG ?_; clear F)
    refine pS 4 (fun a cap => ?_)
    obtain ⟨E9, hre⟩ := re_litRows (a := a) (cap := cap) (ety := 3) (sz := 1) (rows := []) (us := []) rfl
    refine pE [4] [4] hre ?_
    exact (have F := hg; gTP (R := RTreeS []) [4] ⟨_, E9, rfl, rfl, rfl⟩)
  | true =>
  rw [ceL_yes hmd h2]
  (have F := @tmz; refine gR ?_; clear F)
  (have F := ai @tmz @er; refine gG ?_; clear F)
  (have F := ((ce_0 (mayE m.sig m.eqs t))); refine gL (ι := Nat) [7, 8, 9, 34, 35, 43] [7] (fun i => [(34, A.d (.one (.lit (.int .i64 i)))), (7, .buf 7)]) (fun i => [(7, .buf none 3 1 (nR (ceTo (mayE m.sig m.eqs t) i)))]) (fun i => i <= m.eqs.length) (fun i => m.eqs.length - i) (0) (Nat.zero_le _) (fun i hi => ?_); clear F)
  by_cases hlt : i < m.eqs.length
  rotate_left
  · obtain rfl : i = m.eqs.length := by omega
    have q1 : ((m.eqs.length : Int) < (m.eqs.length : Int)) = False := eq_false (by omega)
    (have F := ai @q1 @tmz; refine gG ?_; clear F)
    refine pS 4 (fun a cap => ?_)
    obtain ⟨E9, hre⟩ := re_litRows (a := a) (cap := cap) (ety := 3) (sz := 1) (nR_lits (ceTo (mayE m.sig m.eqs t) m.eqs.length))
    refine pE [4] [4] hre ?_
    exact (have F := hg; gTP (R := RTreeS (nR (ceTo (mayE m.sig m.eqs t) m.eqs.length))) [4] ⟨_, E9, rfl, rfl, rfl⟩)
  obtain ⟨e, he⟩ : ∃ a, m.eqs[i]? = some a := ⟨_, List.getElem?_eq_getElem hlt⟩
  have hem := List.mem_of_getElem? he
  have hbe := bulk_eq_mem hem
  have hbl := bulk_l e
  rw [bulk_mdl] at hb
  have q1 : ((i : Int) < (m.eqs.length : Int)) = True := eq_true (by omega)
  have hw := wrap1 (k := i) (by omega)
  have hcy := c3 e.l (hel e hem).form (isTerm_iff.1 h2).form (big_of_bulk (by omega)) (big_of_bulk hbt)
  rw [<- mayE_at (g := m.sig) (t := t) he] at hcy
  (have F := ai @q1 (ai @tmz (ai @eqz (ai @er @he))); refine gG ?_; clear F)
  refine gB ?_
  (have F := ai @tmz (ai @eqz (ai @er @he)); refine gC (hcy) ?_; clear F)
  have l1 := nR_rows (l := ceTo (mayE m.sig m.eqs t) i)
  have l2 := nR_len (l := ceTo (mayE m.sig m.eqs t) i)
  have l3 : ((ceTo (mayE m.sig m.eqs t) i).length + 1 <= maxApp) = True := eq_true (by have := ce_len (mayE m.sig m.eqs t) i; unfold maxApp; omega)
  cases hh : mayE m.sig m.eqs t i with
  | false =>
    have e1 := ce_no hh
    rw [<- e1]
    (have F := @tmz; refine gR ?_; clear F)
    (have F := @hw; refine gG ?_; exact ⟨i + 1, hlt, gw, gw, by omega⟩)
  | true =>
    have e1 := ce_yes hh
    (have F := @tmz; refine gR ?_; clear F)
    (have F := ai @l1 (ai @l2 (ai @l3 (ai @e1 @hw))); refine gG ?_; exact ⟨i + 1, hlt, gw, gw, by omega⟩)
end Go.Proofs.YtkekkmpogmlopaaGreat
namespace Go.Proofs.YtkekkmpogmlopaaGreat
open Go.RowKit
set_option maxHeartbeats 40000000 in
set_option maxRecDepth 100000 in
theorem con_lawCandidateEquations {row0 : List C} (hok0 : okRow (moduleF) row0) {row1 : List C} (hok1 : okRow (fieldsOf .term) row1) {wr : List (List C)} (hokw : okRows (fieldsOf .int) wr) (hBw0 : bulkRow row0 <= 1048576 -> bulkRow row1 <= 1048576 -> (bulkRow row0) + (bulkRow row1) <= 1048576 -> wr.length + bulkRows wr <= 1048576) (hsp0 : bulkRow row0 <= 1048576 -> bulkRow row1 <= 1048576 -> (bulkRow row0) + (bulkRow row1) <= 1048576 -> Con e0 8 [.agg row0, .agg row1] [.one (.sl wr)]) (him0 : bulkRow row0 <= 1048576 -> bulkRow row1 <= 1048576 -> (bulkRow row0) + (bulkRow row1) <= 1048576 -> ConP e0 11 [.agg row0, .agg row1] [] (RTreeS wr)) : Con e0 3 [.agg row0, .agg row1] [.one (.lit (.bool true))] := by
  have okc0 := hok0.cells
  obtain ⟨len0, tk0, dr0⟩ := hok0.take (n := 5) rfl
  have okc1 := hok1.cells
  obtain ⟨len1, tk1, dr1⟩ := hok1.take (n := 4) rfl
  refine gI 2795057754822148694082863103 Tryz.func3 ?_
  (have F := ai @okc0 (ai @len0 (ai @tk0 (ai @dr0 (ai @okc1 (ai @len1 (ai @tk1 (ai @dr1 @drop0))))))); refine gG ?_; clear F)
  have hL0_0 : (0 : Int) <= 1048576 := by omega
  have hL0_1 : (1048576 : Int) <= 1048576 := by omega
  refine gB ?_
  (have F := ai @okc0 (ai @len0 (ai @tk0 (ai @dr0 (ai @okc1 (ai @len1 (ai @tk1 (ai @dr1 @drop0))))))); refine gC (con_szModule hok0 hL0_0 hL0_1) ?_; clear F)
  (have F := ai @okc0 (ai @len0 (ai @tk0 (ai @dr0 (ai @okc1 (ai @len1 (ai @tk1 (ai @dr1 @drop0))))))); refine gR ?_; clear F)
  by_cases hb0 : ((bulkRow row0 : Nat) : Int) <= 1048576
  rotate_left
  · have n1 : sub 1048576 (bulkRow row0 : Nat) = -1 := sub_neg (by omega)
    have n2 : (-1 : Int) < 0 := by omega
    (have F := ai @n1 @n2; refine gG ?_; exact gT)
  have nq : sub 1048576 (bulkRow row0 : Nat) = 1048576 - ((bulkRow row0 : Nat) : Nat) := sub_pos (by omega)
  rw [nq]
  clear nq
  have hB0 : bulkRow row0 <= 1048576 := by omega
  have hL1_0 : (0 : Int) <= 1048576 - ((bulkRow row0 : Nat) : Nat) := by omega
  have hL1_1 : (1048576 : Int) - ((bulkRow row0 : Nat) : Nat) <= 1048576 := by omega
  generalize hgl0 : (1048576 : Int) - ((bulkRow row0 : Nat) : Nat) = L1 at *
  have n2 : ¬ (L1 < 0) := by omega
  (have F := ai @n2 (ai @okc0 (ai @len0 (ai @tk0 (ai @dr0 (ai @okc1 (ai @len1 (ai @tk1 (ai @dr1 @drop0)))))))); refine gG ?_; clear F)
  clear n2 hb0
  refine gB ?_
  (have F := ai @okc0 (ai @len0 (ai @tk0 (ai @dr0 (ai @okc1 (ai @len1 (ai @tk1 (ai @dr1 @drop0))))))); refine gC (con_szTerm hok1 hL1_0 hL1_1) ?_; clear F)
  (have F := ai @okc0 (ai @len0 (ai @tk0 (ai @dr0 (ai @okc1 (ai @len1 (ai @tk1 (ai @dr1 @drop0))))))); refine gR ?_; clear F)
  by_cases hb1 : ((bulkRow row1 : Nat) : Int) <= L1
  rotate_left
  · have n1 : sub L1 (bulkRow row1 : Nat) = -1 := sub_neg (by omega)
    have n2 : (-1 : Int) < 0 := by omega
    (have F := ai @n1 @n2; refine gG ?_; exact gT)
  have nq : sub L1 (bulkRow row1 : Nat) = L1 - ((bulkRow row1 : Nat) : Nat) := sub_pos (by omega)
  rw [nq]
  clear nq
  have hB1 : bulkRow row1 <= 1048576 := by omega
  have hL2_0 : (0 : Int) <= L1 - ((bulkRow row1 : Nat) : Nat) := by omega
  have hL2_1 : (L1 : Int) - ((bulkRow row1 : Nat) : Nat) <= 1048576 := by omega
  generalize hgl1 : (L1 : Int) - ((bulkRow row1 : Nat) : Nat) = L2 at *
  have n2 : ¬ (L2 < 0) := by omega
  (have F := ai @n2 (ai @okc0 (ai @len0 (ai @tk0 (ai @dr0 (ai @okc1 (ai @len1 (ai @tk1 (ai @dr1 @drop0)))))))); refine gG ?_; clear F)
  clear n2 hb1
  have hBt : (bulkRow row0) + (bulkRow row1) <= 1048576 := by omega
  have hsp := hsp0 hB0 hB1 hBt
  have him := him0 hB0 hB1 hBt
  have hBw := hBw0 hB0 hB1 hBt
  have hcw : cntRows wr <= 16 * (wr.length + bulkRows wr) := cnt_okRows _ _ (fields_le _) hokw
  have cE := con_eqIntS hokw
  have cT0 := con_toModule hok0 hB0
  have cP0 := conP_toModule hok0 hB0
  have cQ0 := con_eqModule hok0
  have hc0 : cntTop row0 <= 16 * bulkRow row0 := cntTop_ok _ _ hok0
  have cT1 := con_toTerm hok1 hB1
  have cP1 := conP_toTerm hok1 hB1
  have cQ1 := con_eqTerm hok1
  have hc1 : cntTop row1 <= 16 * bulkRow row1 := cntTop_ok _ _ hok1
  refine gB ?_
  (have F := ai @okc0 (ai @len0 (ai @tk0 (ai @dr0 (ai @okc1 (ai @len1 (ai @tk1 (ai @dr1 @drop0))))))); refine gC (cT0) ?_; clear F)
  (have F := ai @okc0 (ai @len0 (ai @tk0 (ai @dr0 (ai @okc1 (ai @len1 (ai @tk1 (ai @dr1 @drop0))))))); refine gC (cT1) ?_; clear F)
  (have F := ai @okc0 (ai @len0 (ai @tk0 (ai @dr0 (ai @okc1 (ai @len1 (ai @tk1 (ai @dr1 @drop0))))))); refine gC (hsp) ?_; clear F)
  (have F := ai @okc0 (ai @len0 (ai @tk0 (ai @dr0 (ai @okc1 (ai @len1 (ai @tk1 (ai @dr1 @drop0))))))); refine gR ?_; clear F)
  (have F := ai @okc0 (ai @len0 (ai @tk0 (ai @dr0 (ai @okc1 (ai @len1 (ai @tk1 (ai @dr1 @drop0))))))); refine gG ?_; clear F)
  refine gB ?_
  (have F := ai @okc0 (ai @len0 (ai @tk0 (ai @dr0 (ai @okc1 (ai @len1 (ai @tk1 (ai @dr1 @drop0))))))); refine gCP [] [1000] (cP0) ?_; clear F)
  rintro r pm ⟨us0, E0, rfl, hu0, cu0, rfl⟩
  rw [len0] at hu0
  obtain ⟨lu0, tu0, du0⟩ := lits_len hu0
  simp only [setA, retA, zipM, List.cons_append, List.nil_append]
  (have F := ai @okc0 (ai @len0 (ai @tk0 (ai @dr0 (ai @okc1 (ai @len1 (ai @tk1 (ai @dr1 (ai @drop0 (ai @lu0 (ai @tu0 (ai @du0 @cu0))))))))))); refine gR ?_; clear F)
  (have F := ai @okc0 (ai @len0 (ai @tk0 (ai @dr0 (ai @okc1 (ai @len1 (ai @tk1 (ai @dr1 (ai @drop0 (ai @lu0 (ai @tu0 (ai @du0 @cu0))))))))))); refine gG ?_; clear F)
  refine gB ?_
  (have F := ai @okc0 (ai @len0 (ai @tk0 (ai @dr0 (ai @okc1 (ai @len1 (ai @tk1 (ai @dr1 (ai @drop0 (ai @lu0 (ai @tu0 (ai @du0 @cu0))))))))))); refine gCP [] [1001] (cP1) ?_; clear F)
  rintro r pm ⟨us1, E1, rfl, hu1, cu1, rfl⟩
  rw [len1] at hu1
  obtain ⟨lu1, tu1, du1⟩ := lits_len hu1
  simp only [setA, retA, zipM, List.cons_append, List.nil_append]
  (have F := ai @okc0 (ai @len0 (ai @tk0 (ai @dr0 (ai @okc1 (ai @len1 (ai @tk1 (ai @dr1 (ai @drop0 (ai @lu0 (ai @tu0 (ai @du0 (ai @cu0 (ai @lu1 (ai @tu1 (ai @du1 @cu1))))))))))))))); refine gR ?_; clear F)
  (have F := ai @okc0 (ai @len0 (ai @tk0 (ai @dr0 (ai @okc1 (ai @len1 (ai @tk1 (ai @dr1 (ai @drop0 (ai @lu0 (ai @tu0 (ai @du0 (ai @cu0 (ai @lu1 (ai @tu1 (ai @du1 @cu1))))))))))))))); refine gG ?_; clear F)
  refine gB ?_
  (have F := ai @okc0 (ai @len0 (ai @tk0 (ai @dr0 (ai @okc1 (ai @len1 (ai @tk1 (ai @dr1 (ai @drop0 (ai @lu0 (ai @tu0 (ai @du0 (ai @cu0 (ai @lu1 (ai @tu1 (ai @du1 @cu1))))))))))))))); refine gCP [1000, 1001] [1100, 1000, 1001] (conP_rd (lits := [.agg (litRow us0), .agg (litRow us1)]) [.set E0 (fun w => OwnVals w row0 E0 us0), .set E1 (fun w => OwnVals w row1 E1 us1)] him ⟨.tree List.mem_cons_self, .tree (List.mem_cons_of_mem _ List.mem_cons_self), trivial⟩ rfl (fun _ _ h => RTreeS.lits h)) ?_; clear F)
  rintro r pm ⟨q1, ⟨vg, Eg, rfl, cug, rfl⟩, rfl⟩
  simp only [setA, retA, zipM, List.cons_append, List.nil_append]
  (have F := ai @okc0 (ai @len0 (ai @tk0 (ai @dr0 (ai @okc1 (ai @len1 (ai @tk1 (ai @dr1 (ai @drop0 (ai @lu0 (ai @tu0 (ai @du0 (ai @cu0 (ai @lu1 (ai @tu1 (ai @du1 (ai @cu1 @cug)))))))))))))))); refine gR ?_; clear F)
  (have F := ai @okc0 (ai @len0 (ai @tk0 (ai @dr0 (ai @okc1 (ai @len1 (ai @tk1 (ai @dr1 (ai @drop0 (ai @lu0 (ai @tu0 (ai @du0 (ai @cu0 (ai @lu1 (ai @tu1 (ai @du1 (ai @cu1 @cug)))))))))))))))); refine gG ?_; clear F)
  refine gB ?_
  (have F := ai @okc0 (ai @len0 (ai @tk0 (ai @dr0 (ai @okc1 (ai @len1 (ai @tk1 (ai @dr1 (ai @drop0 (ai @lu0 (ai @tu0 (ai @du0 (ai @cu0 (ai @lu1 (ai @tu1 (ai @du1 (ai @cu1 @cug)))))))))))))))); refine gCP [1100] [1100] (con_rd (lits := [.one (.lit vg), .one (.sl wr)]) [.set Eg (fun w => Own w (.sl wr) Eg vg)] cE ⟨.treeS List.mem_cons_self, .same, trivial⟩ rfl rfl) ?_; clear F)
  rintro r pm ⟨rfl, rfl⟩
  simp only [setA, retA, zipM, List.cons_append, List.nil_append]
  (have F := ai @okc0 (ai @len0 (ai @tk0 (ai @dr0 (ai @okc1 (ai @len1 (ai @tk1 (ai @dr1 (ai @drop0 (ai @lu0 (ai @tu0 (ai @du0 (ai @cu0 (ai @lu1 (ai @tu1 (ai @du1 (ai @cu1 (ai @cug @beq_self_eq_true.{0}))))))))))))))))); refine gR ?_; clear F)
  (have F := ai @okc0 (ai @len0 (ai @tk0 (ai @dr0 (ai @okc1 (ai @len1 (ai @tk1 (ai @dr1 (ai @drop0 (ai @lu0 (ai @tu0 (ai @du0 (ai @cu0 (ai @lu1 (ai @tu1 (ai @du1 (ai @cu1 (ai @cug @beq_self_eq_true.{0}))))))))))))))))); refine gG ?_; clear F)
  refine gB ?_
  (have F := ai @okc0 (ai @len0 (ai @tk0 (ai @dr0 (ai @okc1 (ai @len1 (ai @tk1 (ai @dr1 (ai @drop0 (ai @lu0 (ai @tu0 (ai @du0 (ai @cu0 (ai @lu1 (ai @tu1 (ai @du1 (ai @cu1 @cug)))))))))))))))); refine gC (cT0) ?_; clear F)
  (have F := ai @okc0 (ai @len0 (ai @tk0 (ai @dr0 (ai @okc1 (ai @len1 (ai @tk1 (ai @dr1 (ai @drop0 (ai @lu0 (ai @tu0 (ai @du0 (ai @cu0 (ai @lu1 (ai @tu1 (ai @du1 (ai @cu1 @cug)))))))))))))))); refine gCP [1000] [1000] (con_rd (lits := [.agg (litRow us0), .agg row0]) [.set E0 (fun w => OwnVals w row0 E0 us0)] cQ0 ⟨.tree List.mem_cons_self, .same, trivial⟩ rfl rfl) ?_; clear F)
  rintro r pm ⟨rfl, rfl⟩
  simp only [setA, retA, zipM, List.cons_append, List.nil_append]
  (have F := ai @okc0 (ai @len0 (ai @tk0 (ai @dr0 (ai @okc1 (ai @len1 (ai @tk1 (ai @dr1 (ai @drop0 (ai @lu0 (ai @tu0 (ai @du0 (ai @cu0 (ai @lu1 (ai @tu1 (ai @du1 (ai @cu1 @cug)))))))))))))))); refine gR ?_; clear F)
  (have F := ai @okc0 (ai @len0 (ai @tk0 (ai @dr0 (ai @okc1 (ai @len1 (ai @tk1 (ai @dr1 (ai @drop0 (ai @lu0 (ai @tu0 (ai @du0 (ai @cu0 (ai @lu1 (ai @tu1 (ai @du1 (ai @cu1 @cug)))))))))))))))); refine gG ?_; clear F)
  refine gB ?_
  (have F := ai @okc0 (ai @len0 (ai @tk0 (ai @dr0 (ai @okc1 (ai @len1 (ai @tk1 (ai @dr1 (ai @drop0 (ai @lu0 (ai @tu0 (ai @du0 (ai @cu0 (ai @lu1 (ai @tu1 (ai @du1 (ai @cu1 @cug)))))))))))))))); refine gC (cT1) ?_; clear F)
  (have F := ai @okc0 (ai @len0 (ai @tk0 (ai @dr0 (ai @okc1 (ai @len1 (ai @tk1 (ai @dr1 (ai @drop0 (ai @lu0 (ai @tu0 (ai @du0 (ai @cu0 (ai @lu1 (ai @tu1 (ai @du1 (ai @cu1 @cug)))))))))))))))); refine gCP [1001] [1001] (con_rd (lits := [.agg (litRow us1), .agg row1]) [.set E1 (fun w => OwnVals w row1 E1 us1)] cQ1 ⟨.tree List.mem_cons_self, .same, trivial⟩ rfl rfl) ?_; clear F)
  rintro r pm ⟨rfl, rfl⟩
  simp only [setA, retA, zipM, List.cons_append, List.nil_append]
  (have F := ai @okc0 (ai @len0 (ai @tk0 (ai @dr0 (ai @okc1 (ai @len1 (ai @tk1 (ai @dr1 (ai @drop0 (ai @lu0 (ai @tu0 (ai @du0 (ai @cu0 (ai @lu1 (ai @tu1 (ai @du1 (ai @cu1 @cug)))))))))))))))); refine gR ?_; clear F)
  (have F := ai @okc0 (ai @len0 (ai @tk0 (ai @dr0 (ai @okc1 (ai @len1 (ai @tk1 (ai @dr1 (ai @drop0 (ai @lu0 (ai @tu0 (ai @du0 (ai @cu0 (ai @lu1 (ai @tu1 (ai @du1 (ai @cu1 @cug)))))))))))))))); refine gG ?_; clear F)
  refine gB ?_
  (have F := ai @okc0 (ai @len0 (ai @tk0 (ai @dr0 (ai @okc1 (ai @len1 (ai @tk1 (ai @dr1 (ai @drop0 (ai @lu0 (ai @tu0 (ai @du0 (ai @cu0 (ai @lu1 (ai @tu1 (ai @du1 (ai @cu1 @cug)))))))))))))))); refine gCP [1000] [1000] (markModule_all hok0 (1) E0 us0 (by omega) cu0 (by omega) (by omega)) ?_; clear F)
  rintro r pm ⟨F0, rfl, rfl⟩
  simp only [setA, retA, zipM, List.cons_append, List.nil_append]
  (have F := ai @okc0 (ai @len0 (ai @tk0 (ai @dr0 (ai @okc1 (ai @len1 (ai @tk1 (ai @dr1 (ai @drop0 (ai @lu0 (ai @tu0 (ai @du0 (ai @cu0 (ai @lu1 (ai @tu1 (ai @du1 (ai @cu1 @cug)))))))))))))))); refine gR ?_; clear F)
  (have F := ai @okc0 (ai @len0 (ai @tk0 (ai @dr0 (ai @okc1 (ai @len1 (ai @tk1 (ai @dr1 (ai @drop0 (ai @lu0 (ai @tu0 (ai @du0 (ai @cu0 (ai @lu1 (ai @tu1 (ai @du1 (ai @cu1 @cug)))))))))))))))); refine gG ?_; clear F)
  refine gB ?_
  (have F := ai @okc0 (ai @len0 (ai @tk0 (ai @dr0 (ai @okc1 (ai @len1 (ai @tk1 (ai @dr1 (ai @drop0 (ai @lu0 (ai @tu0 (ai @du0 (ai @cu0 (ai @lu1 (ai @tu1 (ai @du1 (ai @cu1 @cug)))))))))))))))); refine gCP [1001] [1001] (markTerm_all hok1 (1 + (cntTop row0 : Int)) E1 us1 (by omega) cu1 (by omega) (by omega)) ?_; clear F)
  rintro r pm ⟨F1, rfl, rfl⟩
  simp only [setA, retA, zipM, List.cons_append, List.nil_append]
  (have F := ai @okc0 (ai @len0 (ai @tk0 (ai @dr0 (ai @okc1 (ai @len1 (ai @tk1 (ai @dr1 (ai @drop0 (ai @lu0 (ai @tu0 (ai @du0 (ai @cu0 (ai @lu1 (ai @tu1 (ai @du1 (ai @cu1 @cug)))))))))))))))); refine gR ?_; clear F)
  (have F := ai @okc0 (ai @len0 (ai @tk0 (ai @dr0 (ai @okc1 (ai @len1 (ai @tk1 (ai @dr1 (ai @drop0 (ai @lu0 (ai @tu0 (ai @du0 (ai @cu0 (ai @lu1 (ai @tu1 (ai @du1 (ai @cu1 @cug)))))))))))))))); refine gG ?_; clear F)
  have nk : (1 + (cntTop row0 : Int) + (cntTop row1 : Int) < 0) = False := eq_false (by omega)
  refine gB ?_
  (have F := ai @okc0 (ai @len0 (ai @tk0 (ai @dr0 (ai @okc1 (ai @len1 (ai @tk1 (ai @dr1 (ai @drop0 (ai @lu0 (ai @tu0 (ai @du0 (ai @cu0 (ai @lu1 (ai @tu1 (ai @du1 (ai @cu1 (ai @cug @nk))))))))))))))))); refine gCP [1100] [1100] (con_rd (lits := [.one (.lit vg), .one (.sl wr)]) [.set Eg (fun w => Own w (.sl wr) Eg vg)] cE ⟨.treeS List.mem_cons_self, .same, trivial⟩ rfl rfl) ?_; clear F)
  rintro r pm ⟨rfl, rfl⟩
  simp only [setA, retA, zipM, List.cons_append, List.nil_append]
  (have F := ai @okc0 (ai @len0 (ai @tk0 (ai @dr0 (ai @okc1 (ai @len1 (ai @tk1 (ai @dr1 (ai @drop0 (ai @lu0 (ai @tu0 (ai @du0 (ai @cu0 (ai @lu1 (ai @tu1 (ai @du1 (ai @cu1 (ai @cug (ai @nk @beq_self_eq_true.{0})))))))))))))))))); refine gR ?_; clear F)
  (have F := ai @okc0 (ai @len0 (ai @tk0 (ai @dr0 (ai @okc1 (ai @len1 (ai @tk1 (ai @dr1 (ai @drop0 (ai @lu0 (ai @tu0 (ai @du0 (ai @cu0 (ai @lu1 (ai @tu1 (ai @du1 (ai @cu1 (ai @cug (ai @nk @beq_self_eq_true.{0})))))))))))))))))); refine gG ?_; clear F)
  refine gB ?_
  (have F := ai @okc0 (ai @len0 (ai @tk0 (ai @dr0 (ai @okc1 (ai @len1 (ai @tk1 (ai @dr1 (ai @drop0 (ai @lu0 (ai @tu0 (ai @du0 (ai @cu0 (ai @lu1 (ai @tu1 (ai @du1 (ai @cu1 (ai @cug @nk))))))))))))))))); refine gCP [1100] [1100] (markIntS_all hokw 1 Eg vg (by omega) (by omega)) ?_; clear F)
  rintro r pm ⟨Fg, rfl, rfl⟩
  simp only [setA, retA, zipM, List.cons_append, List.nil_append]
  (have F := ai @okc0 (ai @len0 (ai @tk0 (ai @dr0 (ai @okc1 (ai @len1 (ai @tk1 (ai @dr1 (ai @drop0 (ai @lu0 (ai @tu0 (ai @du0 (ai @cu0 (ai @lu1 (ai @tu1 (ai @du1 (ai @cu1 (ai @cug @nk))))))))))))))))); refine gR ?_; clear F)
  (have F := ai @okc0 (ai @len0 (ai @tk0 (ai @dr0 (ai @okc1 (ai @len1 (ai @tk1 (ai @dr1 (ai @drop0 (ai @lu0 (ai @tu0 (ai @du0 (ai @cu0 (ai @lu1 (ai @tu1 (ai @du1 (ai @cu1 (ai @cug @nk))))))))))))))))); refine gG ?_; clear F)
  have nm : (1 + (cntRows wr : Int) < 0) = False := eq_false (by omega)
  have cH := heldIntS_all hokw (by omega) 1 (by omega) (by omega)
  refine gB ?_
  (have F := ai @okc0 (ai @len0 (ai @tk0 (ai @dr0 (ai @okc1 (ai @len1 (ai @tk1 (ai @dr1 (ai @drop0 (ai @lu0 (ai @tu0 (ai @du0 (ai @cu0 (ai @lu1 (ai @tu1 (ai @du1 (ai @cu1 (ai @cug (ai @nk @nm)))))))))))))))))); refine gCP [1100] [1100] (con_rd (lits := [.one (.lit vg), .one (.lit (.int .i64 1))]) [.set Fg (fun w => Own w (.sl (mkRows 1 wr)) Fg vg)] cH ⟨.treeS List.mem_cons_self, .same, trivial⟩ rfl rfl) ?_; clear F)
  rintro r pm ⟨rfl, rfl⟩
  simp only [setA, retA, zipM, List.cons_append, List.nil_append]
  (have F := ai @okc0 (ai @len0 (ai @tk0 (ai @dr0 (ai @okc1 (ai @len1 (ai @tk1 (ai @dr1 (ai @drop0 (ai @lu0 (ai @tu0 (ai @du0 (ai @cu0 (ai @lu1 (ai @tu1 (ai @du1 (ai @cu1 (ai @cug (ai @nk @nm)))))))))))))))))); refine gR ?_; clear F)
  (have F := ai @okc0 (ai @len0 (ai @tk0 (ai @dr0 (ai @okc1 (ai @len1 (ai @tk1 (ai @dr1 (ai @drop0 (ai @lu0 (ai @tu0 (ai @du0 (ai @cu0 (ai @lu1 (ai @tu1 (ai @du1 (ai @cu1 (ai @cug (ai @nk (ai @nm @beq_self_eq_true.{0}))))))))))))))))))); refine gG ?_; clear F)
  refine gB ?_
  (have F := ai @okc0 (ai @len0 (ai @tk0 (ai @dr0 (ai @okc1 (ai @len1 (ai @tk1 (ai @dr1 @drop0))))))); refine gC (cT0) ?_; clear F)
  (have F := ai @okc0 (ai @len0 (ai @tk0 (ai @dr0 (ai @okc1 (ai @len1 (ai @tk1 (ai @dr1 @drop0))))))); refine gC (cT1) ?_; clear F)
  (have F := ai @okc0 (ai @len0 (ai @tk0 (ai @dr0 (ai @okc1 (ai @len1 (ai @tk1 (ai @dr1 (ai @drop0 (ai @lu0 (ai @tu0 (ai @du0 (ai @cu0 (ai @lu1 (ai @tu1 (ai @du1 (ai @cu1 (ai @cug (ai @nk @nm)))))))))))))))))); refine gCP [] [1200] (him) ?_; clear F)
  rintro r pm ⟨vh, Eh, rfl, cuh, rfl⟩
  simp only [setA, retA, zipM, List.cons_append, List.nil_append]
  (have F := ai @okc0 (ai @len0 (ai @tk0 (ai @dr0 (ai @okc1 (ai @len1 (ai @tk1 (ai @dr1 (ai @drop0 (ai @lu0 (ai @tu0 (ai @du0 (ai @cu0 (ai @lu1 (ai @tu1 (ai @du1 (ai @cu1 (ai @cug (ai @nk (ai @nm @cuh))))))))))))))))))); refine gR ?_; clear F)
  (have F := ai @okc0 (ai @len0 (ai @tk0 (ai @dr0 (ai @okc1 (ai @len1 (ai @tk1 (ai @dr1 (ai @drop0 (ai @lu0 (ai @tu0 (ai @du0 (ai @cu0 (ai @lu1 (ai @tu1 (ai @du1 (ai @cu1 (ai @cug (ai @nk (ai @nm @cuh))))))))))))))))))); refine gG ?_; clear F)
  refine gB ?_
  (have F := ai @okc0 (ai @len0 (ai @tk0 (ai @dr0 (ai @okc1 (ai @len1 (ai @tk1 (ai @dr1 (ai @drop0 (ai @lu0 (ai @tu0 (ai @du0 (ai @cu0 (ai @lu1 (ai @tu1 (ai @du1 (ai @cu1 (ai @cug (ai @nk (ai @nm @cuh))))))))))))))))))); refine gCP [1200] [1200] (con_rd (lits := [.one (.lit vh), .one (.sl wr)]) [.set Eh (fun w => Own w (.sl wr) Eh vh)] cE ⟨.treeS List.mem_cons_self, .same, trivial⟩ rfl rfl) ?_; clear F)
  rintro r pm ⟨rfl, rfl⟩
  simp only [setA, retA, zipM, List.cons_append, List.nil_append]
  (have F := ai @okc0 (ai @len0 (ai @tk0 (ai @dr0 (ai @okc1 (ai @len1 (ai @tk1 (ai @dr1 (ai @drop0 (ai @lu0 (ai @tu0 (ai @du0 (ai @cu0 (ai @lu1 (ai @tu1 (ai @du1 (ai @cu1 (ai @cug (ai @nk (ai @nm (ai @cuh @beq_self_eq_true.{0})))))))))))))))))))); refine gR ?_; clear F)
  (have F := ai @okc0 (ai @len0 (ai @tk0 (ai @dr0 (ai @okc1 (ai @len1 (ai @tk1 (ai @dr1 (ai @drop0 (ai @lu0 (ai @tu0 (ai @du0 (ai @cu0 (ai @lu1 (ai @tu1 (ai @du1 (ai @cu1 (ai @cug (ai @nk (ai @nm (ai @cuh @beq_self_eq_true.{0})))))))))))))))))))); refine gG ?_; clear F)
  refine gB ?_
  (have F := ai @okc0 (ai @len0 (ai @tk0 (ai @dr0 (ai @okc1 (ai @len1 (ai @tk1 (ai @dr1 (ai @drop0 (ai @lu0 (ai @tu0 (ai @du0 (ai @cu0 (ai @lu1 (ai @tu1 (ai @du1 (ai @cu1 (ai @cug (ai @nk @nm)))))))))))))))))); refine gCP [1100] [1100] (con_rd (lits := [.one (.lit vg), .one (.lit (.int .i64 1))]) [.set Fg (fun w => Own w (.sl (mkRows 1 wr)) Fg vg)] cH ⟨.treeS List.mem_cons_self, .same, trivial⟩ rfl rfl) ?_; clear F)
  rintro r pm ⟨rfl, rfl⟩
  simp only [setA, retA, zipM, List.cons_append, List.nil_append]
  (have F := ai @okc0 (ai @len0 (ai @tk0 (ai @dr0 (ai @okc1 (ai @len1 (ai @tk1 (ai @dr1 (ai @drop0 (ai @lu0 (ai @tu0 (ai @du0 (ai @cu0 (ai @lu1 (ai @tu1 (ai @du1 (ai @cu1 (ai @cug (ai @nk @nm)))))))))))))))))); refine gR ?_; clear F)
  (have F := ai @okc0 (ai @len0 (ai @tk0 (ai @dr0 (ai @okc1 (ai @len1 (ai @tk1 (ai @dr1 (ai @drop0 (ai @lu0 (ai @tu0 (ai @du0 (ai @cu0 (ai @lu1 (ai @tu1 (ai @du1 (ai @cu1 (ai @cug (ai @nk (ai @nm (ai @cuh @beq_self_eq_true.{0})))))))))))))))))))); refine gG ?_; exact gT)
theorem lawExactCandidateEquations (w : World) (row0 : List C) (S0 : Nat -> Prop) (us0 : List Value) (hok0 : okRow (moduleF) row0) (hv0 : RepVals w S0 row0 us0) (row1 : List C) (S1 : Nat -> Prop) (us1 : List Value) (hok1 : okRow (fieldsOf .term) row1) (hv1 : RepVals w S1 row1 us1) :
    Calls Tryz.prog 3 #[(.agg us0.toArray : Value), (.agg us1.toArray : Value)] w fun e w' => e = .returned (.bool true) ∧ Below w.heap.size w w' := by
  obtain ⟨m, rfl, k0⟩ := decMod hok0
  obtain ⟨t, rfl, k1⟩ := decTm hok1
  have hc := (con_lawCandidateEquations hok0 hok1 (ceL_ok m t) (fun b0 b1 bt => ceL_len m t) (fun b0 b1 bt => con_specCe k0 k1 b0 b1) (fun b0 b1 bt => conP_implCe k0 k1 b0 b1)).2 w (fun b => b < w.heap.size) [(.agg us0.toArray : Value), (.agg us1.toArray : Value)] (fun b hb => ⟨hb, id⟩) (fun b hb => hb.elim) trivial
    ⟨⟨us0, rfl, hv0.inside'⟩, ⟨us1, rfl, hv1.inside'⟩, trivial⟩
  refine hc.mono fun e w' ⟨v, h1, h2, _, h4⟩ => ⟨?_, h2.below⟩
  have h4 : v = .bool true := by simpa [retA, ARel, DRel, Rep] using h4
  rw [h1, h4]
end Go.Proofs.YtkekkmpogmlopaaGreat
namespace Go.Proofs.YtkekkmpogmlopaaGreat
open Go.ChangeShapes Go.WideShapes Go.ChangeAt Go.RowKit Go.Deep
set_option maxRecDepth 100000 in
theorem candidateEquations_holds_lifted (os : Os) (started : os.Started) (H : Type) (enc : TypeId × Value -> H) :
    ReturnsInHanded {} Tryz.checked os 3 .any (Rows.fnExactCandidateEquationsSpec.pre6 enc Tryz.prog Tryz.f3 Rows.fnExactCandidateEquationsRow.domain false) (Rows.fnExactCandidateEquationsSpec.post enc Tryz.prog Tryz.f3 false true false false) := by
  refine returnsInHanded_of_change (C := Tryz.checked) own started (by kernel_rfl) Tryz.func3
    (ChangeSpec.witness6 (enc := enc) (C := Tryz.checked) false ⟨#[], #[.agg #[.slice none 0 0, .slice none 0 0, .slice none 0 0, .slice none 0 0, .slice none 0 0], .agg #[.int .i64 0, .string .empty, .int .i64 0, .slice none 0 0]], []⟩ 8 (by kernel_rfl) (by kernel_rfl) (by kernel_rfl) (by kernel_rfl)) ?_
  intro W base args ds gs before hval0 hW _ _
  have hval : ∀ (j : Nat) t v, Tryz.f3.params[j]? = some t -> args[j]? = some v -> Value.okWide Tryz.prog W .any base t v := hval0
  have hW' := hW
  obtain ⟨p, q, hA0, hV, rfl, _, _⟩ := hW
  have hA : DataW.TrodAll enc Tryz.prog W 0 (fun _ => true) true Tryz.f3.params.toList args.toList ds p := hA0
  rw [Tryz.params3] at hA hval
  obtain ⟨v0, vs0, d0, ds0, p0, q0, hargs0, hd0, hp0, h0, r0⟩ := trodAll_cons hA
  obtain ⟨v1, vs1, d1, ds1, p1, q1, hargs1, hd1, hp1, h1, r1⟩ := trodAll_cons r0
  obtain ⟨e2, e2d, _⟩ := trodAll_nil r1
  rw [e2] at hargs1
  rw [hargs1] at hargs0
  obtain rfl : args = #[v0, v1] := by cases args; simp_all
  rw [e2d] at hd1
  rw [hd1] at hd0
  subst hd0
  obtain ⟨rfl, rfl⟩ := trodVars_none hV
  obtain ⟨cs0, rfl, _⟩ := okWide_struct Tryz.underlying31 (hval 0 31 v0 rfl rfl)
  obtain ⟨fuel0, hf0⟩ := h0
  obtain ⟨row0, hok0, hrep0⟩ := open_row seatTR fuel0 _ _ _ _ ty_Module hf0
  have e0c : (Value.agg cs0).cells.toList.toArray = cs0 := by simp [Value.cells]
  obtain ⟨cs1, rfl, _⟩ := okWide_struct Tryz.underlying34 (hval 1 34 v1 rfl rfl)
  obtain ⟨fuel1, hf1⟩ := h1
  obtain ⟨row1, hok1, hrep1⟩ := open_row seatTR fuel1 _ _ _ _ ty_Term hf1
  have e1c : (Value.agg cs1).cells.toList.toArray = cs1 := by simp [Value.cells]
  have hlaw := lawExactCandidateEquations W row0 _ _ hok0 hrep0 row1 _ _ hok1 hrep1
  rw [e0c, e1c] at hlaw
  refine hlaw.mono fun e W' ⟨he, hb⟩ => ?_
  subst he
  exact ⟨_, rfl, law_post laidOut rfl rfl Tryz.underlying4 (by rw [Tryz.params3]; decide +kernel) hW' rfl hb⟩
set_option maxHeartbeats 400000000 in
set_option maxRecDepth 100000 in
theorem candidateEquations_holds_closed : joinedFacts Tryz.checked.prog 3 Tryz.f3 Rows.fnExactCandidateEquationsSpec Rows.fnExactCandidateEquationsRow = true := by
  unfold joinedFacts
  simp only [Bool.and_eq_true]
  and_intros
  all_goals as_aux_lemma => kernel_rfl
theorem candidateEquations_holds_named : Tryz.checked.prog.funcNamed Rows.fnExactCandidateEquationsRow.func = some 3 := by kernel_rfl
theorem candidateEquations_holds : Rows.FnExactCandidateEquationsSaid :=
  OpenClaim.holds_of_wide 3 Tryz.f3 rfl rfl rfl rfl rfl rfl rfl ⟨rfl, rfl, rfl, rfl, rfl⟩ rfl rfl rfl rfl rfl candidateEquations_holds_named Tryz.func3 candidateEquations_holds_closed
    (of_decide_eq_true (by kernel_rfl)) (by unfold Func.isWrapper; rw [if_neg (of_decide_eq_false (by kernel_rfl))]; exact ⟨rfl, rfl⟩)
    (fun os started H enc _ => candidateEquations_holds_lifted os started H enc)
#print axioms candidateEquations_holds
end Go.Proofs.YtkekkmpogmlopaaGreat
