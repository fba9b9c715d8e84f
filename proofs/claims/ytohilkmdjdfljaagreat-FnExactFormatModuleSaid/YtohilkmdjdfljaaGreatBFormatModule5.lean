/-
  FnExactFormatModule returns true for every module, and turns nothing: proved without conditions.
-/
import Derived.Test.YtohilkmdjdfljaaGreatBFormatModule0
import Derived.Test.YtohilkmdjdfljaaGreatBFormatModule1
import Derived.Test.YtohilkmdjdfljaaGreatBFormatModule2
import Derived.Test.YtohilkmdjdfljaaGreatBFormatModule3
import Derived.Test.YtohilkmdjdfljaaGreatBFormatModule4
import Derived.Shelf.Lays
import Derived.Test.YtohilkmdjdfljaaGreatChecked
import Derived.Shelf.Strings.OnBuilder
import Derived.Shelf.SlSortCmp.WholeK
import Derived.Shelf.SlSortCmp.NoneTotal
import Derived.Lib.QuietBelow
import Derived.Shelf.SlLaysF0
import Derived.Shelf.Lays8
import Derived.Shelf.Spec.SlicesGrow
set_option linter.unusedSimpArgs false
set_option linter.unusedVariables false
namespace Go.Proofs.YtohilkmdjdfljaaGreat
open Go.Shelf
def joinS_ren : Ren := ⟨fun | 156 => 159 | 165 => 187 | 166 => 188 | 169 => 189 | 240 => 202 | 241 => 203 | 276 => 208 | 277 => 209 | n => n, fun | 31 => 22 | 9 => 9 | 3 => 3 | 4 => 4 | 0 => 0 | 20 => 20 | 72 => 238 | 76 => 242 | 70 => 236 | 37 => 182 | 75 => 241 | 127 => 254 | 164 => 256 | 5 => 5 | 80 => 244 | n => n, fun | n => n⟩
theorem joinS : Go.Proofs.Lays.n156 Tryz.prog joinS_ren := {
 mixed := by kernel_rfl,
 f156 := Tryz.func159.trans (congrArg some (by kernel_rfl)),
 f165 := Tryz.func187.trans (congrArg some (by kernel_rfl)),
 f166 := Tryz.func188.trans (congrArg some (by kernel_rfl)),
 f169 := Tryz.func189.trans (congrArg some (by kernel_rfl)),
 f240 := Tryz.func202.trans (congrArg some (by kernel_rfl)),
 f241 := Tryz.func203.trans (congrArg some (by kernel_rfl)),
 f276 := Tryz.func208.trans (congrArg some (by kernel_rfl)),
 f277 := Tryz.func209.trans (congrArg some (by kernel_rfl)),
 t0 := Tryz.underlying0,
 a0 := Tryz.isAgg0,
 z0 := Tryz.sizeOf0,
 v0 := Tryz.zeroValue0,
 t3 := Tryz.underlying3,
 a3 := Tryz.isAgg3,
 z3 := Tryz.sizeOf3,
 v3 := Tryz.zeroValue3,
 t4 := Tryz.underlying4,
 a4 := Tryz.isAgg4,
 z4 := Tryz.sizeOf4,
 v4 := Tryz.zeroValue4,
 t9 := Tryz.underlying9,
 a9 := Tryz.isAgg9,
 z9 := Tryz.sizeOf9,
 v9 := Tryz.zeroValue9,
 t20 := Tryz.underlying20,
 a20 := Tryz.isAgg20,
 z20 := Tryz.sizeOf20,
 v20 := Tryz.zeroValue20,
 t31 := Tryz.underlying22,
 a31 := Tryz.isAgg22,
 z31 := Tryz.sizeOf22,
 v31 := Tryz.zeroValue22,
 t37 := Tryz.underlying182,
 a37 := Tryz.isAgg182,
 z37 := Tryz.sizeOf182,
 v37 := Tryz.zeroValue182,
 t70 := Tryz.underlying236,
 a70 := Tryz.isAgg236,
 z70 := Tryz.sizeOf236,
 v70 := Tryz.zeroValue236,
 t72 := Tryz.underlying238,
 a72 := Tryz.isAgg238,
 z72 := Tryz.sizeOf238,
 v72 := Tryz.zeroValue238,
 t75 := Tryz.underlying241,
 a75 := Tryz.isAgg241,
 z75 := Tryz.sizeOf241,
 v75 := Tryz.zeroValue241,
 t76 := Tryz.underlying242,
 a76 := Tryz.isAgg242,
 z76 := Tryz.sizeOf242,
 v76 := Tryz.zeroValue242,
 t127 := Tryz.underlying254,
 a127 := Tryz.isAgg254,
 z127 := Tryz.sizeOf254,
 v127 := Tryz.zeroValue254,
 t164 := Tryz.underlying256,
 a164 := Tryz.isAgg256,
 z164 := Tryz.sizeOf256,
 v164 := Tryz.zeroValue256 }
end Go.Proofs.YtohilkmdjdfljaaGreat
namespace Go.Proofs.YtohilkmdjdfljaaGreat
open Go.RowKit
theorem joinX : Go.Proofs.Builder.Extra Tryz.prog joinS_ren :=
 { sizeBuilder := by kernel_rfl, liesBuilder := by kernel_rfl, t5 := by kernel_rfl, a5 := Tryz.isAgg5, z5 := Tryz.sizeOf5, v5 := Tryz.zeroValue5, infoByte := by kernel_rfl, cellsByte := by kernel_rfl, sizeByte := by kernel_rfl, neB5 := by decide }
def joinB (l : List ByteArray) (sep : ByteArray) : ByteArray := ⟨(Lib.join (l.map (·.data.toList)) sep.data.toList).toArray⟩
theorem con_join {l : List ByteArray} {sep : ByteArray} (hN : l.length <= 1000000) (hlen : (Lib.join (l.map (·.data.toList)) sep.data.toList).length <= 140737488355328) : Con e0 159 [.one (.sl (l.map encStr)), .one (.lit (.string sep))] [.one (.lit (.string (joinB l sep)))] := by
 refine con_below e0_ok (by kernel_rfl) fun w S vs hv => ?_
 match vs, hv with
 | [v, u], hv =>
  obtain ⟨hv, hu, _⟩ := hv
  have hu : u = .string sep := by simpa [DRel, Rep] using hu
  subst hu
  simp only [DRel, Rep] at hv
  obtain ⟨A, n, cap, rfl, hn, hc, hm, hr⟩ := hv
  rw [List.length_map] at hn
  cases l with
  | nil =>
   simp only [List.length_nil] at hn
   subst hn
   refine (Any.strings_Join_none joinS joinX A cap sep w).mono fun e w' ⟨h1, h2⟩ => ⟨_, h1, by subst h2; exact Below.refl _ _, ?_⟩
   simp [retA, ARel, DRel, Rep, joinB, Lib.join]
  | cons x r =>
   obtain ⟨b, off, rfl, hS, hbk, hrr⟩ := hr (by rw [List.length_cons] at hn; omega)
   have hcells : ∀ (j : Nat) y, (x :: r)[j]? = some y -> w.cell? ⟨b, off + j, none⟩ = some (.string y) := fun j y hj => by
    have h1 := RepRows.get ((x :: r).map encStr) off j (encStr y) (k := 1) (fun z hz => by obtain ⟨q, _, rfl⟩ := List.mem_map.1 hz; rfl) hrr (by rw [List.getElem?_map, hj]; rfl)
    simpa [encStr, RepRow, Rep] using h1
   subst hn
   refine (Any.strings_Join joinS joinX b off cap (x :: r) sep w hcells hbk (by omega) hc hlen).mono fun e w' ⟨h1, h2⟩ => ⟨_, h1, h2, ?_⟩
   simp [retA, ARel, DRel, Rep, joinB]
end Go.Proofs.YtohilkmdjdfljaaGreat
namespace Go.Proofs.YtohilkmdjdfljaaGreat
open Go.RowKit
theorem join_snoc (sep : List UInt8) : ∀ (l : List (List UInt8)) (x : List UInt8), Lib.join (l ++ [x]) sep = (if l = [] then [] else Lib.join l sep ++ sep) ++ x
 | [], x => by simp [Lib.join]
 | a :: r, x => by
  rw [List.cons_append, Lib.join_cons, Lib.join_cons, if_neg (by simp)]
  simp [Lib.joinTail, List.append_assoc]
theorem joinB_step {l : List ByteArray} {sep x : ByteArray} {i : Nat} (h : l[i]? = some x) : joinB (l.take (i + 1)) sep = (if i = 0 then joinB (l.take i) sep else joinB (l.take i) sep ++ sep) ++ x := by
 have hi := (List.getElem?_eq_some_iff.1 h).1
 rw [take_snoc h]
 unfold joinB
 rw [List.map_append, List.map_cons, List.map_nil, join_snoc]
 by_cases h0 : i = 0
 ·subst h0
  simp [Lib.join]
  rfl
 ·have hne : (l.take i).map (fun x => x.data.toList) ≠ [] := fun e => by
   have := congrArg List.length e
   simp only [List.length_map, List.length_take, List.length_nil] at this
   omega
  rw [if_neg hne, if_neg h0]
  apply ByteArray.ext
  simp [ByteArray.data_append]
theorem join_0 (sep : ByteArray) : byR (joinB [] sep) = [] := rfl
theorem bytesTyS : bytesTy e0.P 182 9 = true := by kernel_rfl
theorem un_strB : e0.P.underlying 9 = some .string := by kernel_rfl
set_option maxHeartbeats 8000000 in
set_option maxRecDepth 100000 in
theorem con_specJoin {l : List ByteArray} {sep : ByteArray} (hl : l.length <= 1000000) (hs : sep.size <= 1048576) (hB : ∀ i, (joinB (l.take i) sep).size <= 1048576) : Con e0 154 [.one (.sl (l.map encStr)), .one (.lit (.string sep))] [.one (.lit (.string (joinB l sep)))] := by
 have hrs := rb_str l
 refine gI 134252659 Tryz.func154 ?_
 (have F := @e0P; refine gG ?_; clear F)
 (have F := @join_0; refine gL (ι := Nat) [4, 5, 6, 11, 15, 27] [5] (fun i => [(6, A.d (.one (.lit (.int .i64 i)))), (5, .buf 5)]) (fun i => [(5, .buf none 5 1 (byR (joinB (l.take i) sep)))]) (fun i => i <= l.length) (fun i => l.length - i) (0) (Nat.zero_le _) (fun i hi => ?_); clear F)
 by_cases hlt : i < l.length
 rotate_left
 ·obtain rfl : i = l.length := by omega
  have q1 : ¬ ((l.length : Int) < (l.length : Int)) := by omega
  rw [List.take_length]
  (have F := @q1; have NN : StopAt 10 := trivial; refine gGn ?_; clear F NN)
  refine gB ?_
  (have F := @e0P; refine gP 1 ?_; clear F)
  refine (have F := q1; gTx (k := 5) (joinB l sep) bytesTyS ?_)
  (have F := @e0P; refine gR ?_; clear F)
  (have F := @e0P; refine gG ?_; exact gT)
 have q1 : (i : Int) < (l.length : Int) := by omega
 have hw := wrap1 (k := i) (by omega)
 obtain ⟨x, hx⟩ : ∃ x, l[i]? = some x := ⟨_, List.getElem?_eq_getElem hlt⟩
 have hst := joinB_step (sep := sep) hx
 have hb1 := hB i
 have hb2 := hB (i + 1)
 have hl1 := byR_len (joinB (l.take i) sep)
 have hl2 := byR_len (joinB (l.take (i + 1)) sep)
 have hsz := byR_len sep
 by_cases h0 : i = 0
 ·have z0 : ((0 : Int) < (i : Int)) = False := eq_false (by omega)
  rw [if_pos h0] at hst
  have hap := byR_app (joinB (l.take i) sep) x
  rw [<- hst] at hap
  have hle : (byR (joinB (l.take i) sep)).length + (byR x).length <= maxApp := by
   rw [<- List.length_append, hap, hl2]; unfold maxApp; omega
  have z1 : ((1048576 : Int) < (((joinB (l.take (i + 1)) sep).size : Nat) : Int)) = False := eq_false (by omega)
  (have F := ai @q1 @z0; have NN : StopAt 7 := trivial; refine gGn ?_; clear F NN)
  refine gB ?_
  (have F := ai @hx (ai @encStr_u (ai @hrs @q1)); refine gP 5 ?_; clear F)
  refine (have F := q1; gSt (k := 5) hle un_strB ?_)
  rw [hap]
  (have F := @e0P; refine gR ?_; clear F)
  (have F := ai @hl2 (ai @z1 @hw); refine gG ?_; exact ⟨i + 1, hlt, gw, gw, by omega⟩)
 ·have z0 : ((0 : Int) < (i : Int)) = True := eq_true (by omega)
  rw [if_neg h0] at hst
  have hap1 := byR_app (joinB (l.take i) sep) sep
  have hap := byR_app (joinB (l.take i) sep ++ sep) x
  rw [<- hst] at hap
  have hle1 : (byR (joinB (l.take i) sep)).length + (byR sep).length <= maxApp := by
   rw [hl1, hsz]; unfold maxApp; omega
  have hle : (byR (joinB (l.take i) sep ++ sep)).length + (byR x).length <= maxApp := by
   rw [<- List.length_append, hap, hl2]; unfold maxApp; omega
  have z1 : ((1048576 : Int) < (((joinB (l.take (i + 1)) sep).size : Nat) : Int)) = False := eq_false (by omega)
  (have F := ai @q1 @z0; have NN : StopAt 6 := trivial; refine gGn ?_; clear F NN)
  refine gB ?_
  (have F := @q1; refine gP 2 ?_; clear F)
  refine (have F := q1; gSt (k := 5) hle1 un_strB ?_)
  rw [hap1]
  (have F := @e0P; refine gR ?_; clear F)
  (have F := ai @q1 @z0; have NN : StopAt 7 := trivial; refine gGn ?_; clear F NN)
  refine gB ?_
  (have F := ai @hx (ai @encStr_u (ai @hrs @q1)); refine gP 5 ?_; clear F)
  refine (have F := q1; gSt (k := 5) hle un_strB ?_)
  rw [hap]
  (have F := @e0P; refine gR ?_; clear F)
  (have F := ai @hl2 (ai @z1 @hw); refine gG ?_; exact ⟨i + 1, hlt, gw, gw, by omega⟩)
end Go.Proofs.YtohilkmdjdfljaaGreat
namespace Go.Proofs.YtohilkmdjdfljaaGreat
open Go.RowKit
open Go.Sort (grow HoldsK putRowK flatK SWO PermIn SortedIn Holds mapBlock onCells putRow putCells get_flatK size_flatK)
theorem kept_grow {w w' : World} (h : Kept True (fun _ => False) w.heap.size w w') : ∃ q os, w' = grow (w.drewN q) os := by
 obtain ⟨p, hp⟩ := regrown_of_below (w := w) (w' := w') ⟨h.os, h.tape, h.output, h.size, fun k hk => h.block k hk id⟩
 have hd := h.drawn trivial
 have e : p.d = w'.drawn := by rw [hp]; rfl
 refine ⟨w'.drawn - w.drawn, p.os, ?_⟩
 have e2 : redrawn w p.d = w.drewN (w'.drawn - w.drawn) := by
  unfold redrawn World.drewN
  rw [e, show w.drawn + (w'.drawn - w.drawn) = w'.drawn by omega]
 rw [<- e2]
 exact hp
abbrev SRow (w : World) (S : Nat -> Prop) (Q : List C -> Prop) := {x : List C × List Value // Q x.1 ∧ RepVals w S x.1 x.2}
theorem srows_of {w : World} {S : Nat -> Prop} {b k : Nat} {Q : List C -> Prop} (hk : ∀ r, Q r -> r.length = k) : ∀ (rows : List (List C)) (off : Nat), (∀ r ∈ rows, Q r) -> RepRows w S b off rows -> ∃ l : List (SRow w S Q), l.map (fun x => x.1.1) = rows ∧ ∀ (i : Nat) x, l[i]? = some x -> ∀ j u, x.1.2[j]? = some u -> w.cell? ⟨b, off + i * k + j, none⟩ = some u
 | [], off, _, _ => ⟨[], rfl, fun i x h => by simp at h⟩
 | r :: rs, off, hQ, h => by
  simp only [RepRows] at h
  obtain ⟨vs, h1, h2⟩ := h.1.vals
  obtain ⟨l, e, hl⟩ := srows_of hk rs (off + r.length) (fun x hx => hQ x (List.mem_cons_of_mem _ hx)) h.2
  have hr := hQ r List.mem_cons_self
  refine ⟨⟨(r, vs), hr, h1⟩ :: l, by simp [e], fun i x hi j u hj => ?_⟩
  cases i with
  | zero =>
   simp only [List.getElem?_cons_zero, Option.some.injEq] at hi
   subst hi
   have := h2 j u hj
   rwa [Nat.zero_mul, Nat.add_zero]
  | succ i =>
   have := hl i x (by simpa using hi) j u hj
   rw [hk r hr] at this
   rwa [show off + (i + 1) * k + j = off + k + i * k + j by rw [Nat.succ_mul]; omega]
theorem reprows_of {w W : World} {S S2 : Nat -> Prop} {b k : Nat} {Q : List C -> Prop} (hk : ∀ r, Q r -> r.length = k) (hv : ∀ x : SRow w S Q, RepVals W S2 x.1.1 x.1.2) : ∀ (l : List (SRow w S Q)) (off : Nat), (∀ (i : Nat) x, l[i]? = some x -> ∀ j u, x.1.2[j]? = some u -> W.cell? ⟨b, off + i * k + j, none⟩ = some u) -> RepRows W S2 b off (l.map (fun x => x.1.1))
 | [], off, _ => by simp [RepRows]
 | x :: l, off, h => by
  simp only [List.map_cons, RepRows]
  refine ⟨RepRow.of_vals _ _ off (hv x) fun j u hj => ?_, ?_⟩
  ·have := h 0 x rfl j u hj
   rwa [Nat.zero_mul, Nat.add_zero] at this
  ·rw [hk _ x.2.1]
   refine reprows_of hk hv l (off + k) fun i y hi j u hj => ?_
   have := h (i + 1) y (by simpa using hi) j u hj
   rwa [show off + (i + 1) * k + j = off + k + i * k + j by rw [Nat.succ_mul]; omega] at this
theorem cells_holdsK {α : Type} [Inhabited α] {enc : α -> List Value} {k : Nat} {W : World} {b : Nat} {d : Array α} (hk : ∀ x, (enc x).length = k) (h : HoldsK enc k W b 0 d) {i : Nat} {x : α} (hi : d.toList[i]? = some x) {j : Nat} {u : Value} (hj : (enc x)[j]? = some u) : W.cell? ⟨b, 0 + i * k + j, none⟩ = some u := by
 have hil : i < d.size := by have := (List.getElem?_eq_some_iff.1 hi).1; simpa using this
 have hjl : j < k := by have := (List.getElem?_eq_some_iff.1 hj).1; rwa [hk] at this
 have ht : i * k + j < d.size * k := by
  have := Nat.mul_le_mul_right k (show i + 1 <= d.size from hil)
  rw [Nat.succ_mul] at this
  omega
 have h1 := (h (i * k + j) (by rw [size_flatK]; exact ht)).1
 rw [get_flatK _ _ _ _ ht, show (i * k + j) / k = i by rw [Nat.add_comm, Nat.add_mul_div_right _ _ (by omega), Nat.div_eq_of_lt hjl, Nat.zero_add], show (i * k + j) % k = j by rw [Nat.add_comm, Nat.add_mul_mod_self_right, Nat.mod_eq_of_lt hjl]] at h1
 have e1 : d[i]! = x := by
  rw [getElem!_pos d i hil]
  have := (List.getElem?_eq_some_iff.1 hi).2
  simpa using this
 have e2 : (enc x)[j]! = u := by
  rw [getElem!_pos (enc x) j (by rw [hk]; exact hjl)]
  exact (List.getElem?_eq_some_iff.1 hj).2
 rw [e1, e2, <- Nat.add_assoc] at h1
 exact h1
theorem holdsK_of {α : Type} [Inhabited α] {enc : α -> List Value} {k : Nat} {w : World} {b : Nat} {l : List α} (hk : ∀ x, (enc x).length = k) (hf : ∀ o, w.frozen? ⟨b, o, none⟩ = false) (h : ∀ (i : Nat) x, l[i]? = some x -> ∀ j u, (enc x)[j]? = some u -> w.cell? ⟨b, 0 + i * k + j, none⟩ = some u) : HoldsK enc k w b 0 l.toArray := by
 intro t ht
 refine ⟨?_, hf _⟩
 rw [size_flatK] at ht
 have ht' : t < l.length * k := by simpa using ht
 have k0 : 0 < k := by rcases Nat.eq_zero_or_pos k with e | e; · subst e; simp at ht'
                       ·exact e
 have hi : t / k < l.length := Nat.div_lt_of_lt_mul (by rw [Nat.mul_comm]; exact ht')
 have hj : t % k < k := Nat.mod_lt _ k0
 rw [get_flatK _ _ _ _ ht]
 have e1 : l.toArray[t / k]! = l[t / k] := by rw [getElem!_pos _ _ (by simpa using hi)]; rfl
 rw [e1, getElem!_pos _ _ (by rw [hk]; exact hj)]
 have := h (t / k) l[t / k] (List.getElem?_eq_getElem hi) (t % k) _ (List.getElem?_eq_getElem (by rw [hk]; exact hj))
 rwa [show 0 + t / k * k + t % k = 0 + t by have := Nat.div_add_mod' t k; omega] at this
theorem RepVals.one {w : World} {S : Nat -> Prop} : ∀ {cs : List C} {us : List Value}, cs.all okCell = true -> RepVals w S cs us -> ∀ v ∈ us, v.oneCell' = true
 | [], [], _, _, v, h => by simp at h
 | c :: cs, u :: us, hc, h, v, hv => by
  simp only [List.all_cons, Bool.and_eq_true] at hc
  simp only [RepVals] at h
  rcases List.mem_cons.1 hv with rfl | hv
  ·exact okCell_one hc.1 h.1
  ·exact RepVals.one hc.2 h.2 v hv
 | [], _ :: _, _, h, _, _ => by simp [RepVals] at h
 | _ :: _, [], _, h, _, _ => by simp [RepVals] at h
theorem sw_block {α : Type} [Inhabited α] {enc : α -> List Value} {k : Nat} {w : World} {b n : Nat} {d : Array α} {os : Array Obj} {cur : Array Value} {ty : Nat} (hh : w.heap[b]? = some (.cells cur ty (0, 0))) : (sortWorldK enc k w b 0 n d os).heap[b]? = some (.cells (putCells id 0 (flatK enc k d) cur) ty (0, 0)) := by
 have hb : b < w.heap.size := (Array.getElem?_eq_some_iff.1 hh).1
 show ((w.heap.modify b (onCells (putCells id 0 (flatK enc k d)))) ++ os)[b]? = _
 rw [Array.getElem?_append_left (by simpa using hb), Array.getElem?_modify, if_pos rfl, hh]
 rfl
theorem sw_other {α : Type} [Inhabited α] {enc : α -> List Value} {k : Nat} {w : World} {b n j : Nat} {d : Array α} {os : Array Obj} (hj : j < w.heap.size) (hne : j ≠ b) : (sortWorldK enc k w b 0 n d os).heap[j]? = w.heap[j]? := by
 show ((w.heap.modify b (onCells (putCells id 0 (flatK enc k d)))) ++ os)[j]? = _
 rw [Array.getElem?_append_left (by simpa using hj), Array.getElem?_modify, if_neg (fun e => hne e.symm)]
theorem sw_size {α : Type} [Inhabited α] {enc : α -> List Value} {k : Nat} {w : World} {b n : Nat} {d : Array α} {os : Array Obj} : w.heap.size <= (sortWorldK enc k w b 0 n d os).heap.size := by
 show _ <= ((w.heap.modify b (onCells (putCells id 0 (flatK enc k d)))) ++ os).size
 simp
set_option maxHeartbeats 2000000 in
theorem conI_sort {P : Program} (hP : e1.P = P) {ρ : Go.Shelf.Ren} (L : SlLaysF0.n6 P ρ) {k ty : Nat} (aE : ∀ w, (isAgg (ρ.t 24)).run P w = .ok true w) (zE : ∀ w, (Go.sizeOf (ρ.t 24)).run P w = .ok k w) (hbody : hasBody P (ρ.f 6) = true) {g : FuncId} (eg : ∀ args w, (callFunc g args).run P w = .ok (.enter g args) w)
  {rows rows' : List (List C)} {cf : List C -> List C -> Int} (hlen : rows.length < 4611686018427387904) (hg : ∀ a ∈ rows, ∀ b ∈ rows, Con e1 g [.agg a, .agg b] [.one (.lit (.int .i64 (cf a b)))])
  (h1 : ∀ a ∈ rows, ¬ cf a a < 0) (h2 : ∀ a ∈ rows, ∀ b ∈ rows, ∀ c ∈ rows, cf a b < 0 -> cf b c < 0 -> cf a c < 0) (h3 : ∀ a ∈ rows, ∀ b ∈ rows, ∀ c ∈ rows, ¬ cf a b < 0 -> ¬ cf b c < 0 -> ¬ cf a c < 0)
  (hu : ∀ l : List (List C), l.Perm rows -> (∀ (i j : Nat) a b, i < j -> l[i]? = some a -> l[j]? = some b -> ¬ cf b a < 0) -> l = rows') : ConI e1 (ρ.f 6) ty k rows [.one (.fn g [])] rows' [] := by
 refine ⟨by rw [hP]; exact hbody, fun w S v0 vs hS hE hvE hG hbuf hargs => ?_⟩
 rw [hP]
 match vs, hargs with
 | [u], hargs =>
  obtain ⟨⟨us, rfl, hus⟩, _⟩ : (∃ us : List Value, u = .func (.func g) #[] us.toArray ∧ RepVals w S [] us) ∧ True := by simpa [DsRel, DRel, Rep] using hargs
  have hus0 : us = [] := by cases us with
   | nil => rfl
   | cons _ _ => simp [RepVals] at hus
  subst hus0
  obtain ⟨h0, hrl, hcase⟩ := hbuf
  by_cases hne : rows = []
  ·subst hne
   have hr' : rows' = [] := (hu [] (List.Perm.refl _) (fun i j a b _ h => by simp at h)).symm
   subst hr'
   have hform : ∃ p cap, v0 = .slice p 0 cap := by
    rcases hcase with ⟨_, a, rfl⟩ | ⟨b, cap, cur, rfl, _⟩
    ·exact ⟨a, 0, rfl⟩
    ·exact ⟨_, cap, rfl⟩
   obtain ⟨p, cap, hv0⟩ := hform
   rw [hv0]
   refine (AnyF.slices_SortFunc_none (P := P) L p cap _ w).mono ?_
   rintro e w' ⟨rfl, rfl⟩
   rw [<- hv0]
   have hs : (fun b => S b ∨ (w'.heap.size <= b ∧ b < w'.heap.size)) = S := by
    funext b
    exact propext ⟨fun h => h.elim id (fun h => absurd h.2 (by omega)), .inl⟩
   refine ⟨_, rfl, Kept.refl .., trivial, ?_, [], rfl, trivial⟩
   rw [hs]
   exact ⟨h0, hrl, hcase⟩
  ·rcases hcase with ⟨e, _⟩ | ⟨b, cap, cur, rfl, hc, hbz, hSb, hh, hle, hmx, hcs, hrows⟩
   ·exact absurd e hne
   have hkr : ∀ r, r ∈ rows -> r.length = k := fun r hr => (hrl r hr).1
   obtain ⟨l, hl, hcell⟩ := srows_of (k := k) (Q := fun r => r ∈ rows) hkr rows 0 (fun r h => h) hrows
   have hll : l.length = rows.length := by have := congrArg List.length hl; rwa [List.length_map] at this
   obtain ⟨x0, hx0⟩ : ∃ x, x ∈ l := List.exists_mem_of_ne_nil _ (fun e => hne (List.eq_nil_of_length_eq_zero (by rw [<- hll, e]; rfl)))
   letI : Inhabited (SRow w S (fun r => r ∈ rows)) := ⟨x0⟩
   have hk : ∀ x : SRow w S (fun r => r ∈ rows), x.1.2.length = k := fun x => by rw [x.2.2.len]; exact hkr _ x.2.1
   have h1c : ∀ x : SRow w S (fun r => r ∈ rows), ∀ v ∈ x.1.2, v.oneCell' = true := fun x => RepVals.one (hrl _ x.2.1).2 x.2.2
   have hH : HoldsK (fun x : SRow w S (fun r => r ∈ rows) => x.1.2) k w b 0 l.toArray := holdsK_of hk (fun o => frozen_of_row w b o cur ty hh) hcell
   have keepV : ∀ (m : Nat) (os : Array Obj) (dk : Array (SRow w S (fun r => r ∈ rows))) (S2 : Nat -> Prop), (∀ b, S b -> S2 b) -> ∀ x : SRow w S (fun r => r ∈ rows), RepVals (sortWorldK (fun x : SRow w S (fun r => r ∈ rows) => x.1.2) k w b 0 m dk os) S2 x.1.1 x.1.2 := fun m os dk S2 hS2 x =>
    RepVals.keep2 sw_size (fun b' o hb' => cell_of_heap (sw_other (hS b' hb').1 (fun e : b' = b => hSb (by rw [<- e]; exact hb'))) o) hS2 x.2.2
   have hcmp : CmpLays P g #[] (fun x : SRow w S (fun r => r ∈ rows) => x.1.2) k (fun x y => cf x.1.1 y.1.1) b 0 l.toArray.size w := by
    intro m os dk hdk x y
    have hc := (hg _ x.2.1 _ y.2.1).2 (sortWorldK (fun x : SRow w S (fun r => r ∈ rows) => x.1.2) k w b 0 m dk os) S [.agg x.1.2.toArray, .agg y.1.2.toArray] (fun b' hb' => ⟨Nat.lt_of_lt_of_le (hS b' hb').1 sw_size, id⟩) (fun b' h => h.elim) trivial
     ⟨⟨_, rfl, keepV m os dk S (fun _ h => h) x⟩, ⟨_, rfl, keepV m os dk S (fun _ h => h) y⟩, trivial⟩
    rw [hP] at hc
    refine hc.mono ?_
    rintro e w' ⟨v, rfl, hK, _, hv⟩
    have hv : v = .int .i64 (cf x.1.1 y.1.1) := by simpa [retA, ARel, DRel, Rep] using hv
    exact ⟨by rw [hv], kept_grow hK⟩
   have hO : SWO (ltOf (fun x y : SRow w S (fun r => r ∈ rows) => cf x.1.1 y.1.1)) := by
    refine ⟨fun x => ?_, fun x y z => ?_, fun x y z => ?_⟩ <;> simp only [ltOf, decide_eq_false_iff_not, decide_eq_true_eq]
    ·exact h1 _ x.2.1
    ·exact h2 _ x.2.1 _ y.2.1 _ z.2.1
    ·exact h3 _ x.2.1 _ y.2.1 _ z.2.1
   have hsort := AnyQ.slices_SortFunc L k aE zE (fun x : SRow w S (fun r => r ∈ rows) => x.1.2) hk h1c (fun x y => cf x.1.1 y.1.1) hO g #[] b 0 cap l.toArray w eg hcmp hH hbz (by simp only [List.size_toArray]; omega)
   have hlz : l.toArray.size = rows.length := by simpa using hll
   rw [hlz] at hsort
   refine hsort.mono ?_
   rintro e w' ⟨rfl, d', n, os, hp, hs, rfl⟩
   obtain ⟨hp1, _, hp3⟩ := hp
   rw [hlz] at hp1
   have hex : ∀ a : Array (SRow w S (fun r => r ∈ rows)), a.size = rows.length -> a.extract 0 rows.length = a := fun a ha => by rw [<- ha]; simp
   rw [hex d' hp1, hex _ hlz] at hp3
   have hperm : (d'.toList.map (fun x => x.1.1)).Perm rows := by
    have := hp3.map (fun x : SRow w S (fun r => r ∈ rows) => x.1.1)
    rwa [show l.toArray.toList = l from rfl, hl] at this
   have hrows' : d'.toList.map (fun x => x.1.1) = rows' := hu _ hperm fun i j a c hij ha hc => by
    simp only [List.getElem?_map, Option.map_eq_some_iff] at ha hc
    obtain ⟨x, hx, rfl⟩ := ha
    obtain ⟨y, hy, rfl⟩ := hc
    have hjl : j < rows.length := by have := (List.getElem?_eq_some_iff.1 hy).1; simpa [hp1] using this
    have := hs i j (Nat.zero_le _) hij hjl
    have ex : d'[i]! = x := by
     rw [getElem!_pos d' i (by omega)]
     have := (List.getElem?_eq_some_iff.1 hx).2
     simpa using this
    have ey : d'[j]! = y := by
     rw [getElem!_pos d' j (by omega)]
     have := (List.getElem?_eq_some_iff.1 hy).2
     simpa using this
    rw [ex, ey] at this
    simpa [ltOf] using this
   have hlr : rows'.length = rows.length := by rw [<- hrows', List.length_map, Array.length_toList, hp1]
   have hW : HoldsK (fun x : SRow w S (fun r => r ∈ rows) => x.1.2) k (sortWorldK (fun x : SRow w S (fun r => r ∈ rows) => x.1.2) k w b 0 n d' os) b 0 d' := SWK.holds (d0 := l.toArray) ⟨n, os, rfl⟩ hbz hH (by rw [hp1, hlz])
   have hvb : vblk (.slice (some ⟨b, 0, none⟩) rows.length cap) = some b := by simp only [vblk]; rw [if_neg (by omega)]
   refine ⟨_, rfl, ⟨rfl, rfl, rfl, fun _ => Nat.le_add_right _ _, sw_size, fun j hj hn => sw_other hj (fun e => hn (.inr (by rw [hvb, e])))⟩, trivial, ⟨h0, fun r hr => ?_, .inr ⟨b, cap, _, by rw [hlr], hc, Nat.lt_of_lt_of_le hbz sw_size, fun hn => ?_, sw_block hh, by omega, hmx, by simp [putCells, hcs], ?_⟩⟩, [], rfl, trivial⟩
   ·rw [<- hrows'] at hr
    exact hrl r (hperm.mem_iff.1 hr)
   ·rcases hn with hn | hn
    ·exact hSb hn
    ·omega
   ·rw [<- hrows']
    exact reprows_of (Q := fun r => r ∈ rows) hkr (keepV n os d' _ (fun b hb => .inl hb)) d'.toList 0 fun i x hi j u hj => cells_holdsK hk hW hi hj
end Go.Proofs.YtohilkmdjdfljaaGreat
namespace Go.Proofs.YtohilkmdjdfljaaGreat
open Go.Shelf
def sortT_ren : Ren := ⟨fun | 6 => 199 | 15 => 207 | 14 => 206 | 28 => 218 | 29 => 219 | 20 => 195 | 21 => 211 | 22 => 212 | 23 => 213 | 24 => 214 | 25 => 215 | 26 => 216 | 27 => 217 | 46 => 220 | 47 => 221 | 48 => 222 | 49 => 223 | 50 => 224 | 57 => 225 | n => n, fun | 22 => 39 | 24 => 41 | 25 => 188 | 3 => 3 | 39 => 247 | 0 => 0 | 53 => 267 | 55 => 269 | 4 => 4 | 46 => 260 | 45 => 259 | 50 => 264 | 5 => 5 | 9 => 9 | 66 => 270 | 70 => 274 | 76 => 276 | 77 => 277 | n => n, fun | n => n⟩
theorem sortT : Go.Proofs.SlLaysF0.n6 Tryz.prog sortT_ren := {
 mixed := by kernel_rfl,
 f6 := ⟨Tryz.f199.name, by decide, Tryz.func199.trans (congrArg some (by kernel_rfl))⟩,
 f14 := ⟨Tryz.f206.name, by decide, Tryz.func206.trans (congrArg some (by kernel_rfl))⟩,
 f15 := Tryz.func207.trans (congrArg some (by kernel_rfl)),
 f20 := ⟨Tryz.f195.name, by decide, Tryz.func195.trans (congrArg some (by kernel_rfl))⟩,
 f21 := ⟨Tryz.f211.name, by decide, Tryz.func211.trans (congrArg some (by kernel_rfl))⟩,
 f22 := ⟨Tryz.f212.name, by decide, Tryz.func212.trans (congrArg some (by kernel_rfl))⟩,
 f23 := ⟨Tryz.f213.name, by decide, Tryz.func213.trans (congrArg some (by kernel_rfl))⟩,
 f24 := ⟨Tryz.f214.name, by decide, Tryz.func214.trans (congrArg some (by kernel_rfl))⟩,
 f25 := ⟨Tryz.f215.name, by decide, Tryz.func215.trans (congrArg some (by kernel_rfl))⟩,
 f26 := ⟨Tryz.f216.name, by decide, Tryz.func216.trans (congrArg some (by kernel_rfl))⟩,
 f27 := ⟨Tryz.f217.name, by decide, Tryz.func217.trans (congrArg some (by kernel_rfl))⟩,
 f28 := Tryz.func218.trans (congrArg some (by kernel_rfl)),
 f29 := Tryz.func219.trans (congrArg some (by kernel_rfl)),
 f46 := ⟨Tryz.f220.name, by decide, Tryz.func220.trans (congrArg some (by kernel_rfl))⟩,
 f47 := Tryz.func221.trans (congrArg some (by kernel_rfl)),
 f48 := Tryz.func222.trans (congrArg some (by kernel_rfl)),
 f49 := ⟨Tryz.f223.name, by decide, Tryz.func223.trans (congrArg some (by kernel_rfl))⟩,
 f50 := ⟨Tryz.f224.name, by decide, Tryz.func224.trans (congrArg some (by kernel_rfl))⟩,
 f57 := ⟨Tryz.f225.name, by decide, Tryz.func225.trans (congrArg some (by kernel_rfl))⟩,
 t0 := Tryz.underlying0,
 a0 := Tryz.isAgg0,
 z0 := Tryz.sizeOf0,
 v0 := Tryz.zeroValue0,
 t3 := Tryz.underlying3,
 a3 := Tryz.isAgg3,
 z3 := Tryz.sizeOf3,
 v3 := Tryz.zeroValue3,
 t4 := Tryz.underlying4,
 a4 := Tryz.isAgg4,
 z4 := Tryz.sizeOf4,
 v4 := Tryz.zeroValue4,
 t5 := Tryz.underlying5,
 a5 := Tryz.isAgg5,
 z5 := Tryz.sizeOf5,
 v5 := Tryz.zeroValue5,
 t9 := Tryz.underlying9,
 a9 := Tryz.isAgg9,
 z9 := Tryz.sizeOf9,
 v9 := Tryz.zeroValue9,
 t22 := Tryz.underlying39,
 a22 := Tryz.isAgg39,
 z22 := Tryz.sizeOf39,
 v22 := Tryz.zeroValue39,
 t25 := Tryz.underlying188,
 a25 := Tryz.isAgg188,
 z25 := Tryz.sizeOf188,
 v25 := Tryz.zeroValue188,
 t39 := Tryz.underlying247,
 a39 := Tryz.isAgg247,
 z39 := Tryz.sizeOf247,
 v39 := Tryz.zeroValue247,
 t45 := Tryz.underlying259,
 a45 := Tryz.isAgg259,
 z45 := Tryz.sizeOf259,
 v45 := Tryz.zeroValue259,
 t46 := Tryz.underlying260,
 a46 := Tryz.isAgg260,
 z46 := Tryz.sizeOf260,
 v46 := Tryz.zeroValue260,
 t50 := Tryz.underlying264,
 a50 := Tryz.isAgg264,
 z50 := Tryz.sizeOf264,
 v50 := Tryz.zeroValue264,
 t53 := Tryz.underlying267,
 a53 := Tryz.isAgg267,
 z53 := Tryz.sizeOf267,
 v53 := Tryz.zeroValue267,
 t55 := Tryz.underlying269,
 a55 := Tryz.isAgg269,
 z55 := Tryz.sizeOf269,
 v55 := Tryz.zeroValue269,
 t66 := Tryz.underlying270,
 a66 := Tryz.isAgg270,
 z66 := Tryz.sizeOf270,
 v66 := Tryz.zeroValue270,
 t70 := Tryz.underlying274,
 a70 := Tryz.isAgg274,
 z70 := Tryz.sizeOf274,
 v70 := Tryz.zeroValue274,
 t76 := Tryz.underlying276,
 a76 := Tryz.isAgg276,
 z76 := Tryz.sizeOf276,
 v76 := Tryz.zeroValue276,
 t77 := Tryz.underlying277,
 a77 := Tryz.isAgg277,
 z77 := Tryz.sizeOf277,
 v77 := Tryz.zeroValue277 }
end Go.Proofs.YtohilkmdjdfljaaGreat
namespace Go.Proofs.YtohilkmdjdfljaaGreat
open Go.RowKit
theorem conI_10 {f : FuncId} {ty sz : Nat} {rows rows' : List (List C)} {args r : List D} (h : ConI e1 f ty sz rows args rows' r) : ConI e0 f ty sz rows args rows' r :=
 ⟨h.1, fun w S v0 vs h1 h2 h3 h4 h5 h6 => (h.2 w S v0 vs h1 h2 h3 h4 h5 h6).mono fun en w' ⟨v, k1, k2, k3⟩ => ⟨v, k1, ⟨k2.os, k2.tape, k2.output, fun d => d.elim, k2.size, k2.block⟩, k3⟩⟩
theorem conI_sortT (ts : List Tm) (hl : ts.length <= 4000000) : ConI e0 199 41 4 (encTms ts) [.one (.fn 140 [])] (encTms (sortTm ts)) [] := by
 have hrow : ∀ a ∈ encTms ts, a = encTm (unT a) := fun a ha => by
  rw [encTms_eq] at ha
  obtain ⟨t, _, rfl⟩ := List.mem_map.1 ha
  rw [unT_enc]
 exact conI_10 (conI_sort (P := Tryz.prog) rfl sortT (k := 4) (ty := 41) Tryz.isAgg41 Tryz.sizeOf41 (by kernel_rfl) (g := 140) (enters_of Tryz.func140 (by kernel_rfl) rfl) (rows := encTms ts) (rows' := encTms (sortTm ts)) (cf := fun a b => cmpTm (unT a) (unT b)) (by rw [encTms_len]; omega)
  (fun a ha b hb => by
   have h := con_cmp1 (unT a) (unT b)
   rwa [<- hrow a ha, <- hrow b hb] at h)
  (fun a _ => by rw [cmpTm_self]; omega) (fun a _ b _ c _ h1 h2 => cmpTm_lt_trans h1 h2) (fun a _ b _ c _ h1 h2 => by
   rw [cmpTm_neg (unT b) (unT a)] at h1
   rw [cmpTm_neg (unT c) (unT b)] at h2
   rw [cmpTm_neg (unT c) (unT a)]
   have := cmpTm_le_trans (a := unT c) (b := unT b) (c := unT a) (by omega) (by omega)
   omega)
  (fun l hp hs => by
   have hmem : ∀ a ∈ l, a = encTm (unT a) := fun a ha => hrow a (hp.mem_iff.1 ha)
   have hp2 : (l.map unT).Perm ts := by have := hp.map unT; rwa [map_unT] at this
   have hup : Up (l.map unT) := by
    refine List.pairwise_iff_getElem.2 fun i j hi hj hij => ?_
    simp only [List.getElem_map]
    simp only [List.length_map] at hi hj
    have := hs i j l[i] l[j] hij (List.getElem?_eq_getElem hi) (List.getElem?_eq_getElem hj)
    rw [cmpTm_neg (unT l[j]) (unT l[i])]
    omega
   have e := up_perm (sortTm_up ts) hup ((sortTm_perm ts).trans hp2.symm)
   rw [e, encTms_eq, List.map_map]
   conv => lhs; rw [<- List.map_id l]
   exact List.map_congr_left fun a ha => hmem a ha))
end Go.Proofs.YtohilkmdjdfljaaGreat
namespace Go.Proofs.YtohilkmdjdfljaaGreat
open Go.RowKit
def RCut (a : Option Addr) (cap ty sz : Nat) (rows : List (List C)) (r : List D) (pm : List Bk) : Prop := r = [.one (.lit (.slice a rows.length cap))] ∧ pm = [.buf (some (a, cap)) ty sz rows]
theorem sliced_zero (a : Option Addr) (k cap sz : Nat) : sliced a 0 k cap sz = .slice a k cap := by
 cases a with
 | none => simp [sliced]
 | some p =>
  have : p.add 0 = p := by cases p; simp [Addr.add]
  simp [sliced, this]
theorem lenNrm {m : List (Nat × Bk)} {a : Option Addr} {n cap : Nat} : lenA m (some true) [nrm m (.d (.one (.lit (.slice a n cap))))] = some (.d (.one (.lit (.int .i64 (n : Int))))) := by
 show lenA m (some true) [nrmBK m a n cap (bufK a n cap m)] = _
 cases bufK a n cap m with
 | none => rfl
 | some k =>
  show lenA m (some true) [nrmB a n cap k (gm m k)] = _
  cases hg : gm m k with
  | none => rfl
  | some bk =>
   cases bk with
   | var o cs => rfl
   | set E G => rfl
   | buf o ty sz rows =>
    cases o with
    | none => rfl
    | some q =>
     obtain ⟨a', cap'⟩ := q
     simp only [nrmB]
     split
     ·rename_i h
      show lenS (bufA (gm m k)) = _
      rw [hg, h.2.1]
      rfl
     ·rfl
theorem lenSub {m : List (Nat × Bk)} {a : Option Addr} {l h cap sz : Nat} : lenA m (some true) [nrm m (.d (.one (.lit (sliced a l h cap sz))))] = some (.d (.one (.lit (.int .i64 ((h - l : Nat) : Int))))) := lenNrm
theorem encTms_set (l : List Tm) (k : Nat) (t : Tm) : (encTms l).set k (encTm t) = encTms (l.set k t) := by rw [encTms_eq, encTms_eq, List.map_set]
theorem encTms_take (l : List Tm) (k : Nat) : (encTms l).take k = encTms (l.take k) := by rw [encTms_eq, encTms_eq, List.map_take]
theorem set_take' {α : Type} {l : List α} {i : Nat} {x : α} (h : i < l.length) : (l.set i x).take (i + 1) = l.take i ++ [x] := by
 rw [List.take_add_one, List.take_set_of_le (Nat.le_refl _)]
 simp [h]
theorem drop_at {l l' : List Tm} {m : Nat} (h : l.drop m = l'.drop m) (i : Nat) : l[m + i]? = l'[m + i]? := by
 rw [<- List.getElem?_drop, <- List.getElem?_drop, h]
theorem dd_short {ts : List Tm} (h : ts.length < 2) : ddT none ts = ts := by
 match ts, h with
 | [], _ => rfl
 | [x], _ => rfl
set_option maxHeartbeats 8000000 in
set_option maxRecDepth 100000 in
theorem conP_compact (ts : List Tm) (hl : ts.length <= 4000000) (a : Option Addr) (cap : Nat) : ConP e0 200 [.one (.lit (.slice a ts.length cap)), .one (.fn 97 [])] [.buf (some (a, cap)) 41 4 (encTms ts)] (RCut a cap 41 4 (encTms (ddT none ts))) := by
 refine gIP (ts := [.slot 4]) [1000] 562984581629171 Tryz.func200 ?_
 by_cases h2 : ts.length < 2
 ·have q1 : ((ts.length : Int) < 2) = True := eq_true (by omega)
  (have F := ai @q1 @tmz; refine gG ?_; clear F)
  rw [dd_short h2]
  exact (have F := encTms_len; gTP (R := RCut a cap 41 4 (encTms ts)) [1000] ⟨by rw [encTms_len], rfl⟩)
 have q1 : ((ts.length : Int) < 2) = False := eq_false (by omega)
 (have F := ai @q1 @tmz; refine gG ?_; clear F)
 clear q1
 obtain ⟨t0, ht0⟩ : ∃ t, ts[0]? = some t := ⟨_, List.getElem?_eq_getElem (by omega)⟩
 (have F := @tmz; refine gL (ι := Nat) [4, 5, 6, 7, 15, 28, 35, 49] [] (fun x => [(5, .d (.one (.lit (.int .i64 (x : Int)))))]) (fun x => []) (fun x => 1 <= x ∧ x <= ts.length ∧ ddT none (ts.take x) = ts.take x) (fun x => ts.length - x) (1) (⟨Nat.le_refl _, by omega, by rw [ddT_one ht0]; cases ts with | nil => simp at ht0 | cons y ys => simp at ht0; simp [ht0]⟩) (fun x hx => ?_); clear F)
 obtain ⟨hx1, hxn, hxd⟩ := hx
 by_cases hlt : x < ts.length
 rotate_left
 ·obtain rfl : x = ts.length := by omega
  have q1 : ((ts.length : Int) < (ts.length : Int)) = False := eq_false (by omega)
  rw [List.take_length] at hxd
  (have F := ai @q1 @tmz; refine gG ?_; clear F)
  rw [hxd]
  exact (have F := encTms_len; gTP (R := RCut a cap 41 4 (encTms ts)) [1000] ⟨by rw [encTms_len], rfl⟩)
 obtain ⟨u, hu⟩ : ∃ t, ts[x]? = some t := ⟨_, List.getElem?_eq_getElem hlt⟩
 obtain ⟨z, rfl⟩ : ∃ z, x = z + 1 := ⟨x - 1, by omega⟩
 obtain ⟨v, hv⟩ : ∃ t, ts[z]? = some t := ⟨_, List.getElem?_eq_getElem (by omega)⟩
 have q1 : (((z + 1 : Nat) : Int) < (ts.length : Int)) = True := eq_true (by omega)
 have w1 : IntKind.i64.wrap (((z + 1 : Nat) : Int) - 1) = (z : Int) := wrapN (by omega) (by omega) (by omega)
 have w2 : IntKind.i64.wrap (((z + 1 : Nat) : Int) + 1) = ((z + 1 + 1 : Nat) : Int) := wrapN (by omega) (by omega) (by omega)
 have hz1 : z + 1 < ts.length := hlt
 have hz0 : z < ts.length := by omega
 have hst := ddT_step hu hv
 generalize hxx : z + 1 = x at *
 rw [show z + 2 = x + 1 by omega] at hst
 (have F := ai @q1 @tmz; refine gG ?_; clear F)
 refine gB ?_
 (have F := ai @q1 (ai @tmz (ai @hu (ai @hv (ai @w1 (ai @hz1 (ai @hz0 @encTms_len)))))); refine gC (con_implSame u v) ?_; clear F)
 (have F := ai @q1 @tmz; refine gR ?_; clear F)
 by_cases h0 : cmpTm u v = 0
 rotate_left
 ·have q3 : decide (cmpTm u v = 0) = false := decide_eq_false h0
  rw [if_neg h0, hxd] at hst
  (have F := ai @q3 @w2; refine gG ?_; exact ⟨x + 1, ⟨by omega, hlt, by rw [hst]; simp [List.take_add_one, hu]⟩, gw, gw, by omega⟩)
 have q3 : decide (cmpTm u v = 0) = true := decide_eq_true h0
 rw [if_pos h0, hxd] at hst
 (have F := ai @q3 @tmz; have NN : StopAt 7 := trivial; refine gGn ?_; clear F NN)
 refine gB ?_
 (have F := ai @q3 @tmz; refine gP 2 ?_; clear F)
 have F := encTms_len
 refine gSub 1000 x ts.length ⟨by omega, by rw [encTms_len]; exact Nat.le_refl _⟩ ?_
 clear F
 (have F := @tmz; refine gR ?_; clear F)
 (have F := @tmz; refine gG ?_; clear F)
 (have F := @tmz; refine gL (ι := Nat × Nat × List Tm) [5, 7, 35, 49] [1000] (fun y => [(7, .d (.one (.lit (.int .i64 (y.1 : Int))))), (5, .d (.one (.lit (.int .i64 (y.2.1 : Int)))))]) (fun y => [(1000, .buf (some (a, cap)) 41 4 (encTms y.2.2))]) (fun y => 1 <= y.1 ∧ x + y.1 <= ts.length ∧ y.2.1 + 1 <= x + y.1 ∧ y.2.2.length = ts.length ∧ y.2.2.take y.2.1 = ddT none (ts.take (x + y.1)) ∧ y.2.2.drop (x + y.1 - 1) = ts.drop (x + y.1 - 1)) (fun y => ts.length - y.1) ((1, x, ts)) (⟨Nat.le_refl _, hlt, Nat.le_refl _, rfl, hst.symm, rfl⟩) (fun y hy => ?_); clear F)
 obtain ⟨j, k, us⟩ := y
 obtain ⟨h1, h2', h3, h4, h5, h6⟩ := hy
 simp only at h1 h2' h3 h4 h5 h6
 dsimp only
 have hn4 : ts.length = us.length := h4.symm
 by_cases hj : j < ts.length - x
 ·obtain ⟨i, rfl⟩ : ∃ i, j = i + 1 := ⟨j - 1, by omega⟩
  obtain ⟨u1, hu1⟩ : ∃ t, ts[x + i + 1]? = some t := ⟨_, List.getElem?_eq_getElem (by omega)⟩
  obtain ⟨v1, hv1⟩ : ∃ t, ts[x + i]? = some t := ⟨_, List.getElem?_eq_getElem (by omega)⟩
  have e1 : us[x + (i + 1)]? = some u1 := by
   rw [<- hu1, show x + (i + 1) - 1 = x + i by omega] at *
   exact drop_at h6 1
  have e2 : us[x + i]? = some v1 := by
   rw [<- hv1, show x + (i + 1) - 1 = x + i by omega] at *
   exact drop_at h6 0
  have q4 : (((i + 1 : Nat) : Int) < ((ts.length - x : Nat) : Int)) = True := eq_true (by omega)
  have w3 : IntKind.i64.wrap (((i + 1 : Nat) : Int) - 1) = (i : Int) := wrapN (by omega) (by omega) (by omega)
  have w4 : IntKind.i64.wrap (((i + 1 : Nat) : Int) + 1) = ((i + 1 + 1 : Nat) : Int) := wrapN (by omega) (by omega) (by omega)
  have hst2 := ddT_step hu1 hv1
  rw [show x + i + 2 = x + (i + 1 + 1) by omega, show x + i + 1 = x + (i + 1) by omega, <- h5] at hst2
  (have F := ai @q4 (ai @lenSub @tmz); have NN : StopAt 11 := trivial; refine gGn ?_; clear F NN)
  refine gB ?_
  (have F := ai @q4 @tmz; refine gP 3 ?_; clear F)
  have F := encTms_len
  refine gSubAq (l := x) (h := ts.length) (rows := encTms us) 1000 (i + 1) ⟨by omega, by rw [encTms_len]; omega⟩ ?_
  clear F
  (have F := ai @tmz (ai @e1 @w3); refine gP 4 ?_; clear F)
  have F := encTms_len
  refine gSubAq (l := x) (h := ts.length) (rows := encTms us) 1000 i ⟨by omega, by rw [encTms_len]; omega⟩ ?_
  clear F
  (have F := ai @tmz @e2; refine gC (con_implSame u1 v1) ?_; clear F)
  (have F := @tmz; refine gR ?_; clear F)
  by_cases h7 : cmpTm u1 v1 = 0
  ·have q5 : decide (cmpTm u1 v1 = 0) = true := decide_eq_true h7
   rw [if_pos h7] at hst2
   (have F := ai @q5 @w4; refine gG ?_; exact ⟨(i + 1 + 1, k, us), ⟨by dsimp only; omega, by dsimp only; omega, by dsimp only; omega, h4, hst2.symm, by rw [show x + (i + 1 + 1) - 1 = x + (i + 1) - 1 + 1 by omega, <- List.drop_drop, <- List.drop_drop, h6]⟩, gw, gw, by omega⟩)
  ·have q5 : decide (cmpTm u1 v1 = 0) = false := decide_eq_false h7
   rw [if_neg h7] at hst2
   obtain ⟨ok, hok⟩ : ∃ t, us[k]? = some t := ⟨_, List.getElem?_eq_getElem (by omega)⟩
   have w5 : IntKind.i64.wrap ((k : Int) + 1) = ((k + 1 : Nat) : Int) := wrapN (by omega) (by omega) (by omega)
   have hkl : k < us.length := by omega
   (have F := ai @q5 @tmz; have NN : StopAt 12 := trivial; refine gGn ?_; clear F NN)
   refine gB ?_
   (have F := ai @q5 @tmz; refine gP 4 ?_; clear F)
   have F := encTms_len
   refine gSubA (l := x) (h := ts.length) (rows := encTms us) 1000 (i + 1) ⟨by omega, by rw [encTms_len]; omega⟩ ?_
   clear F
   (have F := ai @tmz (ai @e1 (ai @hok (ai @hn4 (ai @hkl @encTms_set)))); refine gR ?_; clear F)
   (have F := ai @w4 (ai @w5 @hn4); refine gG ?_; exact ⟨(i + 1 + 1, k + 1, us.set k u1), ⟨by dsimp only; omega, by dsimp only; omega, by dsimp only; omega, by rw [List.length_set]; exact h4, by rw [hst2, set_take' hkl], by rw [List.drop_set_of_lt (by omega), show x + (i + 1 + 1) - 1 = x + (i + 1) - 1 + 1 by omega, <- List.drop_drop, <- List.drop_drop, h6]⟩, gw, gw, by omega⟩)
 ·have q4 : ((j : Int) < ((ts.length - x : Nat) : Int)) = False := eq_false (by omega)
  have hjn : x + j = ts.length := by omega
  rw [hjn, List.take_length] at h5
  have hkl : k < us.length := by omega
  (have F := ai @q4 (ai @lenSub @tmz); have NN : StopAt 14 := trivial; refine gGn ?_; clear F NN)
  refine gB ?_
  (have F := ai @q4 @tmz; refine gP 2 ?_; clear F)
  have F := ai encTms_len hn4
  refine gSub 1000 k us.length ⟨by omega, by rw [encTms_len]; exact Nat.le_refl _⟩ ?_
  rw [show us.length = (encTms us).length by rw [encTms_len]]
  refine gClear 1000 (by rw [encTms_len]; exact hkl) ?_
  clear F
  have hRl : ((encTms us).take k ++ List.replicate ((encTms us).length - k) [C.lit (Value.int IntKind.i64 0), C.lit (Value.string ByteArray.empty), C.lit (Value.int IntKind.i64 0), C.sl []]).length = us.length := by simp [encTms_len]; omega
  have hRt : ((encTms us).take k ++ List.replicate ((encTms us).length - k) [C.lit (Value.int IntKind.i64 0), C.lit (Value.string ByteArray.empty), C.lit (Value.int IntKind.i64 0), C.sl []]).take k = encTms (ddT none ts) := by
   rw [List.take_append_of_le_length (by simp [encTms_len]; omega), List.take_take, Nat.min_self, encTms_take, h5]
  generalize (encTms us).take k ++ List.replicate ((encTms us).length - k) [C.lit (Value.int IntKind.i64 0), C.lit (Value.string ByteArray.empty), C.lit (Value.int IntKind.i64 0), C.sl []] = R at hRl hRt ⊢
  (have F := @tmz; refine gR ?_; clear F)
  (have F := ai @q4 @tmz; have NN : StopAt 15 := trivial; refine gGn ?_; clear F NN)
  refine gB ?_
  (have F := ai @q4 @tmz; refine gP 2 ?_; clear F)
  have F := ai hRl hn4
  refine gSub 1000 0 k ⟨by omega, by rw [hRl]; omega⟩ ?_
  clear F
  rw [sliced_zero]
  (have F := @tmz; refine gR ?_; clear F)
  (have F := @tmz; refine gG ?_; clear F)
  refine pE [1000] [1000] (re_cut k (by rw [hRl]; omega)) ?_
  rw [hRt]
  have hk2 : k = (encTms (ddT none ts)).length := by rw [encTms_len, <- h5, List.length_take]; omega
  exact (have F := encTms_len; gTP (R := RCut a cap 41 4 (encTms (ddT none ts))) [1000] ⟨by rw [<- hk2], rfl⟩)
end Go.Proofs.YtohilkmdjdfljaaGreat
namespace Go.Proofs.YtohilkmdjdfljaaGreat
open Go.RowKit
theorem sortTm_len (ts : List Tm) : (sortTm ts).length = ts.length := (sortTm_perm ts).length_eq
theorem dd_sort (ts : List Tm) : ddT none (sortTm ts) = distTm ts := by rw [ddT_dist (sortTm_up ts), distTm_perm (sortTm_perm ts)]
set_option maxHeartbeats 4000000 in
theorem conP_distinct (ts : List Tm) (hl : ts.length <= 4000000) (a : Option Addr) (cap : Nat) : ConP e0 184 [.one (.lit (.slice a ts.length cap))] [.buf (some (a, cap)) 41 4 (encTms ts)] (RCut a cap 41 4 (encTms (distTm ts))) := by
 have hc := conP_compact (sortTm ts) (by rw [sortTm_len]; exact hl) a cap
 rw [sortTm_len, dd_sort] at hc
 refine gIP (ts := [.slot 2]) [1000] 5 Tryz.func184 ?_
 (have F := @tmz; refine gG ?_; clear F)
 refine gB ?_
 (have F := @tmz; refine gCI (conI_sortT ts hl) (by rw [encTms_len, encTms_len, sortTm_len]) ?_; clear F)
 (have F := @tmz; refine gR ?_; clear F)
 (have F := @tmz; refine gG ?_; clear F)
 refine gB ?_
 (have F := @tmz; refine gCP [1000] [1000] (hc) ?_; clear F)
 rintro r pm ⟨rfl, rfl⟩
 simp only [setA, retA, zipM, List.cons_append, List.nil_append]
 (have F := @tmz; refine gR ?_; clear F)
 (have F := @tmz; refine gG ?_; clear F)
 exact (have F := encTms_len; gTP (R := RCut a cap 41 4 (encTms (distTm ts))) [1000] ⟨rfl, rfl⟩)
mutual
theorem vars_len : ∀ t : Tm, (varsTm t).length <= 1 + bulkRow (encTm t)
 | .mk op nm so args => by
  have := varss_len args
  simp only [varsTm, encTm, bulkRow, bulkC, encTms_len]
  split
  ·simp
  ·omega
theorem varss_len : ∀ ts : List Tm, (varsTms ts).length <= ts.length + bulkRows (encTms ts)
 | [] => by simp [varsTms]
 | t :: ts => by
  have h1 := vars_len t
  have h2 := varss_len ts
  simp only [varsTms, encTms, bulkRows, List.length_append, List.length_cons]
  omega
end
theorem vars_len2 {t : Tm} (h : bulkRow (encTm t) <= 1048576) : (varsTm t).length <= 1048576 := by
 obtain ⟨op, nm, so, args⟩ := t
 have := varss_len args
 simp only [varsTm, encTm, bulkRow, bulkC, encTms_len] at h ⊢
 split
 ·simp
 ·omega
theorem varsTms_snoc : ∀ (l : List Tm) (t : Tm), varsTms (l ++ [t]) = varsTms l ++ varsTm t
 | [], t => by simp [varsTms]
 | x :: xs, t => by simp [varsTms, varsTms_snoc xs t]
theorem varsTms_take {l : List Tm} {i : Nat} {t : Tm} (h : l[i]? = some t) : varsTms (l.take (i + 1)) = varsTms (l.take i) ++ varsTm t := by
 rw [show l.take (i + 1) = l.take i ++ [t] by simp [List.take_add_one, h], varsTms_snoc]
theorem varsTms_le : ∀ (l : List Tm) (i : Nat), (varsTms (l.take i)).length <= (varsTms l).length
 | [], i => by simp [varsTms]
 | x :: xs, 0 => by simp [varsTms]
 | x :: xs, i + 1 => by have := varsTms_le xs i; simp only [List.take_succ_cons, varsTms, List.length_append]; omega
def visL (ts args : List Tm) (i : Nat) : List Tm := ts ++ varsTms (args.take i)
theorem visL_0 (ts args : List Tm) : visL ts args 0 = ts := by simp [visL, varsTms]
theorem visL_step {ts args : List Tm} {i : Nat} {b : Tm} (h : args[i]? = some b) : visL ts args (i + 1) = visL ts args i ++ varsTm b := by
 unfold visL
 rw [varsTms_take h, List.append_assoc]
theorem visL_end (ts args : List Tm) : visL ts args args.length = ts ++ varsTms args := by unfold visL; rw [List.take_length]
theorem ktF : kindT Tryz.prog 234 = some .one := by kernel_rfl
theorem ztF : sizeT Tryz.prog 234 = some 1 := by kernel_rfl
theorem otF : zeroT Tryz.prog 234 = some [.lit .nilFunc] := by kernel_rfl
theorem okNilF : okCell (.lit .nilFunc) = true := rfl
theorem okFn {f : FuncId} {cs : List C} : okCell (.fn f cs) = true := rfl
theorem encTms_nil' : encTms [] = [] := by simp [encTms]
theorem gTPn {X : Prop} {P : Program} {ts : List RS} {R : List D -> List Bk -> Prop} {σ : St} {r : List D} {pm : List Bk} (ks : List Nat) (hR : R r pm) (hx : retQP P ts R .normal σ -> X := by first | exact fun h => h | exact fun h => ⟨_, Wk.refl _, h⟩) (hr : resD P σ ts = some r := by first | (simp only [pz, ↓reduceIte, Nat.reduceEqDiff, Nat.reduceAdd, Nat.reduceSub, Nat.reduceMul, Nat.reduceLeDiff, Nat.reduceBEq, Bool.false_eq_true, decide_true, decide_false, Int.reduceLE, Int.reduceToNat, Int.reduceLT, Int.reduceEq, eq_self, Nat.reduceShiftRight, Nat.reduceAnd, Nat.reduceBneDiff, F]; exact rfl) | simp only [pz, ↓reduceIte, Nat.reduceEqDiff, Nat.reduceAdd, Nat.reduceSub, Nat.reduceMul, Nat.reduceLeDiff, Nat.reduceBEq, Bool.false_eq_true, decide_true, decide_false, Int.reduceLE, Int.reduceToNat, Int.reduceLT, Int.reduceEq, eq_self, Nat.reduceShiftRight, Nat.reduceAnd, Nat.reduceBneDiff, F]) (hg : getM σ.m ks = some pm := by first | (simp only [pz, ↓reduceIte, Nat.reduceEqDiff, Nat.reduceAdd, Nat.reduceSub, Nat.reduceMul, Nat.reduceLeDiff, Nat.reduceBEq, Bool.false_eq_true, decide_true, decide_false, Int.reduceLE, Int.reduceToNat, Int.reduceLT, Int.reduceEq, eq_self, Nat.reduceShiftRight, Nat.reduceAnd, Nat.reduceBneDiff]; exact rfl) | simp only [pz, ↓reduceIte, Nat.reduceEqDiff, Nat.reduceAdd, Nat.reduceSub, Nat.reduceMul, Nat.reduceLeDiff, Nat.reduceBEq, Bool.false_eq_true, decide_true, decide_false, Int.reduceLE, Int.reduceToNat, Int.reduceLT, Int.reduceEq, eq_self, Nat.reduceShiftRight, Nat.reduceAnd, Nat.reduceBneDiff]) (hn : ks.Nodup := by decide) (hp : pm.all pinned = true := by simp only [pz, ↓reduceIte, Nat.reduceEqDiff, Nat.reduceAdd, Nat.reduceSub, Nat.reduceMul, Nat.reduceLeDiff, Nat.reduceBEq, Bool.false_eq_true, decide_true, decide_false, Int.reduceLE, Int.reduceToNat, Int.reduceLT, Int.reduceEq, eq_self, Nat.reduceShiftRight, Nat.reduceAnd, Nat.reduceBneDiff]) : X :=
 hx ⟨r, ks, pm, hg, hn, hp, hR, resOk_of hr⟩
def ptr0 (b : Nat) : Value := .pointer (some ⟨b, 0, none⟩)
def RVis (bo bv : Nat) (f : FuncId) (ty : Nat) (ts : List Tm) (r : List D) (pm : List Bk) : Prop := ∃ a cap, r = [] ∧ pm = [.var (some bo) [.lit (.slice a ts.length cap)], .buf (some (a, cap)) ty 4 (encTms ts), .var (some bv) [.fn f [.lit (ptr0 bo), .lit (ptr0 bv)]]]
set_option maxHeartbeats 8000000 in
set_option maxRecDepth 100000 in
theorem conP_visit_of (t : Tm) (ts : List Tm) (a : Option Addr) (cap bo bv : Nat) (hne : bo ≠ bv) (hb : bulkRow (encTm t) <= 1048576) (hl : ts.length + (varsTm t).length <= 4000000)
  (h : ∀ x ∈ t.args, ∀ (us : List Tm) (a : Option Addr) (cap : Nat), us.length + (varsTm x).length <= 4000000 -> ConP e0 183 [.agg (encTm x), .one (.lit (ptr0 bo)), .one (.lit (ptr0 bv))] [.var (some bo) [.lit (.slice a us.length cap)], .buf (some (a, cap)) 41 4 (encTms us), .var (some bv) [.fn 183 [.lit (ptr0 bo), .lit (ptr0 bv)]]] (RVis bo bv 183 41 (us ++ varsTm x))) :
  ConP e0 183 [.agg (encTm t), .one (.lit (ptr0 bo)), .one (.lit (ptr0 bv))] [.var (some bo) [.lit (.slice a ts.length cap)], .buf (some (a, cap)) 41 4 (encTms ts), .var (some bv) [.fn 183 [.lit (ptr0 bo), .lit (ptr0 bv)]]] (RVis bo bv 183 41 (ts ++ varsTm t)) := by
 obtain ⟨op, nm, so, args⟩ := t
 have hc : encTm (.mk op nm so args) = [.lit (.int .i64 op), .lit (.string nm), .lit (.int .i64 so), .sl (encTms args)] := by simp only [encTm]
 have hn1 : (bo = bv) = False := eq_false hne
 have hn2 : (bv = bo) = False := eq_false (fun e => hne e.symm)
 simp only [Tm.args] at h
 simp only [encTm, bulkRow, bulkC, encTms_len] at hb
 simp only [ptr0] at h ⊢
 refine gIP (ts := []) [1001, 1000, 1002] 15728943 Tryz.func183 ?_
 by_cases ho : op = -1
 ·have q1 : (op = -1) = True := eq_true ho
  have e1 : varsTm (.mk op nm so args) = [.mk (-1) nm so []] := by simp only [varsTm, if_pos ho]
  rw [e1] at hl ⊢
  simp only [List.length_cons, List.length_nil, Nat.zero_add] at hl
  have hm : ts.length + 1 <= maxApp := by unfold maxApp; omega
  have c1 : encTm (.mk (-1) nm so []) = [.lit (.int .i64 (-1)), .lit (.string nm), .lit (.int .i64 so), .sl []] := by simp only [encTm, encTms]
  (have F := ai @hc (ai @q1 @tmz); have NN : StopAt 2 := trivial; refine gGn ?_; clear F NN)
  have hR : ∀ (a2 : Option Addr) (cap2 : Nat), RVis bo bv 183 41 (ts ++ [.mk (-1) nm so []]) [] [.var (some bo) [.lit (.slice a2 (ts.length + 1) cap2)], .buf (some (a2, cap2)) 41 4 (encTms ts ++ [[.lit (.int .i64 (-1)), .lit (.string nm), .lit (.int .i64 so), .sl []]]), .var (some bv) [.fn 183 [.lit (.pointer (some ⟨bo, 0, none⟩)), .lit (.pointer (some ⟨bv, 0, none⟩))]]] := fun a2 cap2 => ⟨a2, cap2, rfl, by
   rw [show encTms (ts ++ [.mk (-1) nm so []]) = encTms ts ++ [[.lit (.int .i64 (-1)), .lit (.string nm), .lit (.int .i64 so), .sl []]] by rw [encTms_eq, List.map_append, <- encTms_eq, List.map_cons, List.map_nil, c1], List.length_append]
   rfl⟩
  have a1 : (ts.length < ts.length + 1) = True := eq_true (Nat.lt_succ_self _)
  have a2 : ∀ Z : List C, (encTms ts ++ [Z])[ts.length]? = some Z := fun Z => by rw [List.getElem?_append_right (by rw [encTms_len]; exact Nat.le_refl _), encTms_len, Nat.sub_self]; rfl
  have a3 : ∀ Z X : List C, (encTms ts ++ [Z]).set ts.length X = encTms ts ++ [X] := fun Z X => by rw [List.set_append_right _ _ (by rw [encTms_len]; exact Nat.le_refl _), encTms_len, Nat.sub_self]; rfl
  have F := ai a1 (ai a2 (ai a3 (ai hc (ai q1 (ai @lenNrm (ai hm (ai hn1 (ai hn2 tmz))))))))
  refine gTree 8 ?_
  refine gT1 8 ?_
  refine gS 17 fun a2 cap2 => ?_
  refine runs_nil ?_
  refine gT2 9 11 ?_ ?_
  ·refine runs_nil ?_
   refine gT2 10 11 ?_ ?_
   ·refine runs_nil ?_
    refine gT1 11 ?_
    refine runs_nil ?_
    refine gT0 ?_
    (refine wkI ?_; (have F := @tmz; refine gG ?_; clear F); exact (have F := tmz; gTP [1001, 17, 1002] (hR a2 cap2)))
   ·refine runs_nil ?_
    refine gT1 10 ?_
    refine runs_nil ?_
    refine gT0 ?_
    (refine wkI ?_; (have F := @tmz; refine gG ?_; clear F); exact (have F := tmz; gTP [1001, 17, 1002] (hR a2 cap2)))
  ·refine runs_nil ?_
   refine gT1 9 ?_
   refine runs_nil ?_
   refine gT1 10 ?_
   refine runs_nil ?_
   refine gT0 ?_
   (refine wkI ?_; (have F := @tmz; refine gG ?_; clear F); exact (have F := tmz; gTP [1001, 17, 1002] (hR a2 cap2)))
 ·have q1 : (op = -1) = False := eq_false ho
  have e1 : varsTm (.mk op nm so args) = varsTms args := by simp only [varsTm, if_neg ho]
  rw [e1] at hl ⊢
  have hal : args.length <= 1048576 := by omega
  (have F := ai @hc (ai @q1 @tmz); refine gG ?_; clear F)
  (have F := @visL_0; refine gL (ι := Nat × Option Addr × Nat) [5, 22, 23] [1000, 1001, 1002] (fun x => [(22, .d (.one (.lit (.int .i64 (x.1 : Int)))))]) (fun x => [(1001, .var (some bo) [.lit (.slice x.2.1 (visL ts args x.1).length x.2.2)]), (1000, .buf (some (x.2.1, x.2.2)) 41 4 (encTms (visL ts args x.1))), (1002, .var (some bv) [.fn 183 [.lit (.pointer (some ⟨bo, 0, none⟩)), .lit (.pointer (some ⟨bv, 0, none⟩))]])]) (fun x => x.1 <= args.length) (fun x => args.length - x.1) ((0, a, cap)) (Nat.zero_le _) (fun x hx => ?_); clear F)
  obtain ⟨i, a2, cap2⟩ := x
  simp only at hx
  dsimp only
  by_cases hlt : i < args.length
  ·obtain ⟨b, hg⟩ : ∃ b, args[i]? = some b := ⟨_, List.getElem?_eq_getElem hlt⟩
   have q2 : ((i : Int) < (args.length : Int)) = True := eq_true (by omega)
   have q4 : IntKind.i64.wrap ((i : Int) + 1) = (i : Int) + 1 := IntWalk.i64_in _ (by omega)
   have hvt := varsTms_take hg
   have hle := varsTms_le args (i + 1)
   rw [hvt, List.length_append] at hle
   have hcon := h b (List.mem_of_getElem? hg) (visL ts args i) a2 cap2 (by unfold visL; rw [List.length_append]; omega)
   rw [<- visL_step hg] at hcon
   (have F := ai @q2 (ai @hc (ai @encTms_len (ai @encTms_get (ai @hg @tmz)))); refine gG ?_; clear F)
   refine gB ?_
   (have F := ai @ktF (ai @hn1 (ai @hn2 @tmz)); refine gCP [1001, 1000, 1002] [1001, 1000, 1002] (hcon) ?_; clear F)
   rintro r pm ⟨a3, cap3, rfl, rfl⟩
   simp only [ptr0, setA, retA, zipM, List.cons_append, List.nil_append]
   (have F := @tmz; refine gR ?_; clear F)
   (have F := @q4; refine gG ?_; exact ⟨(i + 1, a3, cap3), hlt, gw, gw, by omega⟩)
  ·obtain rfl : i = args.length := by omega
   have q2 : ((args.length : Int) < (args.length : Int)) = False := eq_false (by omega)
   (have F := @q2; refine gG ?_; clear F)
   have hR : RVis bo bv 183 41 (ts ++ varsTms args) [] [.var (some bo) [.lit (.slice a2 (visL ts args args.length).length cap2)], .buf (some (a2, cap2)) 41 4 (encTms (visL ts args args.length)), .var (some bv) [.fn 183 [.lit (.pointer (some ⟨bo, 0, none⟩)), .lit (.pointer (some ⟨bv, 0, none⟩))]]] := by
    rw [<- visL_end]
    exact ⟨a2, cap2, rfl, rfl⟩
   exact (have F := tmz; gTPn [1001, 1000, 1002] hR)
theorem conP_visit_n (bo bv : Nat) (hne : bo ≠ bv) (n : Nat) : ∀ (t : Tm), nodesRow (encTm t) < n -> bulkRow (encTm t) <= 1048576 -> ∀ (ts : List Tm) (a : Option Addr) (cap : Nat), ts.length + (varsTm t).length <= 4000000 -> ConP e0 183 [.agg (encTm t), .one (.lit (ptr0 bo)), .one (.lit (ptr0 bv))] [.var (some bo) [.lit (.slice a ts.length cap)], .buf (some (a, cap)) 41 4 (encTms ts), .var (some bv) [.fn 183 [.lit (ptr0 bo), .lit (ptr0 bv)]]] (RVis bo bv 183 41 (ts ++ varsTm t)) := by
 induction n with
 | zero => exact fun _ h => by omega
 | succ n ih =>
  intro t hn hb ts a cap hl
  refine conP_visit_of t ts a cap bo bv hne hb hl fun x hx us a cap hl2 => ih x ?_ ?_ us a cap hl2
  ·obtain ⟨op, nm, so, args⟩ := t
   simp only [encTm, nodesRow, nodesC] at hn
   simp only [Tm.args] at hx
   obtain ⟨i, hi⟩ := List.getElem?_of_mem hx
   have hi' : (encTms args)[i]? = some (encTm x) := by rw [encTms_get, hi]; rfl
   have h1 := nodes_get hi'
   omega
  ·obtain ⟨op, nm, so, args⟩ := t
   simp only [encTm, bulkRow, bulkC] at hb
   simp only [Tm.args] at hx
   obtain ⟨i, hi⟩ := List.getElem?_of_mem hx
   have hi' : (encTms args)[i]? = some (encTm x) := by rw [encTms_get, hi]; rfl
   have h1 := bulk_get hi'
   omega
set_option maxHeartbeats 8000000 in
set_option maxRecDepth 100000 in
theorem con_implVars (t : Tm) (hb : bulkRow (encTm t) <= 1048576) : Con e0 157 [.agg (encTm t)] [.one (.sl (encTms (varsOf t)))] := by
 have hv := vars_len2 hb
 refine gI (ts := [.slot 2]) 31 Tryz.func157 ?_
 (have F := @tmz; have NN : StopAt 1 := trivial; refine gGn ?_; clear F NN)
 refine gB ?_
 (have F := @tmz; refine gP 1 ?_; clear F)
 refine gO 5 41 4 ?_
 refine gS 5 fun a cap => ?_
 (have F := @tmz; refine gR ?_; clear F)
 (have F := ai @otF (ai @ztF @tmz); have NN : StopAt 3 := trivial; refine gGn ?_; clear F NN)
 refine pV 3 fun b3 hb3 => ?_
 refine pV 4 fun b4 hb4 => ?_
 have hne : b3 ≠ b4 := fun e => hb4 3 b3 _ (by decide) rfl e.symm
 clear hb3 hb4
 have hn1 : (b3 = b4) = False := eq_false hne
 have hn2 : (b4 = b3) = False := eq_false (fun e => hne e.symm)
 (have F := ai @ktF (ai @ztF (ai @okNilF (ai @okFn (ai @hn1 (ai @hn2 @tmz))))); have NN : StopAt 4 := trivial; refine gGn ?_; clear F NN)
 refine gB ?_
 have hcon := conP_visit_n b3 b4 hne _ t (Nat.lt_succ_self _) (by omega) [] a cap (by simp; omega)
 have hdis := fun (a : Option Addr) (cap : Nat) => conP_distinct (varsTm t) (by omega) a cap
 simp only [ptr0, List.length_nil, List.nil_append, encTms_nil'] at hcon
 (have F := ai @ktF (ai @hn1 (ai @hn2 @tmz)); refine gCP [3, 5, 4] [3, 5, 4] (hcon) ?_; clear F)
 rintro r pm ⟨a2, cap2, rfl, rfl⟩
 simp only [ptr0, setA, retA, zipM, List.cons_append, List.nil_append]
 (have F := @tmz; refine gR ?_; clear F)
 (have F := @tmz; refine gG ?_; clear F)
 refine gB ?_
 (have F := ai @hn1 (ai @hn2 @tmz); refine gCP [5] [5] (hdis a2 cap2) ?_; clear F)
 rintro r pm ⟨rfl, rfl⟩
 simp only [setA, retA, zipM, List.cons_append, List.nil_append]
 (have F := @tmz; refine gR ?_; clear F)
 refine pD 5 [2] [] ?_ (hs := by simp only [pz, ↓reduceIte, Nat.reduceEqDiff, Nat.reduceAdd, Nat.reduceSub, Nat.reduceMul, Nat.reduceLeDiff, Nat.reduceBEq, Bool.false_eq_true, decide_true, decide_false, Int.reduceLE, Int.reduceToNat, Int.reduceLT, Int.reduceEq, eq_self, Nat.reduceShiftRight, Nat.reduceAnd, Nat.reduceBneDiff]; exact rfl)
 (have F := @tmz; refine gG ?_; exact gTd)
end Go.Proofs.YtohilkmdjdfljaaGreat
namespace Go.Proofs.YtohilkmdjdfljaaGreat
open Go.RowKit
theorem con_l5Var (nm : ByteArray) (so : Int) : Con e0 198 [.one (.lit (.string nm)), .one (.lit (.int .i64 so))] [.agg (encTm (.mk (-1) nm so []))] := by
 have c1 : encTm (.mk (-1) nm so []) = [.lit (.int .i64 (-1)), .lit (.string nm), .lit (.int .i64 so), .sl []] := by simp only [encTm, encTms]
 rw [c1]
 refine gI (ts := [.cell 4 41]) 19 Tryz.func198 ?_
 (have F := @e0P; refine gG ?_; exact gTd)
theorem insTm_step {t x : Tm} {ts : List Tm} {i : Nat} (hx : ts[i]? = some x) (h : insTm t ts = ts.take i ++ insTm t (ts.drop i)) (hc : cmpTm x t < 0) : insTm t ts = ts.take (i + 1) ++ insTm t (ts.drop (i + 1)) := by
 obtain ⟨hl, e⟩ := List.getElem?_eq_some_iff.1 hx
 rw [h, List.drop_eq_getElem_cons hl, e, insTm, if_pos hc]
 simp [List.take_add_one, hx]
theorem insTm_same {t x : Tm} {ts : List Tm} {i : Nat} (hx : ts[i]? = some x) (h : insTm t ts = ts.take i ++ insTm t (ts.drop i)) (hc : cmpTm x t = 0) : insTm t ts = ts := by
 obtain ⟨hl, e⟩ := List.getElem?_eq_some_iff.1 hx
 rw [h, List.drop_eq_getElem_cons hl, e, insTm, if_neg (by omega), if_pos hc, <- e, <- List.drop_eq_getElem_cons hl, List.take_append_drop]
theorem insTm_here {t x : Tm} {ts : List Tm} {i : Nat} (hx : ts[i]? = some x) (h : insTm t ts = ts.take i ++ insTm t (ts.drop i)) (h1 : ¬ cmpTm x t < 0) (h2 : ¬ cmpTm x t = 0) : insTm t ts = ts.take i ++ [t] ++ ts.drop i := by
 obtain ⟨hl, e⟩ := List.getElem?_eq_some_iff.1 hx
 rw [h, List.drop_eq_getElem_cons hl, e, insTm, if_neg h1, if_neg h2]
 simp
theorem insTm_end {t : Tm} {ts : List Tm} {i : Nat} (hi : ts.length <= i) (h : insTm t ts = ts.take i ++ insTm t (ts.drop i)) : insTm t ts = ts.take i ++ [t] ++ ts.drop i := by
 rw [h, List.drop_eq_nil_of_le hi, insTm]
 simp
theorem encTms_app (a b : List Tm) : encTms (a ++ b) = encTms a ++ encTms b := by rw [encTms_eq, encTms_eq, encTms_eq, List.map_append]
theorem encTms_drop (l : List Tm) (k : Nat) : (encTms l).drop k = encTms (l.drop k) := by rw [encTms_eq, encTms_eq, List.map_drop]
theorem encTms_one (t : Tm) : encTms [t] = [encTm t] := by simp [encTms]
set_option maxHeartbeats 8000000 in
set_option maxRecDepth 100000 in
theorem con_l5Insert (ts : List Tm) (t : Tm) (hts : okTms ts) (ht : okTm t) (hl : ts.length <= 8000000) : Con e0 197 [.one (.sl (encTms ts)), .agg (encTm t)] [.one (.sl (encTms (insTm t ts)))] := by
 refine gI (ts := [.slot 4]) 8590459003 Tryz.func197 ?_
 (have F := @tmz; refine gG ?_; clear F)
 (have F := @tmz; refine gL (ι := Nat) [5, 19] [] (fun x => [(5, .d (.one (.lit (.int .i64 (x : Int)))))]) (fun x => []) (fun x => x <= ts.length ∧ insTm t ts = ts.take x ++ insTm t (ts.drop x)) (fun x => ts.length - x) (0) (⟨Nat.zero_le _, rfl⟩) (fun x hx => ?_); clear F)
 obtain ⟨hi, hf⟩ := hx
 by_cases hlt : x < ts.length
 ·obtain ⟨a, ha⟩ : ∃ n, ts[x]? = some n := ⟨_, List.getElem?_eq_getElem hlt⟩
  have q1 : ((x : Int) < (ts.length : Int)) = True := eq_true (by omega)
  have q4 : IntKind.i64.wrap ((x : Int) + 1) = (x : Int) + 1 := IntWalk.i64_in _ (by omega)
  have hcmp := con_specCmp (hts.mem (List.mem_of_getElem? ha)) ht
  (have F := ai @q1 @tmz; refine gG ?_; clear F)
  refine gB ?_
  (have F := ai @q1 (ai @tmz @ha); refine gC (hcmp) ?_; clear F)
  by_cases hc : cmpTm a t < 0
  ·have q2 : (cmpTm a t < 0) = True := eq_true hc
   (have F := ai @q1 (ai @q2 @tmz); refine gR ?_; clear F)
   have hs := insTm_step ha hf hc
   (have F := ai @q4 @q2; refine gG ?_; exact ⟨x + 1, ⟨hlt, hs⟩, gw, gw, by omega⟩)
  ·have q2 : (cmpTm a t < 0) = False := eq_false hc
   (have F := ai @q1 (ai @q2 @tmz); refine gR ?_; clear F)
   (have F := ai @q1 (ai @q2 @tmz); refine gG ?_; clear F)
   refine gB ?_
   (have F := ai @q1 (ai @tmz @ha); refine gC (con_l5Same (hts.mem (List.mem_of_getElem? ha)) ht) ?_; clear F)
   by_cases h0 : cmpTm a t = 0
   ·have q3 : decide (cmpTm a t = 0) = true := decide_eq_true h0
    (have F := ai @q1 (ai @q3 @tmz); refine gR ?_; clear F)
    rw [insTm_same ha hf h0]
    (have F := ai @q3 @tmz; refine gG ?_; exact gTd)
   ·have q3 : decide (cmpTm a t = 0) = false := decide_eq_false h0
    (have F := ai @q1 (ai @q3 @tmz); refine gR ?_; clear F)
    have hins := insTm_here ha hf hc h0
    (have F := ai @q3 @tmz; have NN : StopAt 6 := trivial; refine gGn ?_; clear F NN)
    rw [hins, encTms_app, encTms_app, encTms_one, <- encTms_take, <- encTms_drop]
    have hxl : ((x : Int) <= (ts.length : Int)) = True := eq_true (by omega)
    have r1 : rowsB 4 ((encTms ts).take x) = true := by rw [encTms_take]; exact rb_tm _
    have r2 : rowsB 4 ((encTms ts).drop x) = true := by rw [encTms_drop]; exact rb_tm _
    have n1 : ((encTms ts).take x).length <= 8000000 := by rw [List.length_take, encTms_len]; omega
    have n2 : ((encTms ts).drop x).length <= 8000000 := by rw [List.length_drop, encTms_len]; omega
    have n3 : ((encTms ts).take x).length + 1 <= maxApp := by unfold maxApp; omega
    have n4 : ((encTms ts).take x).length + 1 + ((encTms ts).drop x).length <= maxApp := by unfold maxApp; omega
    have F := ai r1 (ai r2 (ai hxl (ai n3 (ai n4 tmz))))
    refine gA 7 4 ?_ (.inl rfl) ?_
    ·show 0 + _ <= maxApp
     unfold maxApp; omega
    clear F
    (have F := ai @r1 (ai @r2 (ai @hxl (ai @n3 (ai @n4 @tmz)))); refine gR ?_; clear F)
    have tkA : (encTms ts).take ts.length = encTms ts := by rw [<- encTms_len ts, List.take_length]
    have n5 : ((encTms ts).take x ++ [encTm t]).length + ((encTms ts).drop x).length <= maxApp := by simp only [List.length_append, List.length_cons, List.length_nil]; omega
    have hll : ((ts.length : Int) <= (ts.length : Int)) = True := eq_true (Int.le_refl _)
    (have F := ai @r1 (ai @r2 (ai @hxl (ai @n3 (ai @n4 (ai @n5 (ai @hll (ai @tkA @tmz))))))); refine gG ?_; exact gTz [4])
 ·have q1 : ((x : Int) < (ts.length : Int)) = False := eq_false (by omega)
  have hins := insTm_end (by omega) hf
  (have F := ai @q1 @tmz; have NN : StopAt 6 := trivial; refine gGn ?_; clear F NN)
  rw [hins, encTms_app, encTms_app, encTms_one, <- encTms_take, <- encTms_drop]
  have hxl : ((x : Int) <= (ts.length : Int)) = True := eq_true (by omega)
  have r1 : rowsB 4 ((encTms ts).take x) = true := by rw [encTms_take]; exact rb_tm _
  have r2 : rowsB 4 ((encTms ts).drop x) = true := by rw [encTms_drop]; exact rb_tm _
  have n1 : ((encTms ts).take x).length <= 8000000 := by rw [List.length_take, encTms_len]; omega
  have n2 : ((encTms ts).drop x).length <= 8000000 := by rw [List.length_drop, encTms_len]; omega
  have n3 : ((encTms ts).take x).length + 1 <= maxApp := by unfold maxApp; omega
  have n4 : ((encTms ts).take x).length + 1 + ((encTms ts).drop x).length <= maxApp := by unfold maxApp; omega
  have F := ai r1 (ai r2 (ai hxl (ai n3 (ai n4 tmz))))
  refine gA 7 4 ?_ (.inl rfl) ?_
  ·show 0 + _ <= maxApp
   unfold maxApp; omega
  clear F
  (have F := ai @r1 (ai @r2 (ai @hxl (ai @n3 (ai @n4 @tmz)))); refine gR ?_; clear F)
  have tkA : (encTms ts).take ts.length = encTms ts := by rw [<- encTms_len ts, List.take_length]
  have n5 : ((encTms ts).take x ++ [encTm t]).length + ((encTms ts).drop x).length <= maxApp := by simp only [List.length_append, List.length_cons, List.length_nil]; omega
  have hll : ((ts.length : Int) <= (ts.length : Int)) = True := eq_true (Int.le_refl _)
  (have F := ai @r1 (ai @r2 (ai @hxl (ai @n3 (ai @n4 (ai @n5 (ai @hll (ai @tkA @tmz))))))); refine gG ?_; exact gTz [4])
theorem con_clip2 {e : Env} {f : FuncId} {a : D} {rows : List (List C)} {r : List D} (h : Con e f [a, .one (.sl rows)] r) : Con e f [a, .clip rows] r :=
 ⟨h.1, fun w S vs h1 h2 h3 h4 => h.2 w S vs h1 h2 h3 (by
  match vs, h4 with
  | [x, y], h4 => exact ⟨h4.1, h4.2.1.1, trivial⟩)⟩
theorem okTm_var {op so : Int} {nm : ByteArray} {args : List Tm} (h : okTm (.mk op nm so args)) : okTm (.mk (-1) nm so []) := by
 simp only [okTm, okTms, and_true] at h ⊢
 exact ⟨by unfold I64; omega, h.2.1, h.2.2.1⟩
def colT (l : List Tm) (r : List Tm) : List Tm := l.foldl (fun r t => insTm t r) r
theorem colT_nil0 {ts : List Tm} : colT (varsTms []) ts = ts := by simp [colT, varsTms]
theorem colT_app (a b r : List Tm) : colT (a ++ b) r = colT b (colT a r) := by unfold colT; rw [List.foldl_append]
theorem insTm_len (t : Tm) : ∀ l : List Tm, (insTm t l).length <= l.length + 1
 | [] => by simp [insTm]
 | x :: xs => by
  have := insTm_len t xs
  simp only [insTm]
  split
  ·simp only [List.length_cons]; omega
  ·split <;> simp only [List.length_cons] <;> omega
theorem colT_len : ∀ (l r : List Tm), (colT l r).length <= r.length + l.length
 | [], r => by simp [colT]
 | x :: xs, r => by
  have h1 := colT_len xs (insTm x r)
  have h2 := insTm_len x r
  simp only [colT, List.foldl_cons, List.length_cons] at h1 ⊢
  omega
theorem insTm_ok {t : Tm} (ht : okTm t) : ∀ {l : List Tm}, okTms l -> okTms (insTm t l)
 | [], _ => by simp only [insTm, okTms]; exact ⟨ht, trivial⟩
 | x :: xs, h => by
  simp only [okTms] at h
  simp only [insTm]
  split
  ·simp only [okTms]; exact ⟨h.1, insTm_ok ht h.2⟩
  ·split
   ·simp only [okTms]; exact h
   ·simp only [okTms]; exact ⟨ht, h⟩
theorem colT_ok : ∀ {l r : List Tm}, okTms l -> okTms r -> okTms (colT l r)
 | [], r, _, h => h
 | x :: xs, r, h1, h2 => by
  simp only [okTms] at h1
  exact colT_ok (l := xs) (r := insTm x r) h1.2 (insTm_ok h1.1 h2)
theorem okTms_app : ∀ {a b : List Tm}, okTms a -> okTms b -> okTms (a ++ b)
 | [], _, _, h => h
 | x :: xs, b, h1, h2 => by
  simp only [okTms] at h1
  simp only [List.cons_append, okTms]
  exact ⟨h1.1, okTms_app h1.2 h2⟩
mutual
theorem varsTm_ok : ∀ {t : Tm}, okTm t -> okTms (varsTm t)
 | .mk op nm so args, h => by
  simp only [varsTm]
  split
  ·simp only [okTms]; exact ⟨okTm_var h, trivial⟩
  ·simp only [okTm] at h; exact varsTms_ok h.2.2.2
theorem varsTms_ok : ∀ {l : List Tm}, okTms l -> okTms (varsTms l)
 | [], _ => by simp [varsTms, okTms]
 | x :: xs, h => by
  simp only [okTms] at h
  simp only [varsTms]
  exact okTms_app (varsTm_ok h.1) (varsTms_ok h.2)
end
theorem okTms_take : ∀ {l : List Tm} (i : Nat), okTms l -> okTms (l.take i)
 | [], _, _ => by simp [okTms]
 | x :: xs, 0, _ => by simp [okTms]
 | x :: xs, i + 1, h => by
  simp only [okTms] at h
  simp only [List.take_succ_cons, okTms]
  exact ⟨h.1, okTms_take i h.2⟩
set_option maxHeartbeats 8000000 in
theorem con_l5Collect_of (t : Tm) (ts : List Tm) (ht : okTm t) (hts : okTms ts) (hb : bulkRow (encTm t) <= 1048576) (hl : ts.length + (varsTm t).length <= 7000000) (h : ∀ x ∈ t.args, ∀ us : List Tm, okTms us -> us.length + (varsTm x).length <= 7000000 -> Con e0 181 [.agg (encTm x), .one (.sl (encTms us))] [.one (.sl (encTms (colT (varsTm x) us)))]) :
  Con e0 181 [.agg (encTm t), .one (.sl (encTms ts))] [.one (.sl (encTms (colT (varsTm t) ts)))] := by
 obtain ⟨op, nm, so, args⟩ := t
 have hc : encTm (.mk op nm so args) = [.lit (.int .i64 op), .lit (.string nm), .lit (.int .i64 so), .sl (encTms args)] := by simp only [encTm]
 simp only [Tm.args] at h
 simp only [encTm, bulkRow, bulkC, encTms_len] at hb
 refine gI (ts := [.slot 4]) 1048887 Tryz.func181 ?_
 by_cases ho : op = -1
 ·have q1 : (op = -1) = True := eq_true ho
  have e1 : varsTm (.mk op nm so args) = [.mk (-1) nm so []] := by simp only [varsTm, if_pos ho]
  rw [e1] at hl ⊢
  simp only [List.length_cons, List.length_nil, Nat.zero_add] at hl
  have hI := con_l5Insert ts (.mk (-1) nm so []) hts (okTm_var ht) (by omega)
  (have F := ai @hc (ai @q1 @tmz); refine gG ?_; clear F)
  refine gB ?_
  (have F := @hc; refine gC (con_l5Var nm so) ?_; clear F)
  (have F := @hc; refine gC (hI) ?_; clear F)
  (have F := @hc; refine gR ?_; clear F)
  simp only [colT, List.foldl_cons, List.foldl_nil]
  (have F := @tmz; refine gG ?_; exact gTd)
 ·have q1 : (op = -1) = False := eq_false ho
  have e1 : varsTm (.mk op nm so args) = varsTms args := by simp only [varsTm, if_neg ho]
  rw [e1] at hl ⊢
  have hk : okTms args := by simp only [okTm] at ht; exact ht.2.2.2
  (have F := ai @hc (ai @q1 @tmz); refine gG ?_; clear F)
  (have F := ai ((fun (r : List Tm) => (colT_nil0 : colT (varsTms []) r = r))) @tmz; refine gL (ι := Nat) [1, 5, 20] [] (fun x => [(5, .d (.one (.lit (.int .i64 (x : Int))))), (1, .d (.one (.sl (encTms (colT (varsTms (args.take x)) ts)))))]) (fun x => []) (fun x => x <= args.length) (fun x => args.length - x) (0) (Nat.zero_le _) (fun x hx => ?_); clear F)
  by_cases hlt : x < args.length
  ·obtain ⟨b, hg⟩ : ∃ b, args[x]? = some b := ⟨_, List.getElem?_eq_getElem hlt⟩
   have q2 : ((x : Int) < (args.length : Int)) = True := eq_true (by omega)
   have q4 : IntKind.i64.wrap ((x : Int) + 1) = (x : Int) + 1 := IntWalk.i64_in _ (by omega)
   have hvt := varsTms_take hg
   have hle := varsTms_le args (x + 1)
   rw [hvt, List.length_append] at hle
   have hcl := colT_len (varsTms (args.take x)) ts
   have hcon := h b (List.mem_of_getElem? hg) (colT (varsTms (args.take x)) ts) (colT_ok (varsTms_ok (okTms_take x hk)) hts) (by omega)
   rw [<- colT_app, <- hvt] at hcon
   (have F := ai @q2 (ai @hc @tmz); refine gG ?_; clear F)
   refine gB ?_
   (have F := ai @q2 (ai @hc (ai @hg @tmz)); refine gC (hcon) ?_; clear F)
   (have F := @tmz; refine gR ?_; clear F)
   (have F := @q4; refine gG ?_; exact ⟨x + 1, hlt, gw, gw, by omega⟩)
  ·obtain rfl : x = args.length := by omega
   have q2 : ((args.length : Int) < (args.length : Int)) = False := eq_false (by omega)
   rw [List.take_length]
   (have F := ai @q2 (ai @hc @tmz); refine gG ?_; exact gTd)
theorem con_l5Collect_n (n : Nat) : ∀ t : Tm, nodesRow (encTm t) < n -> okTm t -> bulkRow (encTm t) <= 1048576 -> ∀ ts : List Tm, okTms ts -> ts.length + (varsTm t).length <= 7000000 -> Con e0 181 [.agg (encTm t), .one (.sl (encTms ts))] [.one (.sl (encTms (colT (varsTm t) ts)))] := by
 induction n with
 | zero => exact fun _ h => by omega
 | succ n ih =>
  intro t hn ht hb ts hts hl
  refine con_l5Collect_of t ts ht hts hb hl fun x hx us hus hl2 => ?_
  obtain ⟨op, nm, so, args⟩ := t
  simp only [encTm, nodesRow, nodesC] at hn
  simp only [encTm, bulkRow, bulkC] at hb
  simp only [okTm] at ht
  simp only [Tm.args] at hx
  obtain ⟨i, hi⟩ := List.getElem?_of_mem hx
  have hi' : (encTms args)[i]? = some (encTm x) := by rw [encTms_get, hi]; rfl
  have h1 := nodes_get hi'
  have h2 := bulk_get hi'
  exact ih x (by omega) (ht.2.2.2.mem hx) (by omega) us hus hl2
theorem con_specVars {t : Tm} (ht : okTm t) (hb : bulkRow (encTm t) <= 1048576) : Con e0 152 [.agg (encTm t)] [.one (.sl (encTms (varsOf t)))] := by
 have hv := vars_len t
 have hcon := con_l5Collect_n _ t (Nat.lt_succ_self _) ht hb [] trivial (by simp; omega)
 have hcon := con_clip2 (by rw [encTms_nil'] at hcon; exact hcon)
 rw [show colT (varsTm t) [] = varsOf t from rfl] at hcon
 refine gI (ts := [.slot 2]) 7 Tryz.func152 ?_
 (have F := @tmz; refine gG ?_; clear F)
 refine gB ?_
 (have F := @tmz; refine gC (hcon) ?_; clear F)
 (have F := @tmz; refine gR ?_; clear F)
 (have F := @tmz; refine gG ?_; exact gTd)
end Go.Proofs.YtohilkmdjdfljaaGreat
namespace Go.Proofs.YtohilkmdjdfljaaGreat
open Go.RowKit
theorem okTms_dist {l : List Tm} (h : okTms l) : okTms (distTm l) := colT_ok (r := []) h trivial
theorem okTms_vars {t : Tm} (h : okTm t) : okTms (varsOf t) := okTms_dist (varsTm_ok h)
theorem dist_len (l : List Tm) : (distTm l).length <= l.length := by have := colT_len l []; simpa [colT, distTm] using this
theorem varsOf_len (t : Tm) : (varsOf t).length <= 1 + bulkRow (encTm t) := Nat.le_trans (dist_len _) (vars_len t)
theorem any_take_succ {vs : List Tm} {p : Tm -> Bool} {i : Nat} {a : Tm} (h : vs[i]? = some a) : (vs.take (i + 1)).any p = ((vs.take i).any p || p a) := by
 rw [List.take_add_one, h]; simp
theorem all_take_succ {vs : List Tm} {p : Tm -> Bool} {i : Nat} {a : Tm} (h : vs[i]? = some a) : (vs.take (i + 1)).all p = ((vs.take i).all p && p a) := by
 rw [List.take_add_one, h]; simp
theorem all_take_c {α : Type} {vs : List α} {p : α -> Bool} {i : Nat} {a : α} (h : vs[i]? = some a) : (vs.take (i + 1)).all p = ((vs.take i).all p && p a) := by
 rw [List.take_add_one, h]; simp
theorem all_false {α : Type} {vs : List α} {p : α -> Bool} {a : α} (h : a ∈ vs) (hp : p a = false) : vs.all p = false := by
 rw [List.all_eq_false]
 exact ⟨a, h, by simp [hp]⟩
end Go.Proofs.YtohilkmdjdfljaaGreat
namespace Go.Proofs.YtohilkmdjdfljaaGreat
open Go.RowKit
structure Eqn where
 l : Tm
 r : Tm
 cs : List (Tm × Tm)
def encCnd (c : Tm × Tm) : List C := encTm c.1 ++ encTm c.2
def encEqn (e : Eqn) : List C := encTm e.l ++ (encTm e.r ++ [.sl (e.cs.map encCnd)])
def okCnd (c : Tm × Tm) : Prop := okTm c.1 ∧ okTm c.2
def okEqn (e : Eqn) : Prop := okTm e.l ∧ okTm e.r ∧ ∀ c ∈ e.cs, okCnd c
theorem decCnd {row : List C} (h : okRow (fieldsOf .cond) row) : ∃ c, row = encCnd c ∧ okCnd c := by
 obtain ⟨i0, t1, i2, r3, i4, t5, i6, r7, rfl, g0, g1, g2, g3, g4, g5, g6, g7⟩ := okRow_Condition h
 obtain ⟨a, rfl, ha⟩ := decTms g3
 obtain ⟨a', rfl, ha'⟩ := decTms g7
 refine ⟨(.mk i0 t1 i2 a, .mk i4 t5 i6 a'), by simp [encCnd, encTm], ?_⟩
 simp only [okCnd, okTm]
 exact ⟨⟨g0, g1, g2, ha⟩, g4, g5, g6, ha'⟩
theorem decCnds : ∀ {rows : List (List C)}, okRows (fieldsOf .cond) rows -> ∃ cs : List (Tm × Tm), rows = cs.map encCnd ∧ ∀ c ∈ cs, okCnd c
 | [], _ => ⟨[], rfl, by simp⟩
 | r :: rs, h => by
  simp only [okRows] at h
  obtain ⟨c, rfl, hc⟩ := decCnd h.1
  obtain ⟨cs, rfl, hcs⟩ := decCnds h.2
  exact ⟨c :: cs, rfl, by intro x hx; rcases List.mem_cons.1 hx with rfl | hx; exact hc; exact hcs x hx⟩
theorem decEqn {row : List C} (h : okRow (fieldsOf .eqn) row) : ∃ e, row = encEqn e ∧ okEqn e := by
 obtain ⟨i0, t1, i2, r3, i4, t5, i6, r7, r8, rfl, g0, g1, g2, g3, g4, g5, g6, g7, g8⟩ := okRow_Equation h
 obtain ⟨a, rfl, ha⟩ := decTms g3
 obtain ⟨a', rfl, ha'⟩ := decTms g7
 obtain ⟨cs, rfl, hcs⟩ := decCnds g8
 refine ⟨⟨.mk i0 t1 i2 a, .mk i4 t5 i6 a', cs⟩, by simp [encEqn, encTm], ?_, ?_, hcs⟩
 ·simp only [okTm]; exact ⟨g0, g1, g2, ha⟩
 ·simp only [okTm]; exact ⟨g4, g5, g6, ha'⟩
theorem tm4 (t : Tm) : ∃ a b c d, encTm t = [a, b, c, d] := by
 obtain ⟨op, nm, so, args⟩ := t
 simp only [encTm]
 exact ⟨_, _, _, _, rfl⟩
theorem take_tm (t : Tm) (l : List C) : (encTm t ++ l).take 4 = encTm t := by obtain ⟨a, b, c, d, h⟩ := tm4 t; rw [h]; rfl
theorem drop_tm (t : Tm) (l : List C) : (encTm t ++ l).drop 4 = l := by obtain ⟨a, b, c, d, h⟩ := tm4 t; rw [h]; rfl
theorem eq_take4 (e : Eqn) : (encEqn e).take 4 = encTm e.l := take_tm _ _
theorem eq_drop4 (e : Eqn) : (encEqn e).drop 4 = encTm e.r ++ [.sl (e.cs.map encCnd)] := drop_tm _ _
theorem eq_drop8 (e : Eqn) : (encEqn e).drop 8 = [.sl (e.cs.map encCnd)] := by
 rw [show (8 : Nat) = 4 + 4 from rfl, <- List.drop_drop, eq_drop4, drop_tm]
theorem eq_len (e : Eqn) : (encEqn e).length = 9 := by simp [encEqn, (tmz.2.2.2.2.1 : ∀ t, (encTm t).length = 4)]
theorem eq_take9 (e : Eqn) : (encEqn e).take 9 = encEqn e := List.take_of_length_le (by rw [eq_len]; exact Nat.le_refl _)
theorem eq_drop9 (e : Eqn) : (encEqn e).drop 9 = [] := List.drop_of_length_le (by rw [eq_len]; exact Nat.le_refl _)
theorem eq_ok (e : Eqn) : (encEqn e).all okCell = true := by
 simp only [encEqn, List.all_append, (tmz.2.2.2.2.2.2.2.1 : ∀ t, (encTm t).all okCell = true), Bool.true_and]
 rfl
theorem eq_op (e : Eqn) : valT TK.one (encEqn e) = some (A.d (.one (.lit (.int .i64 e.l.op)))) := by
 obtain ⟨⟨op, nm, so, args⟩, r, cs⟩ := e
 simp [encEqn, encTm, valT, Tm.op]
theorem cn_len (c : Tm × Tm) : (encCnd c).length = 8 := by simp [encCnd, (tmz.2.2.2.2.1 : ∀ t, (encTm t).length = 4)]
theorem cn_take4 (c : Tm × Tm) : (encCnd c).take 4 = encTm c.1 := take_tm _ _
theorem cn_drop4 (c : Tm × Tm) : (encCnd c).drop 4 = encTm c.2 := drop_tm _ _
theorem cn_take8 (c : Tm × Tm) : (encCnd c).take 8 = encCnd c := List.take_of_length_le (by rw [cn_len]; exact Nat.le_refl _)
theorem cn_drop8 (c : Tm × Tm) : (encCnd c).drop 8 = [] := List.drop_of_length_le (by rw [cn_len]; exact Nat.le_refl _)
theorem cn_ok (c : Tm × Tm) : (encCnd c).all okCell = true := by
 simp only [encCnd, List.all_append, (tmz.2.2.2.2.2.2.2.1 : ∀ t, (encTm t).all okCell = true), Bool.true_and]
theorem cn_rows (cs : List (Tm × Tm)) : rowsB 8 (cs.map encCnd) = true := by
 induction cs with
 | nil => rfl
 | cons c cs ih => simp only [List.map_cons, rowsB_cons, cn_len, ih]; simp [cn_ok]
theorem eqz : type_of% (ai eq_take4 (ai eq_drop4 (ai eq_drop8 (ai eq_len (ai eq_take9 (ai eq_drop9 (ai eq_ok (ai eq_op (ai cn_len (ai cn_take4 (ai cn_drop4 (ai cn_take8 (ai cn_drop8 (ai cn_ok (ai cn_rows (ai take_tm drop_tm)))))))))))))))) := ai eq_take4 (ai eq_drop4 (ai eq_drop8 (ai eq_len (ai eq_take9 (ai eq_drop9 (ai eq_ok (ai eq_op (ai cn_len (ai cn_take4 (ai cn_drop4 (ai cn_take8 (ai cn_drop8 (ai cn_ok (ai cn_rows (ai take_tm drop_tm)))))))))))))))
noncomputable def pairB (g : Sgn) (l r : Tm) : Bool := isTerm g l && (isTerm g r && decide (kindTm g l = kindTm g r))
def hasB (vs : List Tm) (v : Tm) : Bool := vs.any fun a => decide (cmpTm v a = 0)
def withB (vs : List Tm) (t : Tm) : Bool := (varsOf t).all (hasB vs)
noncomputable def cndB (g : Sgn) (vs : List Tm) (c : Tm × Tm) : Bool := pairB g c.1 c.2 && (withB vs c.1 && withB vs c.2)
noncomputable def eqnB (g : Sgn) (e : Eqn) : Bool := pairB g e.l e.r && (!decide (e.l.op = -1) && (decide (e.cs.length <= 2) && (decide ((varsOf e.l).length <= 5) && (withB (varsOf e.l) e.r && e.cs.all (cndB g (varsOf e.l))))))
noncomputable def isEqn (g : Sgn) (e : Eqn) : Bool := isSgn g && eqnB g e
theorem bulk_app (a b : List C) : bulkRow (a ++ b) = bulkRow a + bulkRow b := by
 induction a with
 | nil => simp [bulkRow]
 | cons x xs ih => simp only [List.cons_append, bulkRow, ih]; omega
theorem isName_size {s : ByteArray} (h : isName s = true) : s.size <= 12 := by
 simp only [isName, Bool.and_eq_true, decide_eq_true_eq] at h
 exact h.1.1.1.2
mutual
theorem form_bulk {g : Sgn} : ∀ {t : Tm}, FormOk g t -> bulkRow (encTm t) + 1 <= 14 * sizeTm t
 | .mk op nm so args, h => by
  simp only [FormOk] at h
  obtain ⟨hn, ha, _⟩ := h
  have h1 := forms_bulk ha
  have h2 : nm.size <= 12 := by
   rcases hn with hn | ⟨o, d, hn⟩
   ·exact isName_size hn.2.1
   ·have := hn.nm
    simp only [Tm.name] at this
    rw [this]
    exact Nat.zero_le _
  simp only [encTm, bulkRow, bulkC, sizeTm]
  omega
theorem forms_bulk {g : Sgn} : ∀ {ts : List Tm}, FormOks g ts -> (encTms ts).length + bulkRows (encTms ts) <= 14 * sizeTms ts
 | [], _ => by simp [encTms, bulkRows]
 | t :: ts, h => by
  simp only [FormOks] at h
  have h1 := form_bulk h.1
  have h2 := forms_bulk h.2
  simp only [encTms, bulkRows, List.length_cons, sizeTms]
  omega
end
theorem term_bulk {g : Sgn} {t : Tm} (h : isTerm g t = true) : bulkRow (encTm t) <= 1048576 := by
 have := form_bulk (isTerm_iff.1 h).form
 have := (isTerm_iff.1 h).size
 omega
set_option maxHeartbeats 8000000 in
set_option maxRecDepth 100000 in
theorem con_l13Pair {g : Sgn} (hokg : okSgn g) (hg : SgnOk g) {l r : Tm} (hl : okTm l) (hr : okTm r) (hbl : bulkRow (encTm l) <= 1048576) (hbr : bulkRow (encTm r) <= 1048576) : Con e0 151 [.agg (encSgn g), .agg (encTm l), .agg (encTm r)] [.one (.lit (.bool (pairB g l r)))] := by
 have b1 := big_of_bulk hbl
 have b2 := big_of_bulk hbr
 have cF1 := con_l6Form hokg hg hl b1
 have cF2 := con_l6Form hokg hg hr b2
 have cK1 := fun h => con_l6Kind hokg hg (t := l) h
 have cK2 := fun h => con_l6Kind hokg hg (t := r) h
 rw [encSgn] at cF1 cF2 cK1 cK2
 refine gI 127 Tryz.func151 ?_
 (have F := ai @tmz @encSgn_u; refine gG ?_; clear F)
 refine gB ?_
 (have F := @tmz; refine gC (con_l6Small b1) ?_; clear F)
 by_cases h1 : sizeTm l <= 60 ∧ depthTm l <= 20
 rotate_left
 ·have hf : pairB g l r = false := by rw [pairB, isTerm_false fun h => h1 ⟨h.size, h.depth⟩]; rfl
  have h1' : decide (sizeTm l <= 60 ∧ depthTm l <= 20) = false := by simp only [decide_eq_false_iff_not]; exact h1
  (have F := ai @tmz @h1'; refine gR ?_; clear F)
  (have F := @hf; refine gG ?_; exact gT)
 have h1' : decide (sizeTm l <= 60 ∧ depthTm l <= 20) = true := by simp only [decide_eq_true_eq]; exact h1
 (have F := ai @tmz @h1'; refine gC (cF1) ?_; clear F)
 have e1 := isTerm_form (g := g) h1.1 h1.2
 cases hF1 : isForm g l with
 | false =>
  have hf : pairB g l r = false := by rw [pairB, <- e1, hF1]; rfl
  (have F := ai @tmz @h1'; refine gR ?_; clear F)
  (have F := @hf; refine gG ?_; exact gT)
 | true =>
  (have F := ai @tmz @h1'; refine gC (con_l6Small b2) ?_; clear F)
  by_cases h2 : sizeTm r <= 60 ∧ depthTm r <= 20
  rotate_left
  ·have hf : pairB g l r = false := by rw [pairB, isTerm_false (t := r) fun h => h2 ⟨h.size, h.depth⟩]; simp
   have h2' : decide (sizeTm r <= 60 ∧ depthTm r <= 20) = false := by simp only [decide_eq_false_iff_not]; exact h2
   (have F := ai @tmz (ai @h1' @h2'); refine gR ?_; clear F)
   (have F := @hf; refine gG ?_; exact gT)
  have h2' : decide (sizeTm r <= 60 ∧ depthTm r <= 20) = true := by simp only [decide_eq_true_eq]; exact h2
  (have F := ai @tmz (ai @h1' @h2'); refine gC (cF2) ?_; clear F)
  have e2 := isTerm_form (g := g) h2.1 h2.2
  cases hF2 : isForm g r with
  | false =>
   have hf : pairB g l r = false := by rw [pairB, <- e2, hF2]; simp
   (have F := ai @tmz (ai @h1' @h2'); refine gR ?_; clear F)
   (have F := @hf; refine gG ?_; exact gT)
  | true =>
   have ef : pairB g l r = decide (kindTm g l = kindTm g r) := by rw [pairB, <- e1, <- e2, hF1, hF2]; rfl
   (have F := ai @tmz (ai @h1' @h2'); refine gC (cK1 (isForm_iff.1 hF1).node) ?_; clear F)
   (have F := ai @tmz (ai @h1' @h2'); refine gC (cK2 (isForm_iff.1 hF2).node) ?_; clear F)
   (have F := ai @tmz (ai @h1' @h2'); refine gR ?_; clear F)
   (have F := @ef; refine gG ?_; exact gT)
theorem any_nil0 {p : Tm -> Bool} : ([] : List Tm).any p = false := rfl
set_option maxHeartbeats 8000000 in
set_option maxRecDepth 100000 in
theorem con_l13Within {t : Tm} {vs : List Tm} (ht : okTm t) (hvs : okTms vs) (hb : bulkRow (encTm t) <= 1048576) (hl : vs.length <= 8000000) : Con e0 153 [.agg (encTm t), .one (.sl (encTms vs))] [.one (.lit (.bool (withB vs t)))] := by
 have hok := okTms_vars ht
 have hle := varsOf_len t
 have cV := con_specVars ht hb
 have eW : withB vs t = (varsOf t).all (hasB vs) := rfl
 rw [eW]
 clear eW
 generalize varsOf t = us at hok hle cV ⊢
 refine gI 68720542199 Tryz.func153 ?_
 (have F := @tmz; refine gG ?_; clear F)
 refine gB ?_
 (have F := @tmz; refine gC (cV) ?_; clear F)
 (have F := @tmz; refine gR ?_; clear F)
 (have F := @tmz; refine gG ?_; clear F)
 (have F := @e0P; refine gL (ι := Nat) [4, 6, 7, 8, 14, 20, 36] [] (fun x => [(6, A.d (.one (.lit (.int .i64 x))))]) (fun x => []) (fun x => x <= us.length ∧ (us.take x).all (hasB vs) = true) (fun x => us.length - x) (0) (⟨Nat.zero_le _, rfl⟩) (fun x hx => ?_); clear F)
 obtain ⟨hxl, hall⟩ := hx
 by_cases hlt : x < us.length
 rotate_left
 ·have q1 : ¬ ((x : Int) < (us.length : Int)) := by omega
  obtain rfl : x = us.length := by omega
  rw [List.take_length] at hall
  (have F := ai @tmz (ai @q1 @hall); refine gG ?_; exact gT)
 have q1 : (x : Int) < (us.length : Int) := by omega
 obtain ⟨v, hv⟩ : ∃ a, us[x]? = some a := ⟨_, List.getElem?_eq_getElem hlt⟩
 have hvo := hok.mem (List.mem_of_getElem? hv)
 have hw1 := wrap1 (k := x) (by omega)
 (have F := ai @tmz @q1; refine gG ?_; clear F)
 (have F := ((fun (p : Tm -> Bool) => (any_nil0 : ([] : List Tm).any p = false))); refine gL (ι := Nat) [7, 8, 20] [] (fun y => [(7, .d (.one (.lit (.bool ((vs.take y).any fun a => decide (cmpTm v a = 0)))))), (8, A.d (.one (.lit (.int .i64 y))))]) (fun y => []) (fun y => y <= vs.length) (fun y => vs.length - y) (0) (Nat.zero_le _) (fun y hy => ?_); clear F)
 by_cases hlt2 : y < vs.length
 rotate_left
 ·have q2 : ¬ ((y : Int) < (vs.length : Int)) := by omega
  obtain rfl : y = vs.length := by omega
  rw [List.take_length]
  cases hh : hasB vs v with
  | true =>
   have e : (vs.any fun a => decide (cmpTm v a = 0)) = true := hh
   have hq : x + 1 <= us.length ∧ (us.take (x + 1)).all (hasB vs) = true := ⟨hlt, by rw [all_take_succ hv, hall, hh]; rfl⟩
   (have F := ai @tmz (ai @q1 (ai @q2 (ai @e @hw1))); refine gG ?_; exact ⟨x + 1, hq, gw, gw, by omega⟩)
  | false =>
   have e : (vs.any fun a => decide (cmpTm v a = 0)) = false := hh
   have hf : us.all (hasB vs) = false := all_false (List.mem_of_getElem? hv) hh
   (have F := ai @tmz (ai @q1 (ai @q2 (ai @e @hf))); refine gG ?_; exact gT)
 have q2 : (y : Int) < (vs.length : Int) := by omega
 obtain ⟨a, ha⟩ : ∃ a, vs[y]? = some a := ⟨_, List.getElem?_eq_getElem hlt2⟩
 have hao := hvs.mem (List.mem_of_getElem? ha)
 have hw2 := wrap1 (k := y) (by omega)
 have hst := any_take_succ (p := fun a => decide (cmpTm v a = 0)) ha
 cases hc : (vs.take y).any fun a => decide (cmpTm v a = 0) with
 | true =>
  rw [hc, Bool.true_or] at hst
  (have F := ai @tmz (ai @q1 @q2); refine gG ?_; clear F)
  (have F := ai @tmz (ai @q2 (ai @hst @hw2)); refine gG ?_; exact ⟨y + 1, hlt2, gw, gw, by omega⟩)
 | false =>
  rw [hc, Bool.false_or] at hst
  (have F := ai @tmz (ai @q1 @q2); refine gG ?_; clear F)
  refine gB ?_
  (have F := ai @tmz (ai @q1 (ai @q2 (ai @hv @ha))); refine gC (con_l5Same hvo hao) ?_; clear F)
  (have F := ai @tmz (ai @q1 @q2); refine gR ?_; clear F)
  (have F := ai @tmz (ai @q2 (ai @hst @hw2)); refine gG ?_; exact ⟨y + 1, hlt2, gw, gw, by omega⟩)
end Go.Proofs.YtohilkmdjdfljaaGreat
namespace Go.Proofs.YtohilkmdjdfljaaGreat
open Go.RowKit
def srtNm (g : Sgn) (k : Int) : ByteArray := (g.sorts.names[k.toNat]?).getD ByteArray.empty
def oprNm (g : Sgn) (k : Int) : ByteArray := ((g.ops[k.toNat]?).map (·.name)).getD ByteArray.empty
mutual
def fmtTm (g : Sgn) : Tm -> ByteArray
 | .mk op nm so args => if op = -1 then nm ++ ⟨#[58]⟩ ++ srtNm g so else if args.length = 0 then oprNm g op else oprNm g op ++ ⟨#[40]⟩ ++ joinB (fmtTms g args) ⟨#[44, 32]⟩ ++ ⟨#[41]⟩
def fmtTms (g : Sgn) : List Tm -> List ByteArray
 | [] => []
 | t :: ts => fmtTm g t :: fmtTms g ts
end
theorem fmtTms_eq (g : Sgn) : ∀ ts : List Tm, fmtTms g ts = ts.map (fmtTm g)
 | [] => by simp [fmtTms]
 | t :: ts => by simp [fmtTms, fmtTms_eq g ts]
theorem fmt_var {g : Sgn} {t : Tm} (h : t.op = -1) : fmtTm g t = t.name ++ ⟨#[58]⟩ ++ srtNm g t.sort := by
 obtain ⟨op, nm, so, args⟩ := t
 simp only [Tm.op, Tm.name, Tm.sort] at h ⊢
 simp only [fmtTm, if_pos h]
theorem fmt_one {g : Sgn} {t : Tm} (h : t.op ≠ -1) (h0 : t.args.length = 0) : fmtTm g t = oprNm g t.op := by
 obtain ⟨op, nm, so, args⟩ := t
 simp only [Tm.op, Tm.args] at h h0 ⊢
 simp only [fmtTm, if_neg h, if_pos h0]
theorem fmt_app {g : Sgn} {t : Tm} (h : t.op ≠ -1) (h0 : ¬ t.args.length = 0) : fmtTm g t = oprNm g t.op ++ ⟨#[40]⟩ ++ joinB (fmtTms g t.args) ⟨#[44, 32]⟩ ++ ⟨#[41]⟩ := by
 obtain ⟨op, nm, so, args⟩ := t
 simp only [Tm.op, Tm.args] at h h0 ⊢
 simp only [fmtTm, if_neg h, if_neg h0]
theorem name12 {s : ByteArray} (h : isName s = true) : s.size <= 12 := by
 simp only [isName, Bool.and_eq_true, decide_eq_true_eq] at h
 omega
theorem opr12 {g : Sgn} (hg : SgnOk g) (k : Int) : (oprNm g k).size <= 12 := by
 unfold oprNm
 rcases h : g.ops[k.toNat]? with _ | o
 ·exact Nat.zero_le _
 ·exact name12 (hg.names _ o h).1
theorem srt12 {g : Sgn} (hg : SgnOk g) (k : Int) : (srtNm g k).size <= 12 := by
 unfold srtNm
 rcases h : g.sorts.names[k.toNat]? with _ | s
 ·exact Nat.zero_le _
 ·have hl := (List.getElem?_eq_some_iff.1 h).1
  exact name12 (hg.sorts.names _ hl s h).1
def pieces (l : List ByteArray) (n : Nat) : Nat := (l.map fun x => x.size + n).sum
theorem joinB_size (sep : ByteArray) : ∀ l : List ByteArray, (joinB l sep).size <= pieces l sep.size
 | [] => by show 0 <= _; omega
 | a :: r => by
  have ht : ∀ r : List ByteArray, (Lib.joinTail sep.data.toList (r.map (·.data.toList))).length <= pieces r sep.size := fun r => by
   induction r with
   | nil => simp [Lib.joinTail, pieces]
   | cons b r ih =>
    simp only [Lib.joinTail, pieces, List.map_cons, List.flatten_cons, List.length_append, List.sum_cons] at ih ⊢
    have h1 : b.data.toList.length = b.size := by rw [Array.length_toList]; rfl
    have h2 : sep.data.toList.length = sep.size := by rw [Array.length_toList]; rfl
    omega
  have h0 : (joinB (a :: r) sep).size = (Lib.join ((a :: r).map (·.data.toList)) sep.data.toList).length := by
   show (Lib.join ((a :: r).map (·.data.toList)) sep.data.toList).toArray.size = _
   exact List.size_toArray
  rw [h0, List.map_cons, Lib.join_cons, List.length_append]
  have h1 : a.data.toList.length = a.size := by rw [Array.length_toList]; rfl
  have := ht r
  simp only [pieces, List.map_cons, List.sum_cons] at this ⊢
  omega
mutual
theorem fmt_size {g : Sgn} (hg : SgnOk g) : ∀ (t : Tm), FormOk g t -> (fmtTm g t).size + 2 <= 32 * sizeTm t
 | .mk op nm so args, h => by
  have h2 := opr12 hg op
  simp only [sizeTm]
  rcases op_cases h.node with ⟨h1, _⟩ | ⟨h1, o, d, hap⟩
  ·have hop : op = -1 := h1.1
   have h3 := srt12 hg so
   have h4 := name12 h1.2.1
   simp only [Tm.name] at h4
   simp only [fmtTm, if_pos hop, ByteArray.size_append]
   have h5 : (ByteArray.mk #[58]).size = 1 := rfl
   omega
  ·have hop : ¬ op = -1 := by simp only [Tm.op] at h1; omega
   simp only [fmtTm, if_neg hop]
   split
   ·omega
   ·simp only [FormOk] at h
    have h5 := fmts_size hg args h.2.1
    have h6 := joinB_size ⟨#[44, 32]⟩ (fmtTms g args)
    have h7 : (ByteArray.mk #[44, 32]).size = 2 := rfl
    have h8 : (ByteArray.mk #[40]).size = 1 := rfl
    have h9 : (ByteArray.mk #[41]).size = 1 := rfl
    rw [h7] at h6
    simp only [ByteArray.size_append]
    omega
theorem fmts_size {g : Sgn} (hg : SgnOk g) : ∀ (ts : List Tm), FormOks g ts -> pieces (fmtTms g ts) 2 <= 32 * sizeTms ts
 | [], _ => by simp [fmtTms, pieces]
 | t :: ts, h => by
  simp only [FormOks] at h
  have h1 := fmt_size hg t h.1
  have h2 := fmts_size hg ts h.2
  simp only [fmtTms, pieces, List.map_cons, List.sum_cons, sizeTms] at h2 ⊢
  omega
end
theorem fmt_take (g : Sgn) (ts : List Tm) (i : Nat) : (fmtTms g ts).take i = fmtTms g (ts.take i) := by rw [fmtTms_eq, fmtTms_eq, List.map_take]
theorem forms_take {g : Sgn} {ts : List Tm} (h : FormOks g ts) (i : Nat) : FormOks g (ts.take i) := FormOks_iff.2 fun a ha => FormOks_iff.1 h a (List.mem_of_mem_take ha)
theorem fmt_snoc {g : Sgn} {ts : List Tm} {i : Nat} {a : Tm} (h : ts[i]? = some a) : (fmtTms g (ts.take i)).map encStr ++ [[.lit (.string (fmtTm g a))]] = (fmtTms g (ts.take (i + 1))).map encStr := by
 rw [take_snoc h, fmtTms_eq, fmtTms_eq, List.map_append, List.map_append]
 rfl
theorem fmt_0 (g : Sgn) : (fmtTms g []).map encStr = [] := by simp [fmtTms]
theorem fmtTms_len (g : Sgn) (ts : List Tm) : (fmtTms g ts).length = ts.length := by rw [fmtTms_eq, List.length_map]
theorem size_take (ts : List Tm) (i : Nat) : sizeTms (ts.take i) <= sizeTms ts := sizeTms_take ts i
section
variable {g : Sgn} {mc : C}
set_option maxHeartbeats 8000000 in
set_option maxRecDepth 100000 in
theorem con_format (hg : SgnOk g) : ∀ (n : Nat) (t : Tm), sizeTm t < n -> FormOk g t -> sizeTm t <= 60 -> Con e0 118 [.one (.ptr (encX g mc)), .agg (encTm t)] [.one (.lit (.string (fmtTm g t)))] := by
 intro n
 induction n with
 | zero => exact fun _ h => by omega
 | succ n ih =>
  intro t hn hf hs
  have k58 : (ByteArray.mk #[58]).size = 1 := rfl
  have k40 : (ByteArray.mk #[40]).size = 1 := rfl
  have k41 : (ByteArray.mk #[41]).size = 1 := rfl
  have h12 := opr12 hg t.op
  have s12 := srt12 hg t.sort
  rcases op_cases hf.node with ⟨hvar, hop⟩ | ⟨hop, o, d, hap⟩
  ·obtain ⟨v1, v2, v3, v4, v5⟩ := hvar
   have q1 : (t.op < 0) = True := eq_true hop
   have n12 := name12 v2
   rw [fmt_var v1]
   obtain ⟨sn, hsn⟩ : ∃ sn, g.sorts.names[t.sort.toNat]? = some sn := ⟨_, List.getElem?_eq_getElem (by omega)⟩
   have e1 : srtNm g t.sort = sn := by rw [srtNm, hsn]; rfl
   rw [e1] at s12 ⊢
   have hrb := rb_str g.sorts.names
   have z1 : (t.name.size + (ByteArray.mk #[58]).size <= 9223372036854775807) = True := eq_true (by omega)
   have z2 : ((t.name ++ ⟨#[58]⟩).size + sn.size <= 9223372036854775807) = True := eq_true (by rw [ByteArray.size_append]; omega)
   refine gI 132491151149435 Tryz.func118 ?_
   (have F := ai @tmz (ai @q1 (ai @encX_u (ai @hrb (ai @hsn (ai @encStr_u (ai @v3 (ai @z1 @z2))))))); refine gG ?_; exact gT)
  ·have q1 : (t.op < 0) = False := eq_false (by omega)
   have hne : t.op ≠ -1 := by omega
   have hat := hap.at'
   have hnm : oprNm g t.op = o.name := by rw [oprNm, hat]; rfl
   rw [hnm] at h12
   by_cases hl0 : t.args.length = 0
   ·rw [fmt_one hne hl0, hnm]
    have z0 : ((t.args.length : Int) = 0) = True := eq_true (by omega)
    refine gI 132491151149435 Tryz.func118 ?_
    (have F := ai @tmz (ai @q1 (ai @encX_u (ai @hat (ai @encOpr_u (ai @hop @z0))))); refine gG ?_; exact gT)
   have hl60 : t.args.length < 60 := by
    have h1 := sizeTms_len t.args
    have h2 : sizeTm t = 1 + sizeTms t.args := by obtain ⟨op, nm, so, args⟩ := t; rfl
    omega
   have hst : sizeTms t.args < 60 := by
    have h2 : sizeTm t = 1 + sizeTms t.args := by obtain ⟨op, nm, so, args⟩ := t; rfl
    omega
   have hfs : FormOks g t.args := FormOks_iff.2 (FormOk_iff.1 hf).2.1
   rw [fmt_app hne hl0, hnm]
   have z0 : ((t.args.length : Int) = 0) = False := eq_false (by omega)
   have hjs := joinB_size ⟨#[44, 32]⟩ (fmtTms g t.args)
   have hps := fmts_size hg t.args hfs
   have k2 : (ByteArray.mk #[44, 32]).size = 2 := rfl
   rw [k2] at hjs
   have hfl := fmtTms_len g t.args
   have cJ := con_join (l := fmtTms g t.args) (sep := ⟨#[44, 32]⟩) (by omega) (by
    have h0 : (joinB (fmtTms g t.args) ⟨#[44, 32]⟩).size = (Lib.join ((fmtTms g t.args).map (·.data.toList)) (ByteArray.mk #[44, 32]).data.toList).length := List.size_toArray
    omega)
   have z1 : (o.name.size + (ByteArray.mk #[40]).size <= 9223372036854775807) = True := eq_true (by omega)
   have z2 : ((o.name ++ ⟨#[40]⟩).size + (joinB (fmtTms g t.args) ⟨#[44, 32]⟩).size <= 9223372036854775807) = True := eq_true (by rw [ByteArray.size_append]; omega)
   have z3 : ((o.name ++ ⟨#[40]⟩ ++ joinB (fmtTms g t.args) ⟨#[44, 32]⟩).size + (ByteArray.mk #[41]).size <= 9223372036854775807) = True := eq_true (by rw [ByteArray.size_append, ByteArray.size_append]; omega)
   refine gI 132491151149435 Tryz.func118 ?_
   (have F := ai @tmz (ai @q1 (ai @encX_u (ai @hat (ai @encOpr_u (ai @hop @z0))))); refine gG ?_; clear F)
   (have F := @fmt_0; refine gL (ι := Nat) [6, 8, 45, 46] [6] (fun i => [(45, A.d (.one (.lit (.int .i64 i)))), (6, .buf 6)]) (fun i => [(6, .buf none 9 1 ((fmtTms g (t.args.take i)).map encStr))]) (fun i => i <= t.args.length) (fun i => t.args.length - i) (0) (Nat.zero_le _) (fun i hi => ?_); clear F)
   by_cases hlt : i < t.args.length
   ·have q2 : (i : Int) < (t.args.length : Int) := by omega
    have hw := wrap1 (k := i) (by omega)
    obtain ⟨b, hb⟩ : ∃ b, t.args[i]? = some b := ⟨_, List.getElem?_eq_getElem hlt⟩
    have hbm := List.mem_of_getElem? hb
    have hsz : sizeTm b < sizeTm t := by
     have h1 := sizeTms_mem hbm
     have h2 : sizeTm t = 1 + sizeTms t.args := by obtain ⟨op, nm, so, args⟩ := t; rfl
     omega
    have cI := ih b (by omega) ((FormOk_iff.1 hf).2.1 b hbm) (by omega)
    have hsn := fmt_snoc (g := g) hb
    have hll : ((fmtTms g (t.args.take i)).map encStr).length = i := by rw [List.length_map, fmtTms_len, List.length_take]; omega
    have hrr := rb_str (fmtTms g (t.args.take i))
    have hmx : (i + 1 <= maxApp) = True := eq_true (by unfold maxApp; omega)
    (have F := ai @tmz (ai @q2 @hb); refine gG ?_; clear F)
    refine gB ?_
    (have F := @tmz; refine gC (cI) ?_; clear F)
    (have F := ai @hll (ai @hrr (ai @hmx @hsn)); refine gR ?_; clear F)
    (have F := @hw; refine gG ?_; exact ⟨i + 1, hlt, gw, gw, by omega⟩)
   obtain rfl : i = t.args.length := by omega
   have q2 : ¬ ((t.args.length : Int) < (t.args.length : Int)) := by omega
   rw [List.take_length]
   (have F := @q2; have NN : StopAt 12 := trivial; refine gGn ?_; clear F NN)
   refine pS 6 fun a cap => ?_
   refine pD 6 [6] [] ?_
   refine gB ?_
   (have F := @z1; refine gC (cJ) ?_; clear F)
   (have F := ai @z1 (ai @z2 @z3); refine gR ?_; clear F)
   (have F := @e0P; refine gG ?_; exact gT)
end
end Go.Proofs.YtohilkmdjdfljaaGreat
namespace Go.Proofs.YtohilkmdjdfljaaGreat
open Go.RowKit
theorem bulk_eqn (e : Eqn) : bulkRow (encEqn e) = bulkRow (encTm e.l) + (bulkRow (encTm e.r) + (e.cs.length + bulkRows (e.cs.map encCnd))) := by
 rw [encEqn, bulk_app, bulk_app]
 simp [bulkRow, bulkC]
theorem bulk_cnd {cs : List (Tm × Tm)} {c : Tm × Tm} (h : c ∈ cs) : bulkRow (encTm c.1) + bulkRow (encTm c.2) <= bulkRows (cs.map encCnd) := by
 obtain ⟨i, hi⟩ := List.getElem?_of_mem h
 have : (cs.map encCnd)[i]? = some (encCnd c) := by rw [List.getElem?_map, hi]; rfl
 have := bulk_get this
 rw [encCnd, bulk_app] at this
 exact this
set_option maxHeartbeats 8000000 in
set_option maxRecDepth 100000 in
theorem con_specEqn {g : Sgn} {e : Eqn} (hokg : okSgn g) (he : okEqn e) (hb : bulkRow (encEqn e) <= 1048576) : Con e0 113 [.agg (encSgn g), .agg (encEqn e)] [.one (.lit (.bool (isEqn g e)))] := by
 rw [bulk_eqn] at hb
 obtain ⟨hol, hor, hoc⟩ := he
 have cS := con_specSgn hokg
 rw [encSgn] at cS
 refine gI 151115728032372933787903 Tryz.func113 ?_
 (have F := ai @tmz (ai @eqz @encSgn_u); refine gG ?_; clear F)
 refine gB ?_
 (have F := ai @tmz (ai @eqz @encSgn_u); refine gC (cS) ?_; clear F)
 by_cases hs : isSgn g = true
 rotate_left
 ·have hs' : isSgn g = false := by simpa using hs
  have hf : isEqn g e = false := by simp [isEqn, hs']
  (have F := ai @tmz (ai @eqz (ai @encSgn_u @hs')); refine gR ?_; clear F)
  (have F := @hf; refine gG ?_; exact gT)
 have hg := isSgn_iff.1 hs
 have ei : isEqn g e = eqnB g e := by simp [isEqn, hs]
 rw [ei]
 have cP := con_l13Pair hokg hg hol hor (by omega) (by omega)
 rw [encSgn] at cP
 (have F := ai @tmz (ai @eqz (ai @encSgn_u @hs)); refine gC (cP) ?_; clear F)
 cases hP : pairB g e.l e.r with
 | false =>
  have hf : eqnB g e = false := by simp [eqnB, hP]
  (have F := ai @tmz (ai @eqz (ai @encSgn_u @hs)); refine gR ?_; clear F)
  (have F := @hf; refine gG ?_; exact gT)
 | true =>
  by_cases h1 : e.l.op = -1
  ·have hf : eqnB g e = false := by simp [eqnB, h1]
   (have F := ai @tmz (ai @eqz (ai @encSgn_u (ai @hs @h1))); refine gR ?_; clear F)
   (have F := @hf; refine gG ?_; exact gT)
  have h1' : (e.l.op = -1) = False := eq_false h1
  by_cases h2 : e.cs.length <= 2
  rotate_left
  ·have hf : eqnB g e = false := by simp [eqnB, h2]
   have h2' : (2 : Int) < (e.cs.length : Int) := by omega
   (have F := ai @tmz (ai @eqz (ai @encSgn_u (ai @hs (ai @h1' @h2')))); refine gR ?_; clear F)
   (have F := @hf; refine gG ?_; exact gT)
  have h2' : ¬ ((2 : Int) < (e.cs.length : Int)) := by omega
  have cV := con_specVars hol (by omega)
  have hvo := okTms_vars hol
  have hvl := varsOf_len e.l
  have cWr := con_l13Within hor hvo (by omega) (by omega)
  (have F := ai @tmz (ai @eqz (ai @encSgn_u (ai @hs (ai @h1' @h2')))); refine gR ?_; clear F)
  (have F := ai @tmz (ai @eqz @encSgn_u); refine gG ?_; clear F)
  refine gB ?_
  (have F := ai @tmz (ai @eqz @encSgn_u); refine gC (cV) ?_; clear F)
  (have F := ai @tmz (ai @eqz @encSgn_u); refine gR ?_; clear F)
  by_cases h3 : (varsOf e.l).length <= 5
  rotate_left
  ·have hf : eqnB g e = false := by simp [eqnB, h3]
   have h3' : (5 : Int) < ((varsOf e.l).length : Int) := by omega
   (have F := ai @tmz (ai @eqz (ai @encSgn_u (ai @h3' @hf))); refine gG ?_; exact gT)
  have h3' : ¬ ((5 : Int) < ((varsOf e.l).length : Int)) := by omega
  (have F := ai @tmz (ai @eqz (ai @encSgn_u @h3')); refine gG ?_; clear F)
  refine gB ?_
  (have F := ai @tmz (ai @eqz (ai @encSgn_u @h3')); refine gC (cWr) ?_; clear F)
  cases hW : withB (varsOf e.l) e.r with
  | false =>
   have hf : eqnB g e = false := by simp [eqnB, hW]
   (have F := ai @tmz (ai @eqz (ai @encSgn_u @h3')); refine gR ?_; clear F)
   (have F := @hf; refine gG ?_; exact gT)
  | true =>
   have ea : eqnB g e = e.cs.all (cndB g (varsOf e.l)) := by simp [eqnB, hP, h1, h2, h3, hW]
   rw [ea]
   (have F := ai @tmz (ai @eqz (ai @encSgn_u @h3')); refine gR ?_; clear F)
   (have F := ai @tmz (ai @eqz @encSgn_u); refine gG ?_; clear F)
   generalize varsOf e.l = vs at *
   (have F := @e0P; refine gL (ι := Nat) [4, 6, 7, 49, 77] [] (fun x => [(6, A.d (.one (.lit (.int .i64 x))))]) (fun x => []) (fun x => x <= e.cs.length ∧ (e.cs.take x).all (cndB g vs) = true) (fun x => e.cs.length - x) (0) (⟨Nat.zero_le _, rfl⟩) (fun x hx => ?_); clear F)
   obtain ⟨hxl, hall⟩ := hx
   by_cases hlt : x < e.cs.length
   rotate_left
   ·have q1 : ¬ ((x : Int) < (e.cs.length : Int)) := by omega
    obtain rfl : x = e.cs.length := by omega
    rw [List.take_length] at hall
    (have F := ai @tmz (ai @eqz (ai @encSgn_u (ai @q1 @hall))); refine gG ?_; exact gT)
   have q1 : (x : Int) < (e.cs.length : Int) := by omega
   obtain ⟨c, hc⟩ : ∃ a, e.cs[x]? = some a := ⟨_, List.getElem?_eq_getElem hlt⟩
   have hm := List.mem_of_getElem? hc
   have hco := hoc c hm
   have hcb := bulk_cnd hm
   have hw1 := wrap1 (k := x) (by omega)
   have cPc := con_l13Pair hokg hg hco.1 hco.2 (by omega) (by omega)
   rw [encSgn] at cPc
   have cW1 := con_l13Within hco.1 hvo (by omega) (by omega)
   have cW2 := con_l13Within hco.2 hvo (by omega) (by omega)
   (have F := ai @tmz (ai @eqz (ai @encSgn_u (ai @q1 @hc))); refine gG ?_; clear F)
   refine gB ?_
   (have F := ai @tmz (ai @eqz (ai @encSgn_u @hc)); refine gC (cPc) ?_; clear F)
   cases hPc : pairB g c.1 c.2 with
   | false =>
    have hf : e.cs.all (cndB g vs) = false := all_false hm (by simp [cndB, hPc])
    (have F := ai @tmz (ai @eqz @encSgn_u); refine gR ?_; clear F)
    (have F := @hf; refine gG ?_; exact gT)
   | true =>
    (have F := ai @tmz (ai @eqz (ai @encSgn_u @hc)); refine gC (cW1) ?_; clear F)
    cases hW1 : withB vs c.1 with
    | false =>
     have hf : e.cs.all (cndB g vs) = false := all_false hm (by simp [cndB, hW1])
     (have F := ai @tmz (ai @eqz @encSgn_u); refine gR ?_; clear F)
     (have F := @hf; refine gG ?_; exact gT)
    | true =>
     (have F := ai @tmz (ai @eqz (ai @encSgn_u @hc)); refine gC (cW2) ?_; clear F)
     cases hW2 : withB vs c.2 with
     | false =>
      have hf : e.cs.all (cndB g vs) = false := all_false hm (by simp [cndB, hW2])
      (have F := ai @tmz (ai @eqz @encSgn_u); refine gR ?_; clear F)
      (have F := @hf; refine gG ?_; exact gT)
     | true =>
      have hq : x + 1 <= e.cs.length ∧ (e.cs.take (x + 1)).all (cndB g vs) = true := ⟨hlt, by rw [all_take_c hc, hall]; simp [cndB, hPc, hW1, hW2]⟩
      (have F := ai @tmz (ai @eqz @encSgn_u); refine gR ?_; clear F)
      (have F := ai @tmz (ai @eqz (ai @encSgn_u @hw1)); refine gG ?_; exact ⟨x + 1, hq, gw, gw, by omega⟩)
theorem con_hasTerm1 (t a : Tm) : Con e0 186 [.agg (encTm a), .one (.ptr (encTm t))] [.one (.lit (.bool (decide (cmpTm t a = 0))))] := by
 refine gI 15 Tryz.func186 ?_
 (have F := @tmz; refine gG ?_; clear F)
 refine gB ?_
 (have F := @tmz; refine gC (con_implSame t a) ?_; clear F)
 (have F := @tmz; refine gR ?_; clear F)
 (have F := @tmz; refine gG ?_; exact gT)
theorem con_hasTerm (ts : List Tm) (t : Tm) (hl : ts.length <= big) : Con e0 158 [.one (.sl (encTms ts)), .agg (encTm t)] [.one (.lit (.bool (hasB ts t)))] := by
 have c := con_containsFunc (ts := ts) (f := 186) (caps := [.ptr (encTm t)]) (P := fun a => decide (cmpTm t a = 0)) hl fun a _ => con_hasTerm1 t a
 have eh : hasB ts t = ts.any fun a => decide (cmpTm t a = 0) := rfl
 rw [eh]
 refine gI 27 Tryz.func158 ?_
 (have F := @tmz; refine gG ?_; clear F)
 refine gB ?_
 (have F := @tmz; refine gC (c) ?_; clear F)
 (have F := @tmz; refine gR ?_; clear F)
 (have F := @tmz; refine gG ?_; exact gT)
end Go.Proofs.YtohilkmdjdfljaaGreat
namespace Go.Proofs.YtohilkmdjdfljaaGreat
open Go.RowKit
def flatC (cs : List (Tm × Tm)) : List Tm := cs.flatMap fun c => [c.1, c.2]
def AL (e : Eqn) (x : Nat) : List (List C) := encTms (e.r :: flatC (e.cs.take x))
def s6 (e : Eqn) : Nat -> A
 | 0 => .d (.clip (AL e 0))
 | _ + 1 => .buf 6
def m6 (e : Eqn) : Nat -> List (Nat × Bk)
 | 0 => []
 | x + 1 => [(6, .buf none 41 4 (AL e (x + 1)))]
theorem s6_0 (e : Eqn) : s6 e 0 = .d (.clip [encTm e.r]) := by simp [s6, AL, flatC, encTms]
theorem m6_0 (e : Eqn) : m6 e 0 = [] := rfl
theorem s6_s (e : Eqn) (x : Nat) : s6 e (x + 1) = .buf 6 := rfl
theorem m6_s (e : Eqn) (x : Nat) : m6 e (x + 1) = [(6, .buf none 41 4 (AL e (x + 1)))] := rfl
theorem s6_m6 (e : Eqn) (x : Nat) : (s6 e x = .d (.clip (AL e x)) ∧ m6 e x = []) ∨ (s6 e x = .buf 6 ∧ m6 e x = [(6, .buf none 41 4 (AL e x))]) := by
 cases x with
 | zero => exact .inl ⟨rfl, rfl⟩
 | succ x => exact .inr ⟨rfl, rfl⟩
theorem AL_rows (e : Eqn) (x : Nat) : rowsB 4 (AL e x) = true := rb_tm _
theorem flatC_len (cs : List (Tm × Tm)) : (flatC cs).length = 2 * cs.length := by
 induction cs with
 | nil => rfl
 | cons c cs ih => simp only [flatC, List.flatMap_cons, List.length_append, List.length_cons, List.length_nil] at ih ⊢; omega
theorem AL_len (e : Eqn) (x : Nat) : (AL e x).length <= 1 + 2 * e.cs.length := by
 rw [AL, encTms_len, List.length_cons, flatC_len, List.length_take]; omega
theorem AL_step {e : Eqn} {x : Nat} {c : Tm × Tm} (h : e.cs[x]? = some c) : AL e x ++ [encTm c.1, encTm c.2] = AL e (x + 1) := by
 have h1 : flatC (e.cs.take (x + 1)) = flatC (e.cs.take x) ++ [c.1, c.2] := by
  rw [List.take_add_one, h]; simp [flatC]
 rw [AL, AL, h1, <- List.cons_append, encTms_app]
 simp [encTms]
theorem cnd_all {g : Sgn} {vs : List Tm} : ∀ {cs : List (Tm × Tm)}, (cs.all fun c => pairB g c.1 c.2) = true -> cs.all (cndB g vs) = (flatC cs).all (withB vs)
 | [], _ => rfl
 | c :: cs, h => by
  simp only [List.all_cons, Bool.and_eq_true] at h
  have ih := cnd_all (vs := vs) h.2
  rw [List.all_cons, ih, cndB, h.1, Bool.true_and]
  simp [flatC, List.all_cons, Bool.and_assoc]
theorem pair_l {g : Sgn} {l r : Tm} (h : pairB g l r = true) : isTerm g l = true := by simp only [pairB, Bool.and_eq_true] at h; exact h.1
theorem pair_r {g : Sgn} {l r : Tm} (h : pairB g l r = true) : isTerm g r = true := by simp only [pairB, Bool.and_eq_true] at h; exact h.2.1
theorem flat_term {g : Sgn} : ∀ {cs : List (Tm × Tm)}, (cs.all fun c => pairB g c.1 c.2) = true -> ∀ t ∈ flatC cs, isTerm g t = true
 | [], _, t, ht => by simp [flatC] at ht
 | c :: cs, h, t, ht => by
  simp only [List.all_cons, Bool.and_eq_true] at h
  simp only [flatC, List.flatMap_cons, List.mem_append, List.mem_cons, List.not_mem_nil, or_false] at ht
  rcases ht with (rfl | rfl) | ht
  ·exact pair_l h.1
  ·exact pair_r h.1
  ·exact flat_term h.2 t ht
theorem op_neg {g : Sgn} {t : Tm} (h : isTerm g t = true) : t.op < 0 ↔ t.op = -1 := by
 rcases (isTerm_iff.1 h).form.node with hn | ⟨o, d, hn⟩
 ·have := hn.1; omega
 ·have := hn.lo; omega
noncomputable def eqnR (g : Sgn) (e : Eqn) (vs : List Tm) : Bool := decide (vs.length <= 5) && (withB vs e.r && e.cs.all (cndB g vs))
section
variable {g : Sgn} {mc : C}
set_option maxHeartbeats 16000000 in
set_option maxRecDepth 100000 in
theorem con_algEqn (hg : SgnOk g) {e : Eqn} (he : okEqn e) (hb : bulkRow (encEqn e) <= 1048576) : Con e0 117 [.one (.ptr (encX g mc)), .agg (encEqn e)] [.one (.lit (.bool (eqnB g e)))] := by
 rw [bulk_eqn] at hb
 obtain ⟨hol, hor, hoc⟩ := he
 have cT := fun (t : Tm) (h : okTm t) (hb : bulkRow (encTm t) <= 1048576) => con_implIsT (mc := mc) hg h (big_of_bulk hb)
 have cK := fun (t : Tm) (h : isTerm g t = true) => con_kindOf (mc := mc) hg (isTerm_iff.1 h).form.node
 refine gI 334100219233902667600601412539771 Tryz.func117 ?_
 (have F := ai @tmz @eqz; refine gG ?_; clear F)
 refine gB ?_
 (have F := ai @tmz @eqz; refine gC (cT e.l hol (by omega)) ?_; clear F)
 cases hL : isTerm g e.l with
 | false =>
  have hf : eqnB g e = false := by simp [eqnB, pairB, hL]
  (have F := ai @tmz @eqz; refine gR ?_; clear F)
  (have F := @hf; refine gG ?_; exact gT)
 | true =>
 (have F := ai @tmz @eqz; refine gC (cT e.r hor (by omega)) ?_; clear F)
 cases hR : isTerm g e.r with
 | false =>
  have hf : eqnB g e = false := by simp [eqnB, pairB, hR]
  (have F := ai @tmz @eqz; refine gR ?_; clear F)
  (have F := @hf; refine gG ?_; exact gT)
 | true =>
 (have F := ai @tmz @eqz; refine gC (cK e.l hL) ?_; clear F)
 (have F := ai @tmz @eqz; refine gC (cK e.r hR) ?_; clear F)
 by_cases hk : kindTm g e.l = kindTm g e.r
 rotate_left
 ·have hf : eqnB g e = false := by simp [eqnB, pairB, hk]
  have hk' : (kindTm g e.l = kindTm g e.r) = False := eq_false hk
  (have F := ai @tmz (ai @eqz @hk'); refine gR ?_; clear F)
  (have F := @hf; refine gG ?_; exact gT)
 have hk' : (kindTm g e.l = kindTm g e.r) = True := eq_true hk
 have hP : pairB g e.l e.r = true := by simp [pairB, hL, hR, hk]
 by_cases h1 : e.l.op = -1
 ·have hf : eqnB g e = false := by simp [eqnB, h1]
  have h1' : (e.l.op < 0) = True := eq_true (by omega)
  (have F := ai @tmz (ai @eqz (ai @hk' @h1')); refine gR ?_; clear F)
  (have F := @hf; refine gG ?_; exact gT)
 have h1' : (e.l.op < 0) = False := eq_false fun h => h1 ((op_neg hL).1 h)
 by_cases h2 : e.cs.length <= 2
 rotate_left
 ·have hf : eqnB g e = false := by simp [eqnB, h2]
  have h2' : ((2 : Int) < (e.cs.length : Int)) = True := eq_true (by omega)
  (have F := ai @tmz (ai @eqz (ai @hk' (ai @h1' @h2'))); refine gR ?_; clear F)
  (have F := @hf; refine gG ?_; exact gT)
 have h2' : ((2 : Int) < (e.cs.length : Int)) = False := eq_false (by omega)
 have ea : eqnB g e = eqnR g e (varsOf e.l) := by simp [eqnB, eqnR, hP, h1, h2]
 rw [ea]
 clear ea
 have cV := con_implVars e.l (term_bulk hL)
 have hvl := varsOf_len e.l
 (have F := ai @tmz (ai @eqz (ai @hk' (ai @h1' @h2'))); refine gR ?_; clear F)
 (have F := ai @tmz @eqz; refine gG ?_; clear F)
 refine gB ?_
 (have F := ai @tmz @eqz; refine gC (cV) ?_; clear F)
 (have F := ai @tmz @eqz; refine gR ?_; clear F)
 generalize varsOf e.l = vs at *
 have hvb : vs.length <= big := by unfold big; omega
 (have F := ai @tmz @eqz; refine gG ?_; clear F)
 have F := ai (s6_0 e) (m6_0 e)
 refine gL (ι := Nat) [4, 6, 8, 57, 58, 83] [6] (fun x => [(57, A.d (.one (.lit (.int .i64 x)))), (6, s6 e x)]) (fun x => m6 e x) (fun x => x <= e.cs.length ∧ ((e.cs.take x).all fun c => pairB g c.1 c.2) = true) (fun x => e.cs.length - x) 0 ⟨Nat.zero_le _, rfl⟩ (fun x hx => ?_) (hmm := fun x => rfl)
 clear F
 obtain ⟨hxl, hall⟩ := hx
 rcases s6_m6 e x with ⟨es, em⟩ | ⟨es, em⟩
 all_goals (
  simp only [es, em, List.nil_append, List.cons_append]
  clear es em
  by_cases hlt : x < e.cs.length
  ·have q1 : (x : Int) < (e.cs.length : Int) := by omega
   obtain ⟨c, hc⟩ : ∃ a, e.cs[x]? = some a := ⟨_, List.getElem?_eq_getElem hlt⟩
   have hm := List.mem_of_getElem? hc
   have hco := hoc c hm
   have hcb := bulk_cnd hm
   have hw1 := wrap1 (k := x) (by omega)
   have hst := AL_step hc
   have hrb := AL_rows e x
   have hal := AL_len e x
   have hmx : (AL e x).length + 2 <= maxApp := by unfold maxApp; omega
   have es1 := s6_s e x
   have em1 := m6_s e x
   have hcf : pairB g c.1 c.2 = false -> eqnR g e vs = false := fun h => by
    have : e.cs.all (cndB g vs) = false := all_false hm (by simp [cndB, h])
    simp [eqnR, this]
   (have F := ai @tmz (ai @eqz (ai @q1 @hc)); refine gG ?_; clear F)
   refine gB ?_
   (have F := ai @tmz @eqz; refine gC (cT c.1 hco.1 (by omega)) ?_; clear F)
   cases hL1 : isTerm g c.1 with
   | false =>
    have hf := hcf (by simp [pairB, hL1])
    (have F := ai @tmz @eqz; refine gR ?_; clear F)
    (have F := @hf; refine gG ?_; exact gT)
   | true =>
   (have F := ai @tmz @eqz; refine gC (cT c.2 hco.2 (by omega)) ?_; clear F)
   cases hR1 : isTerm g c.2 with
   | false =>
    have hf := hcf (by simp [pairB, hR1])
    (have F := ai @tmz @eqz; refine gR ?_; clear F)
    (have F := @hf; refine gG ?_; exact gT)
   | true =>
   (have F := ai @tmz @eqz; refine gC (cK c.1 hL1) ?_; clear F)
   (have F := ai @tmz @eqz; refine gC (cK c.2 hR1) ?_; clear F)
   by_cases hk1 : kindTm g c.1 = kindTm g c.2
   rotate_left
   ·have hf := hcf (by simp [pairB, hk1])
    have hk1' : (kindTm g c.1 = kindTm g c.2) = False := eq_false hk1
    (have F := ai @tmz (ai @eqz @hk1'); refine gR ?_; clear F)
    (have F := @hf; refine gG ?_; exact gT)
   have hk1' : (kindTm g c.1 = kindTm g c.2) = True := eq_true hk1
   have hPc : pairB g c.1 c.2 = true := by simp [pairB, hL1, hR1, hk1]
   have hq : x + 1 <= e.cs.length ∧ ((e.cs.take (x + 1)).all fun c => pairB g c.1 c.2) = true := ⟨hlt, by rw [all_take_c hc, hall, hPc]; rfl⟩
   (have F := ai @tmz (ai @eqz @hk1'); refine gR ?_; clear F)
   (have F := ai @tmz (ai @eqz (ai @hw1 (ai @hst (ai @hrb (ai @hmx (ai @es1 @em1)))))); refine gG ?_; exact ⟨x + 1, hq, gw, gw, by omega⟩)
  obtain rfl : x = e.cs.length := by omega
  have q1 : ¬ ((e.cs.length : Int) < (e.cs.length : Int)) := by omega
  rw [List.take_length] at hall
  have eA : AL e e.cs.length = encTms (e.r :: flatC e.cs) := by rw [AL, List.take_length]
  rw [eA]
  have er : eqnR g e vs = (decide (vs.length <= 5) && (e.r :: flatC e.cs).all (withB vs)) := by rw [eqnR, cnd_all hall, List.all_cons]
  rw [er]
  have hall2 : ∀ t ∈ e.r :: flatC e.cs, isTerm g t = true := fun t ht => by
   rcases List.mem_cons.1 ht with rfl | ht
   ·exact hR
   ·exact flat_term hall t ht
  have hsl : (e.r :: flatC e.cs).length <= 5 := by rw [List.length_cons, flatC_len]; omega
  generalize e.r :: flatC e.cs = all at *
  (have F := ai @tmz (ai @eqz @q1); refine gG ?_; clear F)
  (have F := @e0P; refine gL (ι := Nat) [4, 10, 12, 94, 95, 99, 100, 101, 102, 108] [] (fun y => [(94, A.d (.one (.lit (.int .i64 y))))]) (fun y => []) (fun y => y <= all.length ∧ (all.take y).all (withB vs) = true) (fun y => all.length - y) (0) (⟨Nat.zero_le _, rfl⟩) (fun y hy => ?_); clear F)
  obtain ⟨hyl, hally⟩ := hy
  by_cases hlt2 : y < all.length
  rotate_left
  ·have q2 : ¬ ((y : Int) < (all.length : Int)) := by omega
   obtain rfl : y = all.length := by omega
   rw [List.take_length] at hally
   have e5 : decide ((vs.length : Int) <= 5) = decide (vs.length <= 5) := by rw [decide_eq_decide]; omega
   (have F := ai @tmz (ai @q2 (ai @hally @e5)); refine gG ?_; exact gT)
  have q2 : (y : Int) < (all.length : Int) := by omega
  obtain ⟨t, ht⟩ : ∃ a, all[y]? = some a := ⟨_, List.getElem?_eq_getElem hlt2⟩
  have hw2 := wrap1 (k := y) (by omega)
  have hmt := List.mem_of_getElem? ht
  have cVt := con_implVars t (term_bulk (hall2 t hmt))
  have hus := varsOf_len t
  have hub := term_bulk (hall2 t hmt)
  have eW : withB vs t = (varsOf t).all (hasB vs) := rfl
  (have F := ai @tmz (ai @q2 (ai @hlt2 @ht)); refine gG ?_; clear F)
  refine gB ?_
  (have F := ai @tmz (ai @hlt2 @ht); refine gC (cVt) ?_; clear F)
  (have F := @tmz; refine gR ?_; clear F)
  (have F := @tmz; refine gG ?_; clear F)
  generalize varsOf t = us at *
  (have F := @e0P; refine gL (ι := Nat) [4, 12, 101, 102, 108] [] (fun z => [(101, A.d (.one (.lit (.int .i64 z))))]) (fun z => []) (fun z => z <= us.length ∧ (us.take z).all (hasB vs) = true) (fun z => us.length - z) (0) (⟨Nat.zero_le _, rfl⟩) (fun z hz => ?_); clear F)
  obtain ⟨hzl, hallz⟩ := hz
  by_cases hlt3 : z < us.length
  rotate_left
  ·have q3 : ¬ ((z : Int) < (us.length : Int)) := by omega
   obtain rfl : z = us.length := by omega
   rw [List.take_length] at hallz
   have hq : y + 1 <= all.length ∧ (all.take (y + 1)).all (withB vs) = true := ⟨hlt2, by rw [all_take_c ht, hally, eW, hallz]; rfl⟩
   (have F := ai @tmz (ai @q3 @hw2); refine gG ?_; exact ⟨y + 1, hq, gw, gw, by omega⟩)
  have q3 : (z : Int) < (us.length : Int) := by omega
  obtain ⟨v, hv⟩ : ∃ a, us[z]? = some a := ⟨_, List.getElem?_eq_getElem hlt3⟩
  have hw3 := wrap1 (k := z) (by omega)
  (have F := ai @tmz (ai @q3 @hv); refine gG ?_; clear F)
  refine gB ?_
  (have F := @tmz; refine gC (con_hasTerm vs v hvb) ?_; clear F)
  cases hh : hasB vs v with
  | false =>
   have hf : all.all (withB vs) = false := all_false hmt (by rw [eW]; exact all_false (List.mem_of_getElem? hv) hh)
   (have F := @tmz; refine gR ?_; clear F)
   (have F := @hf; refine gG ?_; exact gT)
  | true =>
   have hq : z + 1 <= us.length ∧ (us.take (z + 1)).all (hasB vs) = true := ⟨hlt3, by rw [all_take_c hv, hallz, hh]; rfl⟩
   (have F := @tmz; refine gR ?_; clear F)
   (have F := ai @tmz @hw3; refine gG ?_; exact ⟨z + 1, hq, gw, gw, by omega⟩))
end
end Go.Proofs.YtohilkmdjdfljaaGreat
namespace Go.Proofs.YtohilkmdjdfljaaGreat
open Go.RowKit
section
variable {g : Sgn}
set_option maxHeartbeats 8000000 in
set_option maxRecDepth 100000 in
theorem con_l8Format (hg : SgnOk g) : ∀ (n : Nat) (t : Tm), sizeTm t < n -> FormOk g t -> sizeTm t <= 60 -> Con e0 114 [.agg (encSgn g), .agg (encTm t)] [.one (.lit (.string (fmtTm g t)))] := by
 intro n
 induction n with
 | zero => exact fun _ h => by omega
 | succ n ih =>
  intro t hn hf hs
  rw [encSgn] at ih ⊢
  have k58 : (ByteArray.mk #[58]).size = 1 := rfl
  have k40 : (ByteArray.mk #[40]).size = 1 := rfl
  have k41 : (ByteArray.mk #[41]).size = 1 := rfl
  have h12 := opr12 hg t.op
  have s12 := srt12 hg t.sort
  rcases op_cases hf.node with ⟨hvar, hop⟩ | ⟨hop, o, d, hap⟩
  ·obtain ⟨v1, v2, v3, v4, v5⟩ := hvar
   have q1 : (t.op = -1) = True := eq_true v1
   have n12 := name12 v2
   rw [fmt_var v1]
   obtain ⟨sn, hsn⟩ : ∃ sn, g.sorts.names[t.sort.toNat]? = some sn := ⟨_, List.getElem?_eq_getElem (by omega)⟩
   have e1 : srtNm g t.sort = sn := by rw [srtNm, hsn]; rfl
   rw [e1] at s12 ⊢
   have hrb := rb_str g.sorts.names
   have z1 : (t.name.size + (ByteArray.mk #[58]).size <= 9223372036854775807) = True := eq_true (by omega)
   have z2 : ((t.name ++ ⟨#[58]⟩).size + sn.size <= 9223372036854775807) = True := eq_true (by rw [ByteArray.size_append]; omega)
   refine gI 137455731327 Tryz.func114 ?_
   (have F := ai @tmz (ai @q1 (ai @hrb (ai @hsn (ai @encStr_u (ai @v3 (ai @z1 @z2)))))); refine gG ?_; exact gT)
  ·have hne : t.op ≠ -1 := by omega
   have q1 : (t.op = -1) = False := eq_false hne
   have hat := hap.at'
   have hnm : oprNm g t.op = o.name := by rw [oprNm, hat]; rfl
   rw [hnm] at h12
   by_cases hl0 : t.args.length = 0
   ·rw [fmt_one hne hl0, hnm]
    have z0 : ((t.args.length : Int) = 0) = True := eq_true (by omega)
    refine gI 137455731327 Tryz.func114 ?_
    (have F := ai @tmz (ai @q1 (ai @hat (ai @encOpr_u (ai @hop @z0)))); refine gG ?_; exact gT)
   have hl60 : t.args.length < 60 := by
    have h1 := sizeTms_len t.args
    have h2 : sizeTm t = 1 + sizeTms t.args := by obtain ⟨op, nm, so, args⟩ := t; rfl
    omega
   have hst : sizeTms t.args < 60 := by
    have h2 : sizeTm t = 1 + sizeTms t.args := by obtain ⟨op, nm, so, args⟩ := t; rfl
    omega
   have hfs : FormOks g t.args := FormOks_iff.2 (FormOk_iff.1 hf).2.1
   rw [fmt_app hne hl0, hnm]
   have z0 : ((t.args.length : Int) = 0) = False := eq_false (by omega)
   have hjs := joinB_size ⟨#[44, 32]⟩ (fmtTms g t.args)
   have hps := fmts_size hg t.args hfs
   have k2 : (ByteArray.mk #[44, 32]).size = 2 := rfl
   rw [k2] at hjs
   have hfl := fmtTms_len g t.args
   have cJ := con_specJoin (l := fmtTms g t.args) (sep := ⟨#[44, 32]⟩) (by omega) (by rw [k2]; omega) (fun i => by
    rw [fmt_take]
    have h1 := joinB_size ⟨#[44, 32]⟩ (fmtTms g (t.args.take i))
    rw [k2] at h1
    have h2 := fmts_size hg (t.args.take i) (forms_take hfs i)
    have h3 := size_take t.args i
    omega)
   have z1 : (o.name.size + (ByteArray.mk #[40]).size <= 9223372036854775807) = True := eq_true (by omega)
   have z2 : ((o.name ++ ⟨#[40]⟩).size + (joinB (fmtTms g t.args) ⟨#[44, 32]⟩).size <= 9223372036854775807) = True := eq_true (by rw [ByteArray.size_append]; omega)
   have z3 : ((o.name ++ ⟨#[40]⟩ ++ joinB (fmtTms g t.args) ⟨#[44, 32]⟩).size + (ByteArray.mk #[41]).size <= 9223372036854775807) = True := eq_true (by rw [ByteArray.size_append, ByteArray.size_append]; omega)
   refine gI 137455731327 Tryz.func114 ?_
   (have F := ai @tmz (ai @q1 @z0); refine gG ?_; clear F)
   (have F := @fmt_0; refine gL (ι := Nat) [5, 6, 37] [5] (fun i => [(6, A.d (.one (.lit (.int .i64 i)))), (5, .buf 5)]) (fun i => [(5, .buf none 9 1 ((fmtTms g (t.args.take i)).map encStr))]) (fun i => i <= t.args.length) (fun i => t.args.length - i) (0) (Nat.zero_le _) (fun i hi => ?_); clear F)
   by_cases hlt : i < t.args.length
   ·have q2 : (i : Int) < (t.args.length : Int) := by omega
    have hw := wrap1 (k := i) (by omega)
    obtain ⟨b, hb⟩ : ∃ b, t.args[i]? = some b := ⟨_, List.getElem?_eq_getElem hlt⟩
    have hbm := List.mem_of_getElem? hb
    have hsz : sizeTm b < sizeTm t := by
     have h1 := sizeTms_mem hbm
     have h2 : sizeTm t = 1 + sizeTms t.args := by obtain ⟨op, nm, so, args⟩ := t; rfl
     omega
    have cI := ih b (by omega) ((FormOk_iff.1 hf).2.1 b hbm) (by omega)
    have hsn := fmt_snoc (g := g) hb
    have hll : ((fmtTms g (t.args.take i)).map encStr).length = i := by rw [List.length_map, fmtTms_len, List.length_take]; omega
    have hrr := rb_str (fmtTms g (t.args.take i))
    have hmx : (i + 1 <= maxApp) = True := eq_true (by unfold maxApp; omega)
    (have F := ai @tmz @q2; refine gG ?_; clear F)
    refine gB ?_
    (have F := ai @tmz @hb; refine gC (cI) ?_; clear F)
    (have F := ai @hll (ai @hrr (ai @hmx @hsn)); refine gR ?_; clear F)
    (have F := @hw; refine gG ?_; exact ⟨i + 1, hlt, gw, gw, by omega⟩)
   obtain rfl : i = t.args.length := by omega
   have q2 : ¬ ((t.args.length : Int) < (t.args.length : Int)) := by omega
   rw [List.take_length]
   (have F := ai @tmz @q2; have NN : StopAt 10 := trivial; refine gGn ?_; clear F NN)
   refine pS 5 fun a cap => ?_
   refine pD 5 [5] [] ?_
   refine gB ?_
   (have F := ai @tmz (ai @hat (ai @encOpr_u (ai @hop @z1))); refine gC (cJ) ?_; clear F)
   (have F := ai @z1 (ai @z2 @z3); refine gR ?_; clear F)
   (have F := @e0P; refine gG ?_; exact gT)
end
end Go.Proofs.YtohilkmdjdfljaaGreat
namespace Go.Proofs.YtohilkmdjdfljaaGreat
open Go.RowKit
def fmtE (g : Sgn) (e : Eqn) : Nat -> ByteArray
 | 0 => fmtTm g e.l ++ ⟨#[32, 61, 32]⟩ ++ fmtTm g e.r
 | i + 1 => match e.cs[i]? with
  | some c => fmtE g e i ++ (if i = 0 then ⟨#[32, 105, 102, 32]⟩ else ⟨#[32, 97, 110, 100, 32]⟩) ++ fmtTm g c.1 ++ ⟨#[32, 61, 32]⟩ ++ fmtTm g c.2
  | none => fmtE g e i
noncomputable def fmtEq (g : Sgn) (e : Eqn) : ByteArray := if isEqn g e = true then fmtE g e e.cs.length else ⟨#[]⟩
theorem fmtE_0 (g : Sgn) (e : Eqn) : fmtE g e 0 = fmtTm g e.l ++ ⟨#[32, 61, 32]⟩ ++ fmtTm g e.r := rfl
theorem fmtE_s {g : Sgn} {e : Eqn} {i : Nat} {c : Tm × Tm} (h : e.cs[i]? = some c) : fmtE g e (i + 1) = fmtE g e i ++ (if i = 0 then ⟨#[32, 105, 102, 32]⟩ else ⟨#[32, 97, 110, 100, 32]⟩) ++ fmtTm g c.1 ++ ⟨#[32, 61, 32]⟩ ++ fmtTm g c.2 := by
 rw [fmtE, h]
theorem eqn_facts {g : Sgn} {e : Eqn} (h : eqnB g e = true) : isTerm g e.l = true ∧ isTerm g e.r = true ∧ e.cs.length <= 2 ∧ ∀ c ∈ e.cs, isTerm g c.1 = true ∧ isTerm g c.2 = true := by
 simp only [eqnB, pairB, Bool.and_eq_true, decide_eq_true_eq, List.all_eq_true] at h
 refine ⟨h.1.1, h.1.2.1, h.2.2.1, fun c hc => ?_⟩
 have h1 := h.2.2.2.2.2 c hc
 simp only [cndB, pairB, Bool.and_eq_true] at h1
 exact ⟨h1.1.1, h1.1.2.1⟩
theorem fmt_big {g : Sgn} (hg : SgnOk g) {t : Tm} (h : isTerm g t = true) : (fmtTm g t).size <= 1920 := by
 have h1 := isTerm_iff.1 h
 have h2 := fmt_size hg t h1.form
 have h3 := h1.size
 omega
theorem fmtE_size {g : Sgn} (hg : SgnOk g) {e : Eqn} (h : eqnB g e = true) : ∀ i, (fmtE g e i).size <= 4000 * (i + 1)
 | 0 => by
  obtain ⟨h1, h2, _⟩ := eqn_facts h
  have k1 := fmt_big hg h1
  have k2 := fmt_big hg h2
  have k3 : (ByteArray.mk #[32, 61, 32]).size = 3 := rfl
  rw [fmtE_0, ByteArray.size_append, ByteArray.size_append]
  omega
 | i + 1 => by
  have ih := fmtE_size hg h i
  rcases hc : e.cs[i]? with _ | c
  ·rw [fmtE, hc]; show (fmtE g e i).size <= _; omega
  ·obtain ⟨_, _, _, h4⟩ := eqn_facts h
   have h5 := h4 c (List.mem_of_getElem? hc)
   have k1 := fmt_big hg h5.1
   have k2 := fmt_big hg h5.2
   have k3 : (ByteArray.mk #[32, 61, 32]).size = 3 := rfl
   have k4 : (ByteArray.mk #[32, 105, 102, 32]).size = 4 := rfl
   have k5 : (ByteArray.mk #[32, 97, 110, 100, 32]).size = 5 := rfl
   rw [fmtE_s hc]
   simp only [ByteArray.size_append]
   split <;> omega
section
variable {g : Sgn} {e : Eqn}
set_option maxHeartbeats 8000000 in
set_option maxRecDepth 100000 in
theorem con_fmtEq {mc : C} (hg : SgnOk g) (hQ : eqnB g e = true) : Con e0 72 [.one (.ptr (encX g mc)), .agg (encEqn e)] [.one (.lit (.string (fmtE g e e.cs.length)))] := by
 obtain ⟨hl, hr, hcl, hcs⟩ := eqn_facts hQ
 have k3 : (ByteArray.mk #[32, 61, 32]).size = 3 := rfl
 have k4 : (ByteArray.mk #[32, 105, 102, 32]).size = 4 := rfl
 have k5 : (ByteArray.mk #[32, 97, 110, 100, 32]).size = 5 := rfl
 have cF := fun (t : Tm) (h : isTerm g t = true) => con_format (mc := mc) hg (sizeTm t + 1) t (Nat.lt_succ_self _) (isTerm_iff.1 h).form (isTerm_iff.1 h).size
 have b1 := fmt_big hg hl
 have b2 := fmt_big hg hr
 have y1 : ((fmtTm g e.l).size + (ByteArray.mk #[32, 61, 32]).size <= 9223372036854775807) = True := eq_true (by omega)
 have y2 : ((fmtTm g e.l ++ ⟨#[32, 61, 32]⟩).size + (fmtTm g e.r).size <= 9223372036854775807) = True := eq_true (by rw [ByteArray.size_append]; omega)
 refine gI 284164603 Tryz.func72 ?_
 (have F := ai @tmz @eqz; refine gG ?_; clear F)
 refine gB ?_
 (have F := ai @tmz @eqz; refine gC (cF e.l hl) ?_; clear F)
 (have F := ai @tmz (ai @eqz @y1); refine gC (cF e.r hr) ?_; clear F)
 (have F := @y2; refine gR ?_; clear F)
 (have F := ai @tmz @eqz; refine gG ?_; clear F)
 (have F := ((fmtE_0 g e)); refine gL (ι := Nat) [5, 6, 7, 8, 22, 23, 28] [] (fun i => [(22, A.d (.one (.lit (.int .i64 i)))), (5, .d (.one (.lit (.string (fmtE g e i)))))]) (fun i => []) (fun i => i <= e.cs.length) (fun i => e.cs.length - i) (0) (Nat.zero_le _) (fun i hi => ?_); clear F)
 by_cases hlt : i < e.cs.length
 rotate_left
 ·obtain rfl : i = e.cs.length := by omega
  have q1 : ¬ ((e.cs.length : Int) < (e.cs.length : Int)) := by omega
  (have F := ai @tmz (ai @eqz @q1); refine gG ?_; exact gT)
 have q1 : (i : Int) < (e.cs.length : Int) := by omega
 have hw := wrap1 (k := i) (by omega)
 obtain ⟨c, hc⟩ : ∃ c, e.cs[i]? = some c := ⟨_, List.getElem?_eq_getElem hlt⟩
 obtain ⟨c1, c2⟩ := hcs c (List.mem_of_getElem? hc)
 have d1 := fmt_big hg c1
 have d2 := fmt_big hg c2
 have dE := fmtE_size hg hQ i
 have hst := fmtE_s (g := g) hc
 have hgo : ∀ W : ByteArray, W.size <= 5 -> (((fmtE g e i).size + W.size <= 9223372036854775807) = True ∧ ((fmtE g e i ++ W).size + (fmtTm g c.1).size <= 9223372036854775807) = True ∧ ((fmtE g e i ++ W ++ fmtTm g c.1).size + (ByteArray.mk #[32, 61, 32]).size <= 9223372036854775807) = True ∧ ((fmtE g e i ++ W ++ fmtTm g c.1 ++ ⟨#[32, 61, 32]⟩).size + (fmtTm g c.2).size <= 9223372036854775807) = True) := fun W hW => by
  refine ⟨eq_true ?_, eq_true ?_, eq_true ?_, eq_true ?_⟩ <;> (try simp only [ByteArray.size_append]) <;> omega
 by_cases h0 : i = 0
 ·have z0 : ((i : Int) = 0) = True := eq_true (by omega)
  rw [if_pos h0] at hst
  obtain ⟨w1, w2, w3, w4⟩ := hgo ⟨#[32, 105, 102, 32]⟩ (by omega)
  (have F := ai @tmz (ai @eqz (ai @q1 (ai @hc @z0))); refine gG ?_; clear F)
  refine gB ?_
  (have F := ai @tmz (ai @eqz (ai @hc @w1)); refine gC (cF c.1 c1) ?_; clear F)
  (have F := ai @tmz (ai @eqz (ai @hc (ai @w1 (ai @w2 @w3)))); refine gC (cF c.2 c2) ?_; clear F)
  (have F := @w4; refine gR ?_; clear F)
  rw [<- hst]
  (have F := @hw; refine gG ?_; exact ⟨i + 1, hlt, gw, gw, by omega⟩)
 ·have z0 : ((i : Int) = 0) = False := eq_false (by omega)
  rw [if_neg h0] at hst
  obtain ⟨w1, w2, w3, w4⟩ := hgo ⟨#[32, 97, 110, 100, 32]⟩ (by omega)
  (have F := ai @tmz (ai @eqz (ai @q1 (ai @hc @z0))); refine gG ?_; clear F)
  refine gB ?_
  (have F := ai @tmz (ai @eqz (ai @hc @w1)); refine gC (cF c.1 c1) ?_; clear F)
  (have F := ai @tmz (ai @eqz (ai @hc (ai @w1 (ai @w2 @w3)))); refine gC (cF c.2 c2) ?_; clear F)
  (have F := @w4; refine gR ?_; clear F)
  rw [<- hst]
  (have F := @hw; refine gG ?_; exact ⟨i + 1, hlt, gw, gw, by omega⟩)
set_option maxHeartbeats 8000000 in
set_option maxRecDepth 100000 in
theorem con_specFmt (hok : okSgn g) (he : okEqn e) (hb : bulkRow (encEqn e) <= 1048576) : Con e0 68 [.agg (encSgn g), .agg (encEqn e)] [.one (.lit (.string (fmtEq g e)))] := by
 have cE := con_specEqn hok he hb
 cases hE : isEqn g e with
 | false =>
  have hf : fmtEq g e = ⟨#[]⟩ := by simp [fmtEq, hE]
  rw [hE, encSgn] at cE
  rw [encSgn]
  refine gI 1140852991 Tryz.func68 ?_
  (have F := ai @tmz @eqz; refine gG ?_; clear F)
  refine gB ?_
  (have F := ai @tmz @eqz; refine gC (cE) ?_; clear F)
  (have F := ai @tmz @eqz; refine gR ?_; clear F)
  (have F := ai @tmz @hf; refine gG ?_; exact gT)
 | true =>
 rw [hE] at cE
 have hEe := hE
 simp only [isEqn, Bool.and_eq_true] at hE
 have hg := isSgn_iff.1 hE.1
 have hQ := hE.2
 have ef : fmtEq g e = fmtE g e e.cs.length := by simp [fmtEq, hEe]
 rw [ef]
 obtain ⟨hl, hr, hcl, hcs⟩ := eqn_facts hQ
 have k3 : (ByteArray.mk #[32, 61, 32]).size = 3 := rfl
 have k4 : (ByteArray.mk #[32, 105, 102, 32]).size = 4 := rfl
 have k5 : (ByteArray.mk #[32, 97, 110, 100, 32]).size = 5 := rfl
 have cF := fun (t : Tm) (h : isTerm g t = true) => con_l8Format hg (sizeTm t + 1) t (Nat.lt_succ_self _) (isTerm_iff.1 h).form (isTerm_iff.1 h).size
 have b1 := fmt_big hg hl
 have b2 := fmt_big hg hr
 have y1 : ((fmtTm g e.l).size + (ByteArray.mk #[32, 61, 32]).size <= 9223372036854775807) = True := eq_true (by omega)
 have y2 : ((fmtTm g e.l ++ ⟨#[32, 61, 32]⟩).size + (fmtTm g e.r).size <= 9223372036854775807) = True := eq_true (by rw [ByteArray.size_append]; omega)
 rw [encSgn] at cF cE ⊢
 refine gI 1140852991 Tryz.func68 ?_
 (have F := ai @tmz @eqz; refine gG ?_; clear F)
 refine gB ?_
 (have F := ai @tmz @eqz; refine gC (cE) ?_; clear F)
 (have F := ai @tmz @eqz; refine gR ?_; clear F)
 (have F := ai @tmz @eqz; refine gG ?_; clear F)
 refine gB ?_
 (have F := ai @tmz @eqz; refine gC (cF e.l hl) ?_; clear F)
 (have F := ai @tmz (ai @eqz @y1); refine gC (cF e.r hr) ?_; clear F)
 (have F := @y2; refine gR ?_; clear F)
 (have F := ai @tmz @eqz; refine gG ?_; clear F)
 (have F := ((fmtE_0 g e)); refine gL (ι := Nat) [5, 6, 7, 26, 30] [] (fun i => [(6, A.d (.one (.lit (.int .i64 i)))), (5, .d (.one (.lit (.string (fmtE g e i)))))]) (fun i => []) (fun i => i <= e.cs.length) (fun i => e.cs.length - i) (0) (Nat.zero_le _) (fun i hi => ?_); clear F)
 by_cases hlt : i < e.cs.length
 rotate_left
 ·obtain rfl : i = e.cs.length := by omega
  have q1 : ¬ ((e.cs.length : Int) < (e.cs.length : Int)) := by omega
  (have F := ai @tmz (ai @eqz @q1); refine gG ?_; exact gT)
 have q1 : (i : Int) < (e.cs.length : Int) := by omega
 have hw := wrap1 (k := i) (by omega)
 obtain ⟨c, hc⟩ : ∃ c, e.cs[i]? = some c := ⟨_, List.getElem?_eq_getElem hlt⟩
 obtain ⟨c1, c2⟩ := hcs c (List.mem_of_getElem? hc)
 have d1 := fmt_big hg c1
 have d2 := fmt_big hg c2
 have dE := fmtE_size hg hQ i
 have hst := fmtE_s (g := g) hc
 have hgo : ∀ W : ByteArray, W.size <= 5 -> (((fmtE g e i).size + W.size <= 9223372036854775807) = True ∧ ((fmtE g e i ++ W).size + (fmtTm g c.1).size <= 9223372036854775807) = True ∧ ((fmtE g e i ++ W ++ fmtTm g c.1).size + (ByteArray.mk #[32, 61, 32]).size <= 9223372036854775807) = True ∧ ((fmtE g e i ++ W ++ fmtTm g c.1 ++ ⟨#[32, 61, 32]⟩).size + (fmtTm g c.2).size <= 9223372036854775807) = True) := fun W hW => by
  refine ⟨eq_true ?_, eq_true ?_, eq_true ?_, eq_true ?_⟩ <;> (try simp only [ByteArray.size_append]) <;> omega
 by_cases h0 : i = 0
 ·have z0 : ((0 : Int) < (i : Int)) = False := eq_false (by omega)
  rw [if_pos h0] at hst
  obtain ⟨w1, w2, w3, w4⟩ := hgo ⟨#[32, 105, 102, 32]⟩ (by omega)
  (have F := ai @tmz (ai @eqz (ai @q1 (ai @hc @z0))); refine gG ?_; clear F)
  refine gB ?_
  (have F := ai @tmz (ai @eqz (ai @hc @w1)); refine gC (cF c.1 c1) ?_; clear F)
  (have F := ai @tmz (ai @eqz (ai @hc (ai @w1 (ai @w2 @w3)))); refine gC (cF c.2 c2) ?_; clear F)
  (have F := @w4; refine gR ?_; clear F)
  rw [<- hst]
  (have F := @hw; refine gG ?_; exact ⟨i + 1, hlt, gw, gw, by omega⟩)
 ·have z0 : ((0 : Int) < (i : Int)) = True := eq_true (by omega)
  rw [if_neg h0] at hst
  obtain ⟨w1, w2, w3, w4⟩ := hgo ⟨#[32, 97, 110, 100, 32]⟩ (by omega)
  (have F := ai @tmz (ai @eqz (ai @q1 (ai @hc @z0))); refine gG ?_; clear F)
  refine gB ?_
  (have F := ai @tmz (ai @eqz (ai @hc @w1)); refine gC (cF c.1 c1) ?_; clear F)
  (have F := ai @tmz (ai @eqz (ai @hc (ai @w1 (ai @w2 @w3)))); refine gC (cF c.2 c2) ?_; clear F)
  (have F := @w4; refine gR ?_; clear F)
  rw [<- hst]
  (have F := @hw; refine gG ?_; exact ⟨i + 1, hlt, gw, gw, by omega⟩)
end
end Go.Proofs.YtohilkmdjdfljaaGreat
namespace Go.Proofs.YtohilkmdjdfljaaGreat
open Go.Shelf
def growE_ren : Ren := ⟨fun | 4 => 156 | n => n, fun | 22 => 70 | 25 => 124 | 3 => 3 | 4 => 4 | 9 => 9 | 20 => 20 | 0 => 0 | n => n, fun | n => n⟩
theorem growE : Go.Proofs.Lays8.n4 Tryz.prog growE_ren := {
 mixed := by kernel_rfl,
 f4 := ⟨Tryz.f156.name, by decide, Tryz.func156.trans (congrArg some (by kernel_rfl))⟩,
 t0 := Tryz.underlying0,
 a0 := Tryz.isAgg0,
 z0 := Tryz.sizeOf0,
 v0 := Tryz.zeroValue0,
 t3 := Tryz.underlying3,
 a3 := Tryz.isAgg3,
 z3 := Tryz.sizeOf3,
 v3 := Tryz.zeroValue3,
 t4 := Tryz.underlying4,
 a4 := Tryz.isAgg4,
 z4 := Tryz.sizeOf4,
 v4 := Tryz.zeroValue4,
 t9 := Tryz.underlying9,
 a9 := Tryz.isAgg9,
 z9 := Tryz.sizeOf9,
 v9 := Tryz.zeroValue9,
 t20 := Tryz.underlying20,
 a20 := Tryz.isAgg20,
 z20 := Tryz.sizeOf20,
 v20 := Tryz.zeroValue20,
 t22 := Tryz.underlying70,
 a22 := Tryz.isAgg70,
 z22 := Tryz.sizeOf70,
 v22 := Tryz.zeroValue70 }
end Go.Proofs.YtohilkmdjdfljaaGreat
namespace Go.Proofs.YtohilkmdjdfljaaGreat
open Go.RowKit
theorem conR_growOf {ρ : Go.Shelf.Ren} (L : Go.Proofs.Lays8.n4 Tryz.prog ρ) {ts ety sz by' : Nat} (he : ρ.t 25 = ety) (hb : bytesT Tryz.prog ts = some (ety, sz, by')) (hby : by' <= 4096) (hf : hasBody Tryz.prog (ρ.f 4) = true) {n : Nat} (h0 : 0 < n) (h1 : n <= 1000000) : ConR e0 (ρ.f 4) [.clip [], .one (.lit (.int .i64 n))] ety sz [] := by
 subst he
 refine ⟨hf, fun w S vs hS hE hG hv => ?_⟩
 obtain ⟨i, z, hu, hi, hz, hsz, hby', hzs, hs0, hb4⟩ := bytesT_spec hb
 match vs, hv with
 | [v, u], hv =>
  obtain ⟨⟨⟨A, n', cap, hvA, hn', _⟩, b, k, hbk⟩, h2, _⟩ := hv
  have h2 : u = .int .i64 n := by simpa [DRel, Rep] using h2
  subst h2
  have hk : k = 0 := by
   rw [hbk] at hvA
   obtain ⟨_, e1, e2⟩ := by simpa only [Value.slice.injEq] using hvA
   simp at hn'
   omega
  subst hk hbk
  have h := Any8.slices_Grow_grow L i z hi hz (by omega) b 0 0 n [] w (Nat.le_refl _) (by omega) (by
   have : (0 + n) * i.bytes <= 1000000 * 4096 := Nat.mul_le_mul (by omega) (by omega)
   omega) (by omega) (by simp) (fun _ => rfl) (fun a _ j v hj => by simp at hj)
  refine h.mono fun en w' ⟨h3, h4⟩ => ?_
  have hge := grownCap_ge w (0 + n) 0 (ρ.t 25)
  have hle := grownCap_le_maxLen w (0 + n) 0 (ρ.t 25) (by unfold maxLen; omega)
  generalize grownCap w (0 + n) 0 (ρ.t 25) = G at h3 h4 hge hle
  have hne : G ≠ 0 := by omega
  have hvb : vblk (.slice (some ⟨w.heap.size, 0, none⟩) 0 G) = some w.heap.size := by simp [vblk, hne]
  subst h4
  have hk : Kept e0.D (fun b => (none : Option Nat) = some b) w.heap.size w (w.drew.alloc (.cells (([] : List Value).toArray ++ Builtin.zeroCells z.cells (0 + n - 0) ++ Builtin.zeroCells z.cells (G - (0 + n))) (ρ.t 25))) :=
   ⟨rfl, rfl, rfl, fun _ => Nat.le_succ _, by simp, fun k hk _ => heap_alloc_old w.drew _ hk⟩
  have hheap := heap_alloc_new w.drew (.cells (([] : List Value).toArray ++ Builtin.zeroCells z.cells (0 + n - 0) ++ Builtin.zeroCells z.cells (G - (0 + n))) (ρ.t 25))
  refine ⟨_, h3, ⟨hk.os, hk.tape, hk.output, hk.drawn, hk.size, fun b hb _ => hk.block b hb (by simp)⟩, trivial, fun g hg => ?_, ?_⟩
  ·rw [hvb] at hg
   injection hg with hg
   omega
  ·refine ⟨by omega, fun r hr => by simp at hr, .inr ⟨w.heap.size, G, _, rfl, by omega, by simp, fun h => h.2 hvb, hheap, by simp, hle, ?_, by simp [RepRows]⟩⟩
   simp only [Array.size_append, size_zeroCells, hzs, List.size_toArray, List.length_nil, Nat.zero_add, Nat.sub_zero, <- Nat.add_mul]
   rw [show n + (G - n) = G by omega]
theorem con_growRoom {ρ : Go.Shelf.Ren} (L : Go.Proofs.Lays8.n4 Tryz.prog ρ) (hf : hasBody Tryz.prog (ρ.f 4) = true) {n : Nat} (h0 : n = 0) : Con e0 (ρ.f 4) [.clip [], .one (.lit (.int .i64 n))] [.clip []] := by
 subst h0
 refine ⟨hf, fun w S vs hS hE hG hv => ?_⟩
 match vs, hv with
 | [v, u], hv =>
  obtain ⟨⟨⟨A, n', cap, hvA, hn', hr⟩, b, k, hbk⟩, h2, _⟩ := hv
  have h2 : u = .int .i64 ((0 : Nat) : Int) := by simpa [DRel, Rep] using h2
  subst h2
  have hk : k = 0 := by
   rw [hbk] at hvA
   obtain ⟨_, e1, e2⟩ := by simpa only [Value.slice.injEq] using hvA
   simp at hn'
   omega
  subst hk hbk
  have h := Any8.slices_Grow_room L b 0 0 0 w (Nat.le_refl _) (by omega) (by omega) (by omega)
  refine h.mono fun en w' ⟨h3, h4⟩ => ?_
  subst h4
  refine ⟨_, h3, ⟨rfl, rfl, rfl, fun _ => Nat.le_refl _, Nat.le_refl _, fun k hk _ => rfl⟩, hG, ?_⟩
  simp only [retA, ARel, DRel, Rep]
  exact ⟨⟨b, 0, 0, rfl, by simp, by simp, by simp, fun h => absurd h (by simp)⟩, b, 0, rfl⟩
theorem con_growE0 {n : Nat} (h0 : n = 0) : Con e0 156 [.clip [], .one (.lit (.int .i64 n))] [.clip []] := con_growRoom growE (by kernel_rfl) h0
theorem conR_growE {n : Nat} (h0 : 0 < n) (h1 : n <= 1000000) : ConR e0 156 [.clip [], .one (.lit (.int .i64 n))] 124 9 [] :=
 conR_growOf growE (ts := 70) (by' := 136) rfl (by kernel_rfl) (by decide) (by kernel_rfl) h0 h1
end Go.Proofs.YtohilkmdjdfljaaGreat
namespace Go.Proofs.YtohilkmdjdfljaaGreat
open Go.RowKit
def totR (rs : List (List (List C))) (x : Nat) : Nat := (rs.take x).flatten.length
def flR (rs : List (List (List C))) (x : Nat) : List (List C) := (rs.take x).flatten
theorem totR_0 (rs : List (List (List C))) : totR rs 0 = 0 := by simp [totR]
theorem flR_0 (rs : List (List (List C))) : flR rs 0 = [] := by simp [flR]
theorem flR_step {rs : List (List (List C))} {x : Nat} {r : List (List C)} (h : rs[x]? = some r) : flR rs x ++ r = flR rs (x + 1) := by
 simp [flR, List.take_add_one, h]
theorem totR_step {rs : List (List (List C))} {x : Nat} {r : List (List C)} (h : rs[x]? = some r) : totR rs (x + 1) = totR rs x + r.length := by
 have := flR_step h
 simp only [totR, flR] at this ⊢
 rw [<- this, List.length_append]
theorem totR_le (rs : List (List (List C))) (x : Nat) : totR rs x <= rs.flatten.length := by
 have : rs.flatten = (rs.take x).flatten ++ (rs.drop x).flatten := by rw [<- List.flatten_append, List.take_append_drop]
 rw [totR, this, List.length_append]; omega
theorem rb_sls (rs : List (List (List C))) : rowsB 1 (rs.map fun r => [C.sl r]) = true := by
 induction rs with
 | nil => rfl
 | cons r rs ih => simp [rowsB_cons, ih, okCell]
set_option maxHeartbeats 8000000 in
set_option maxRecDepth 100000 in
theorem con_concatE (rs : List (List (List C))) (hr : ∀ r ∈ rs, rowsB 9 r = true) (hn : rs.length <= 1000) (hl : rs.flatten.length <= 1000000) : Con e0 116 [.one (.sl (rs.map fun r => [.sl r]))] [.one (.sl rs.flatten)] := by
 have rb := rb_sls rs
 refine gI 504373101 Tryz.func116 ?_
 (have F := @tmz; refine gG ?_; clear F)
 (have F := ((totR_0 rs)); refine gL (ι := Nat) [3, 5, 11, 12, 20] [] (fun x => [(3, A.d (.one (.lit (.int .i64 (totR rs x))))), (11, A.d (.one (.lit (.int .i64 x))))]) (fun x => []) (fun x => x <= rs.length) (fun x => rs.length - x) (0) (Nat.zero_le _) (fun x hx => ?_); clear F)
 by_cases hlt : x < rs.length
 ·have q1 : (x : Int) < (rs.length : Int) := by omega
  obtain ⟨r, hx1⟩ : ∃ a, rs[x]? = some a := ⟨_, List.getElem?_eq_getElem hlt⟩
  have hw1 := wrap1 (k := x) (by omega)
  have hts := totR_step hx1
  have htl := totR_le rs (x + 1)
  have hw2 : IntKind.i64.wrap ((totR rs x : Int) + (r.length : Int)) = (totR rs (x + 1) : Int) := by rw [IntWalk.i64_in _ (by omega)]; omega
  have hn2 : ¬ ((totR rs (x + 1) : Int) < 0) := by omega
  (have F := ai @tmz (ai @rb (ai @q1 (ai @hx1 (ai @hw1 (ai @hw2 @hn2))))); refine gG ?_; exact ⟨x + 1, hlt, gw, gw, by omega⟩)
 obtain rfl : x = rs.length := by omega
 have q1 : ¬ ((rs.length : Int) < (rs.length : Int)) := by omega
 have htt : totR rs rs.length = rs.flatten.length := by simp [totR]
 (have F := ai @tmz @q1; refine gG ?_; clear F)
 refine gB ?_
 have hfin : flR rs rs.length = rs.flatten := by simp [flR]
 rcases Nat.eq_zero_or_pos (totR rs rs.length) with h0 | h0
 (have F := @tmz; refine gC (con_growE0 h0) ?_; clear F)
 rotate_left
 (have F := @tmz; refine gCR (conR_growE h0 (by omega)) ?_; clear F)
 all_goals (
  (have F := @tmz; refine gR ?_; clear F)
  (have F := @tmz; refine gG ?_; clear F)
  (have F := ((flR_0 rs)); refine gL (ι := Nat) [6, 8, 27, 28] [6] (fun y => [(6, .buf 6), (27, A.d (.one (.lit (.int .i64 y))))]) (fun y => [(6, .buf none 124 9 (flR rs y))]) (fun y => y <= rs.length) (fun y => rs.length - y) (0) (Nat.zero_le _) (fun y hy => ?_); clear F)
  by_cases hlt : y < rs.length
  ·have q2 : (y : Int) < (rs.length : Int) := by omega
   obtain ⟨r, hy1⟩ : ∃ a, rs[y]? = some a := ⟨_, List.getElem?_eq_getElem hlt⟩
   have hw1 := wrap1 (k := y) (by omega)
   have hrr := hr r (List.mem_of_getElem? hy1)
   have hst := flR_step hy1
   have htl := totR_le rs (y + 1)
   have hlen : (flR rs y).length + r.length <= maxApp := by
    rw [<- List.length_append, hst]
    unfold maxApp
    have : (flR rs (y + 1)).length = totR rs (y + 1) := rfl
    omega
   (have F := ai @tmz (ai @rb (ai @q2 (ai @hy1 (ai @hw1 (ai @hrr (ai @hst @hlen)))))); refine gG ?_; exact ⟨y + 1, hlt, gw, gw, by omega⟩)
  obtain rfl : y = rs.length := by omega
  have q2 : ¬ ((rs.length : Int) < (rs.length : Int)) := by omega
  rw [hfin]
  (have F := ai @tmz @q2; refine gG ?_; exact gTz [2]))
end Go.Proofs.YtohilkmdjdfljaaGreat
namespace Go.Proofs.YtohilkmdjdfljaaGreat
open Go.RowKit
structure Mdl where
 sig : Sgn
 eqs : List Eqn
 rules : List Eqn
def encMdl (m : Mdl) : List C := [.sl (m.sig.sorts.names.map encStr), .sl (m.sig.sorts.subs.map encSub), .sl (m.sig.ops.map encOpr), .sl (m.eqs.map encEqn), .sl (m.rules.map encEqn)]
def okMdl (m : Mdl) : Prop := okSgn m.sig ∧ (∀ e ∈ m.eqs, okEqn e) ∧ ∀ e ∈ m.rules, okEqn e
theorem decEqns : ∀ {rows : List (List C)}, okRows (fieldsOf .eqn) rows -> ∃ l : List Eqn, rows = l.map encEqn ∧ ∀ e ∈ l, okEqn e
 | [], _ => ⟨[], rfl, by simp⟩
 | r :: rs, h => by
  simp only [okRows] at h
  obtain ⟨c, rfl, hc⟩ := decEqn h.1
  obtain ⟨cs, rfl, hcs⟩ := decEqns h.2
  exact ⟨c :: cs, rfl, by intro x hx; rcases List.mem_cons.1 hx with rfl | hx; exact hc; exact hcs x hx⟩
theorem decMod {row : List C} (h : okRow moduleF row) : ∃ m, row = encMdl m ∧ okMdl m := by
 obtain ⟨r0, r1, r2, r3, r4, rfl, g0, g1, g2, g3, g4⟩ := okRow_Module h
 obtain ⟨s, hs, hok⟩ := decSgn (mkRow_Signature g0 g1 g2)
 obtain ⟨es, rfl, hes⟩ := decEqns g3
 obtain ⟨us, rfl, hus⟩ := decEqns g4
 rw [encSgn] at hs
 injection hs with e0 hs
 injection hs with e1 hs
 injection hs with e2 hs
 exact ⟨⟨s, es, us⟩, by rw [encMdl, e0, e1, e2], hok, hes, hus⟩
theorem eqn_rows (l : List Eqn) : rowsB 9 (l.map encEqn) = true := by
 induction l with
 | nil => rfl
 | cons e l ih => simp only [List.map_cons, rowsB_cons, eq_len, ih, eq_ok]; rfl
noncomputable def hasEq (m : Mdl) : Bool := decide (m.eqs.length <= 16) && (decide (m.rules.length <= 16) && (m.eqs.all (eqnB m.sig) && m.rules.all (eqnB m.sig)))
noncomputable def isMdl (m : Mdl) : Bool := isSgn m.sig && hasEq m
theorem bulk_mdl (m : Mdl) : bulkRow (encMdl m) = bulkRow (encSgn m.sig) + (m.eqs.length + bulkRows (m.eqs.map encEqn) + (m.rules.length + bulkRows (m.rules.map encEqn))) := by
 simp only [encMdl, encSgn, bulkRow, bulkC, List.length_map]
 omega
theorem bulk_eq_mem {l : List Eqn} {e : Eqn} (h : e ∈ l) : bulkRow (encEqn e) <= bulkRows (l.map encEqn) := by
 obtain ⟨i, hi⟩ := List.getElem?_of_mem h
 have : (l.map encEqn)[i]? = some (encEqn e) := by rw [List.getElem?_map, hi]; rfl
 exact bulk_get this
set_option maxHeartbeats 8000000 in
set_option maxRecDepth 100000 in
theorem con_specMod {m : Mdl} (hm : okMdl m) (hb : bulkRow (encMdl m) <= 1048576) : Con e0 66 [.agg (encMdl m)] [.one (.lit (.bool (isMdl m)))] := by
 rw [bulk_mdl] at hb
 obtain ⟨hokg, hoe, hou⟩ := hm
 have cS := con_specSgn hokg
 rw [encSgn] at cS
 have cE := fun (e : Eqn) (he : okEqn e) (hb : bulkRow (encEqn e) <= 1048576) => con_specEqn hokg he hb
 rw [encSgn] at cE
 have er := eqn_rows
 have ed : encMdl m = [.sl (m.sig.sorts.names.map encStr), .sl (m.sig.sorts.subs.map encSub), .sl (m.sig.ops.map encOpr), .sl (m.eqs.map encEqn), .sl (m.rules.map encEqn)] := rfl
 rw [ed]
 refine gI 4505867404705823 Tryz.func66 ?_
 (have F := ai @tmz (ai @eqz @er); refine gG ?_; clear F)
 refine gB ?_
 (have F := @tmz; refine gC (cS) ?_; clear F)
 by_cases hs : isSgn m.sig = true
 rotate_left
 ·have hs' : isSgn m.sig = false := by simpa using hs
  have hf : isMdl m = false := by simp [isMdl, hs']
  (have F := ai @tmz @hs'; refine gR ?_; clear F)
  (have F := @hf; refine gG ?_; exact gT)
 by_cases h1 : m.eqs.length <= 16
 rotate_left
 ·have hf : isMdl m = false := by simp [isMdl, hasEq, h1]
  have h1' : (16 : Int) < (m.eqs.length : Int) := by omega
  (have F := ai @tmz (ai @hs @h1'); refine gR ?_; clear F)
  (have F := @hf; refine gG ?_; exact gT)
 have h1' : ¬ ((16 : Int) < (m.eqs.length : Int)) := by omega
 by_cases h2 : m.rules.length <= 16
 rotate_left
 ·have hf : isMdl m = false := by simp [isMdl, hasEq, h2]
  have h2' : (16 : Int) < (m.rules.length : Int) := by omega
  (have F := ai @tmz (ai @hs (ai @h1' @h2')); refine gR ?_; clear F)
  (have F := @hf; refine gG ?_; exact gT)
 have h2' : ¬ ((16 : Int) < (m.rules.length : Int)) := by omega
 have ei : isMdl m = (m.eqs.all (eqnB m.sig) && m.rules.all (eqnB m.sig)) := by simp [isMdl, hasEq, hs, h1, h2]
 rw [ei]
 have eq' : ∀ e, isEqn m.sig e = eqnB m.sig e := fun e => by simp [isEqn, hs]
 (have F := ai @tmz (ai @hs (ai @h1' @h2')); refine gR ?_; clear F)
 (have F := ai @tmz (ai @eqz @er); refine gG ?_; clear F)
 (have F := @e0P; refine gL (ι := Nat) [2, 3, 25, 36] [] (fun x => [(3, A.d (.one (.lit (.int .i64 x))))]) (fun x => []) (fun x => x <= m.eqs.length ∧ (m.eqs.take x).all (eqnB m.sig) = true) (fun x => m.eqs.length - x) (0) (⟨Nat.zero_le _, rfl⟩) (fun x hx => ?_); clear F)
 obtain ⟨hxl, hall⟩ := hx
 by_cases hlt : x < m.eqs.length
 ·have q1 : (x : Int) < (m.eqs.length : Int) := by omega
  obtain ⟨c, hc⟩ : ∃ a, m.eqs[x]? = some a := ⟨_, List.getElem?_eq_getElem hlt⟩
  have hmm := List.mem_of_getElem? hc
  have hw1 := wrap1 (k := x) (by omega)
  have hbb := bulk_eq_mem hmm
  (have F := ai @tmz (ai @eqz (ai @er (ai @q1 @hc))); refine gG ?_; clear F)
  refine gB ?_
  (have F := ai @tmz (ai @eqz (ai @er @hc)); refine gC (cE c (hoe c hmm) (by omega)) ?_; clear F)
  rw [eq' c]
  cases hh : eqnB m.sig c with
  | false =>
   have hf : m.eqs.all (eqnB m.sig) = false := all_false hmm hh
   (have F := @tmz; refine gR ?_; clear F)
   (have F := @hf; refine gG ?_; exact gT)
  | true =>
   have hq : x + 1 <= m.eqs.length ∧ (m.eqs.take (x + 1)).all (eqnB m.sig) = true := ⟨hlt, by rw [all_take_c hc, hall, hh]; rfl⟩
   (have F := @tmz; refine gR ?_; clear F)
   (have F := ai @tmz @hw1; refine gG ?_; exact ⟨x + 1, hq, gw, gw, by omega⟩)
 obtain rfl : x = m.eqs.length := by omega
 have q1 : ¬ ((m.eqs.length : Int) < (m.eqs.length : Int)) := by omega
 rw [List.take_length] at hall
 rw [hall, Bool.true_and]
 (have F := ai @tmz (ai @eqz (ai @er @q1)); refine gG ?_; clear F)
 (have F := @e0P; refine gL (ι := Nat) [2, 4, 41, 52] [] (fun y => [(4, A.d (.one (.lit (.int .i64 y))))]) (fun y => []) (fun y => y <= m.rules.length ∧ (m.rules.take y).all (eqnB m.sig) = true) (fun y => m.rules.length - y) (0) (⟨Nat.zero_le _, rfl⟩) (fun y hy => ?_); clear F)
 obtain ⟨hyl, hally⟩ := hy
 by_cases hlt2 : y < m.rules.length
 ·have q2 : (y : Int) < (m.rules.length : Int) := by omega
  obtain ⟨c, hc⟩ : ∃ a, m.rules[y]? = some a := ⟨_, List.getElem?_eq_getElem hlt2⟩
  have hmm := List.mem_of_getElem? hc
  have hw1 := wrap1 (k := y) (by omega)
  have hbb := bulk_eq_mem hmm
  (have F := ai @tmz (ai @eqz (ai @er (ai @q2 @hc))); refine gG ?_; clear F)
  refine gB ?_
  (have F := ai @tmz (ai @eqz (ai @er @hc)); refine gC (cE c (hou c hmm) (by omega)) ?_; clear F)
  rw [eq' c]
  cases hh : eqnB m.sig c with
  | false =>
   have hf : m.rules.all (eqnB m.sig) = false := all_false hmm hh
   (have F := @tmz; refine gR ?_; clear F)
   (have F := @hf; refine gG ?_; exact gT)
  | true =>
   have hq : y + 1 <= m.rules.length ∧ (m.rules.take (y + 1)).all (eqnB m.sig) = true := ⟨hlt2, by rw [all_take_c hc, hally, hh]; rfl⟩
   (have F := @tmz; refine gR ?_; clear F)
   (have F := ai @tmz @hw1; refine gG ?_; exact ⟨y + 1, hq, gw, gw, by omega⟩)
 obtain rfl : y = m.rules.length := by omega
 have q2 : ¬ ((m.rules.length : Int) < (m.rules.length : Int)) := by omega
 rw [List.take_length] at hally
 (have F := ai @tmz (ai @er (ai @q2 @hally)); refine gG ?_; exact gT)
theorem con_clip1 {e : Env} {f : FuncId} {rows : List (List C)} {r : List D} (h : Con e f [.one (.sl rows)] r) : Con e f [.clip rows] r :=
 h.weaken fun w S vs hv => by
  match vs, hv with
  | [x], hv => exact ⟨hv.1.1, trivial⟩
set_option maxHeartbeats 8000000 in
set_option maxRecDepth 100000 in
theorem con_hasEq {m : Mdl} {mc : C} (hg : SgnOk m.sig) (hm : okMdl m) (hb : bulkRow (encMdl m) <= 1048576) : Con e0 70 [.one (.ptr (encX m.sig mc)), .agg (encMdl m)] [.one (.lit (.bool (hasEq m)))] := by
 rw [bulk_mdl] at hb
 obtain ⟨hokg, hoe, hou⟩ := hm
 have cE := fun (e : Eqn) (he : okEqn e) (hb : bulkRow (encEqn e) <= 1048576) => con_algEqn (mc := mc) hg he hb
 have er := eqn_rows
 have ed : encMdl m = [.sl (m.sig.sorts.names.map encStr), .sl (m.sig.sorts.subs.map encSub), .sl (m.sig.ops.map encOpr), .sl (m.eqs.map encEqn), .sl (m.rules.map encEqn)] := rfl
 rw [ed]
 refine gI 2210463835 Tryz.func70 ?_
 by_cases h1 : m.eqs.length <= 16
 rotate_left
 ·have hf : hasEq m = false := by simp [hasEq, h1]
  have h1' : (16 : Int) < (m.eqs.length : Int) := by omega
  (have F := ai @tmz (ai @er (ai @h1' @hf)); refine gG ?_; exact gT)
 have h1' : ¬ ((16 : Int) < (m.eqs.length : Int)) := by omega
 by_cases h2 : m.rules.length <= 16
 rotate_left
 ·have hf : hasEq m = false := by simp [hasEq, h2]
  have h2' : (16 : Int) < (m.rules.length : Int) := by omega
  (have F := ai @tmz (ai @er (ai @h1' (ai @h2' @hf))); refine gG ?_; exact gT)
 have h2' : ¬ ((16 : Int) < (m.rules.length : Int)) := by omega
 have cC := con_clip1 (con_concatE [m.eqs.map encEqn, m.rules.map encEqn] (by intro r hr; simp at hr; rcases hr with rfl | rfl <;> exact er _) (by simp) (by simp; omega))
 have ef : [m.eqs.map encEqn, m.rules.map encEqn].flatten = (m.eqs ++ m.rules).map encEqn := by simp
 rw [ef] at cC
 simp only [List.map_cons, List.map_nil] at cC
 have ei : hasEq m = (m.eqs ++ m.rules).all (eqnB m.sig) := by simp [hasEq, h1, h2, List.all_append]
 rw [ei]
 have hal : ∀ e ∈ m.eqs ++ m.rules, okEqn e ∧ bulkRow (encEqn e) <= 1048576 := fun e he => by
  rcases List.mem_append.1 he with h | h
  ·have := bulk_eq_mem h
   exact ⟨hoe e h, by omega⟩
  ·have := bulk_eq_mem h
   exact ⟨hou e h, by omega⟩
 have hln : (m.eqs ++ m.rules).length <= 32 := by rw [List.length_append]; omega
 (have F := ai @tmz (ai @er (ai @h1' @h2')); refine gG ?_; clear F)
 refine gB ?_
 (have F := ai @tmz @er; refine gC (cC) ?_; clear F)
 generalize m.eqs ++ m.rules = l at *
 (have F := ai @tmz @er; refine gR ?_; clear F)
 (have F := ai @tmz @er; refine gG ?_; clear F)
 (have F := @e0P; refine gL (ι := Nat) [4, 6, 24, 25, 31] [] (fun x => [(24, A.d (.one (.lit (.int .i64 x))))]) (fun x => []) (fun x => x <= l.length ∧ (l.take x).all (eqnB m.sig) = true) (fun x => l.length - x) (0) (⟨Nat.zero_le _, rfl⟩) (fun x hx => ?_); clear F)
 obtain ⟨hxl, hall⟩ := hx
 by_cases hlt : x < l.length
 ·have q1 : (x : Int) < (l.length : Int) := by omega
  obtain ⟨c, hc⟩ : ∃ a, l[x]? = some a := ⟨_, List.getElem?_eq_getElem hlt⟩
  have hmm := List.mem_of_getElem? hc
  have hw1 := wrap1 (k := x) (by omega)
  (have F := ai @tmz (ai @eqz (ai @er (ai @q1 @hc))); refine gG ?_; clear F)
  refine gB ?_
  (have F := ai @tmz (ai @eqz (ai @er @hc)); refine gC (cE c (hal c hmm).1 (hal c hmm).2) ?_; clear F)
  cases hh : eqnB m.sig c with
  | false =>
   have hf : l.all (eqnB m.sig) = false := all_false hmm hh
   (have F := @tmz; refine gR ?_; clear F)
   (have F := @hf; refine gG ?_; exact gT)
  | true =>
   have hq : x + 1 <= l.length ∧ (l.take (x + 1)).all (eqnB m.sig) = true := ⟨hlt, by rw [all_take_c hc, hall, hh]; rfl⟩
   (have F := @tmz; refine gR ?_; clear F)
   (have F := ai @tmz @hw1; refine gG ?_; exact ⟨x + 1, hq, gw, gw, by omega⟩)
 obtain rfl : x = l.length := by omega
 have q1 : ¬ ((l.length : Int) < (l.length : Int)) := by omega
 rw [List.take_length] at hall
 (have F := ai @tmz (ai @er (ai @q1 @hall)); refine gG ?_; exact gT)
end Go.Proofs.YtohilkmdjdfljaaGreat
namespace Go.Proofs.YtohilkmdjdfljaaGreat
open Go.RowKit
def idxL (F : Nat -> ByteArray) (n : Nat) : List ByteArray := (List.range n).map F
theorem idx_s (F : Nat -> ByteArray) (n : Nat) : idxL F (n + 1) = idxL F n ++ [F n] := by simp [idxL, List.range_succ]
def sR (l : List ByteArray) : List (List C) := l.map encStr
theorem sR_step {pre : List ByteArray} {F : Nat -> ByteArray} {i : Nat} : sR (pre ++ idxL F i) ++ [[.lit (.string (F i))]] = sR (pre ++ idxL F (i + 1)) := by
 rw [idx_s, <- List.append_assoc]; simp [sR, encStr_u]
theorem sR_0 (pre : List ByteArray) (F : Nat -> ByteArray) : sR (pre ++ idxL F 0) = sR pre := by simp [idxL]
theorem sR_n0 (F : Nat -> ByteArray) : sR (idxL F 0) = [] := by simp [idxL, sR]
theorem sR_rows (l : List ByteArray) : rowsB 1 (sR l) = true := rb_str l
theorem sR_len (l : List ByteArray) : (sR l).length = l.length := List.length_map ..
theorem idx_len (F : Nat -> ByteArray) (n : Nat) : (idxL F n).length = n := by simp [idxL]
section
variable {g : Sgn}
theorem nm_at {k : Int} (h0 : 0 <= k) (h1 : k < g.sorts.names.length) : g.sorts.names[k.toNat]? = some (srtNm g k) := by
 unfold srtNm
 rw [List.getElem?_eq_getElem (by omega)]; rfl
theorem nm_nat {i : Nat} (h : i < g.sorts.names.length) : g.sorts.names[i]? = some (srtNm g i) := nm_at (k := (i : Int)) (by omega) (by omega)
def srtL (g : Sgn) (i : Nat) : ByteArray := ⟨#[115, 111, 114, 116, 32]⟩ ++ srtNm g i
def subL (g : Sgn) (i : Nat) : ByteArray := match g.sorts.subs[i]? with
 | none => ⟨#[]⟩
 | some p => ⟨#[115, 117, 98, 32]⟩ ++ srtNm g p.1 ++ ⟨#[32]⟩ ++ srtNm g p.2
def argL (g : Sgn) (b : ByteArray) (xs : List Int) : Nat -> ByteArray
 | 0 => b
 | i + 1 => argL g b xs i ++ ⟨#[32]⟩ ++ srtNm g (xs.getD i 0)
def axW (g : Sgn) (o : Opr) : ByteArray :=
 (if o.unit = 0 then (fun x => x) else fun x => x ++ ⟨#[32, 117, 110, 105, 116, 32]⟩ ++ oprNm g (o.unit - 1))
 ((if o.comm = true then fun x => x ++ ⟨#[32, 99, 111, 109, 109]⟩ else fun x => x)
 ((if o.assoc = true then fun x => x ++ ⟨#[32, 97, 115, 115, 111, 99]⟩ else fun x => x) (⟨#[]⟩ : ByteArray)))
def headL (g : Sgn) (o : Opr) (d : Dcl) : ByteArray := argL g (⟨#[111, 112, 32]⟩ ++ o.name ++ ⟨#[32, 58]⟩) d.args d.args.length ++ ⟨#[32, 45, 62, 32]⟩ ++ srtNm g d.res
def dclL (g : Sgn) (o : Opr) (d : Dcl) (first : Bool) : ByteArray := if first = true then headL g o d ++ axW g o else headL g o d
def opL (g : Sgn) (j k : Nat) : ByteArray := match g.ops[j]? with
 | none => ⟨#[]⟩
 | some o => match o.decls[k]? with
  | none => ⟨#[]⟩
  | some d => dclL g o d (decide (k = 0))
def nDec (g : Sgn) (j : Nat) : Nat := match g.ops[j]? with
 | none => 0
 | some o => o.decls.length
def eqL (g : Sgn) (w : ByteArray) (l : List Eqn) (i : Nat) : ByteArray := match l[i]? with
 | none => ⟨#[]⟩
 | some e => w ++ fmtE g e e.cs.length
theorem subL_at {i : Nat} {p : Int × Int} (h : g.sorts.subs[i]? = some p) : subL g i = ⟨#[115, 117, 98, 32]⟩ ++ srtNm g p.1 ++ ⟨#[32]⟩ ++ srtNm g p.2 := by simp only [subL, h]
theorem opL_at {j k : Nat} {o : Opr} {d : Dcl} (h : g.ops[j]? = some o) (hd : o.decls[k]? = some d) : opL g j k = dclL g o d (decide (k = 0)) := by simp only [opL, h, hd]
theorem nDec_at {j : Nat} {o : Opr} (h : g.ops[j]? = some o) : nDec g j = o.decls.length := by simp only [nDec, h]
theorem eqL_at {w : ByteArray} {l : List Eqn} {i : Nat} {e : Eqn} (h : l[i]? = some e) : eqL g w l i = w ++ fmtE g e e.cs.length := by simp only [eqL, h]
def stA (g : Sgn) : List ByteArray := idxL (srtL g) g.sorts.names.length
def stB (g : Sgn) : List ByteArray := stA g ++ idxL (subL g) g.sorts.subs.length
def stC (g : Sgn) (j : Nat) : List ByteArray := stB g ++ (List.range j).flatMap fun j => idxL (opL g j) (nDec g j)
theorem stC_0 : stC g 0 = stB g := by simp [stC]
theorem stC_s (j : Nat) : stC g (j + 1) = stC g j ++ idxL (opL g j) (nDec g j) := by simp [stC, List.range_succ]
def stD (m : Mdl) : List ByteArray := stC m.sig m.sig.ops.length ++ idxL (eqL m.sig ⟨#[101, 113, 32]⟩ m.eqs) m.eqs.length
def stE (m : Mdl) : List ByteArray := stD m ++ idxL (eqL m.sig ⟨#[114, 108, 32]⟩ m.rules) m.rules.length
noncomputable def fmtM (m : Mdl) : List ByteArray := if isMdl m = true then stE m else []
theorem srtL_size (hg : SgnOk g) (i : Nat) : (srtL g i).size <= 17 := by
 have := srt12 hg (i : Int)
 have k : (ByteArray.mk #[115, 111, 114, 116, 32]).size = 5 := rfl
 rw [srtL, ByteArray.size_append]; omega
theorem subL_size (hg : SgnOk g) (i : Nat) : (subL g i).size <= 29 := by
 unfold subL
 split
 ·exact Nat.zero_le _
 ·rename_i p _
  have h1 := srt12 hg p.1
  have h2 := srt12 hg p.2
  have k1 : (ByteArray.mk #[115, 117, 98, 32]).size = 4 := rfl
  have k2 : (ByteArray.mk #[32]).size = 1 := rfl
  simp only [ByteArray.size_append]; omega
theorem argL_size (hg : SgnOk g) (b : ByteArray) (xs : List Int) : ∀ i, (argL g b xs i).size <= b.size + 13 * i
 | 0 => Nat.le_refl _
 | i + 1 => by
  have h1 := argL_size hg b xs i
  have h2 := srt12 hg (xs.getD i 0)
  have k2 : (ByteArray.mk #[32]).size = 1 := rfl
  simp only [argL, ByteArray.size_append]; omega
theorem axW_size (hg : SgnOk g) (o : Opr) : (axW g o).size <= 29 := by
 have h2 := opr12 hg (o.unit - 1)
 have k1 : (ByteArray.mk #[32, 97, 115, 115, 111, 99]).size = 6 := rfl
 have k2 : (ByteArray.mk #[32, 99, 111, 109, 109]).size = 5 := rfl
 have k3 : (ByteArray.mk #[32, 117, 110, 105, 116, 32]).size = 6 := rfl
 have k4 : (ByteArray.mk #[]).size = 0 := rfl
 unfold axW
 by_cases u : o.unit = 0 <;> by_cases c : o.comm = true <;> by_cases a : o.assoc = true <;> simp only [u, c, a, if_true, if_false, Bool.false_eq_true, ByteArray.size_append] <;> omega
theorem headL_size (hg : SgnOk g) {o : Opr} {d : Dcl} (hn : o.name.size <= 12) (hd : d.args.length <= 3) : (headL g o d).size <= 72 := by
 have h1 := argL_size hg (⟨#[111, 112, 32]⟩ ++ o.name ++ ⟨#[32, 58]⟩) d.args d.args.length
 have h2 := srt12 hg d.res
 have k1 : (ByteArray.mk #[111, 112, 32]).size = 3 := rfl
 have k2 : (ByteArray.mk #[32, 58]).size = 2 := rfl
 have k3 : (ByteArray.mk #[32, 45, 62, 32]).size = 4 := rfl
 simp only [ByteArray.size_append] at h1
 simp only [headL, ByteArray.size_append]; omega
structure DecIn (g : Sgn) (d : Dcl) : Prop where
 n : d.args.length <= 3
 args : ∀ k ∈ d.args, 0 <= k ∧ k < g.sorts.names.length
 lo : 0 <= d.res
 hi : d.res < g.sorts.names.length
theorem decIn (hg : SgnOk g) {o : Opr} (ho : o ∈ g.ops) {d : Dcl} (hd : d ∈ o.decls) : DecIn g d := by
 have h := hg.decls o ho
 obtain ⟨f, hf⟩ : ∃ f, o.decls[0]? = some f := ⟨_, List.getElem?_eq_getElem (by have := h.len1; omega)⟩
 have ha := h.all f hf d hd
 have := h.ar f hf
 have := ha.len
 exact ⟨by omega, ha.args, ha.res.1, ha.res.2⟩
theorem opL_size (hg : SgnOk g) (j k : Nat) : (opL g j k).size <= 101 := by
 rcases ho : g.ops[j]? with _ | o
 ·simp only [opL, ho]; exact Nat.zero_le _
 rcases hd : o.decls[k]? with _ | d
 ·simp only [opL, ho, hd]; exact Nat.zero_le _
 rw [opL_at ho hd]
 have h1 := headL_size (o := o) hg (name12 (hg.names j o ho).1) (decIn hg (List.mem_of_getElem? ho) (List.mem_of_getElem? hd)).n
 have h2 := axW_size hg o
 simp only [dclL]
 split
 ·rw [ByteArray.size_append]; omega
 ·omega
theorem eqL_size (hg : SgnOk g) {w : ByteArray} (hw : w.size = 3) {l : List Eqn} (hl : ∀ e ∈ l, eqnB g e = true) (i : Nat) : (eqL g w l i).size <= 12003 := by
 unfold eqL
 rcases he : l[i]? with _ | e
 ·exact Nat.zero_le _
 have hq := hl e (List.mem_of_getElem? he)
 have h1 := fmtE_size hg hq e.cs.length
 have h2 := (eqn_facts hq).2.2.1
 simp only [ByteArray.size_append]; omega
theorem sR_bulk_app (a b : List ByteArray) : bulkRows (sR (a ++ b)) = bulkRows (sR a) + bulkRows (sR b) := by
 induction a with
 | nil => simp [sR, bulkRows]
 | cons x a ih => simp only [sR, List.cons_append, List.map_cons, bulkRows] at ih ⊢; omega
theorem sR_bulk_idx {F : Nat -> ByteArray} {B : Nat} (h : ∀ i, (F i).size <= B) : ∀ n, bulkRows (sR (idxL F n)) <= n * B
 | 0 => by simp [idxL, sR, bulkRows]
 | n + 1 => by
  have h1 := sR_bulk_idx h n
  have h2 := h n
  rw [idx_s, sR_bulk_app, Nat.succ_mul]
  simp only [sR, List.map_cons, List.map_nil, encStr_u, bulkRows, bulkRow, bulkC]
  simp only [sR] at h1
  omega
theorem stC_bulk (hg : SgnOk g) : ∀ j, bulkRows (sR (stC g j)) <= bulkRows (sR (stB g)) + j * 404 ∧ (stC g j).length <= (stB g).length + j * 4
 | 0 => by rw [stC_0]; simp
 | j + 1 => by
  have h1 := stC_bulk hg j
  have h2 := sR_bulk_idx (F := opL g j) (opL_size hg j) (nDec g j)
  have h3 : nDec g j <= 4 := by
   unfold nDec
   rcases ho : g.ops[j]? with _ | o
   ·exact Nat.zero_le _
   ·exact (hg.decls o (List.mem_of_getElem? ho)).len4
  have h4 : nDec g j * 101 <= 4 * 101 := Nat.mul_le_mul_right _ h3
  rw [stC_s, sR_bulk_app, List.length_append, idx_len]
  omega
theorem fmtM_bulk (m : Mdl) : (sR (fmtM m)).length + bulkRows (sR (fmtM m)) <= 1048576 := by
 unfold fmtM
 by_cases h : isMdl m = true
 rotate_left
 ·rw [if_neg h]; simp [sR, bulkRows]
 rw [if_pos h]
 simp only [isMdl, hasEq, Bool.and_eq_true, decide_eq_true_eq, List.all_eq_true] at h
 obtain ⟨hs, h1, h2, h3, h4⟩ := h
 have hg := isSgn_iff.1 hs
 have a1 := sR_bulk_idx (F := srtL m.sig) (srtL_size hg) m.sig.sorts.names.length
 have a2 := sR_bulk_idx (F := subL m.sig) (subL_size hg) m.sig.sorts.subs.length
 have a3 := stC_bulk hg m.sig.ops.length
 have a4 := sR_bulk_idx (F := eqL m.sig ⟨#[101, 113, 32]⟩ m.eqs) (eqL_size hg rfl h3) m.eqs.length
 have a5 := sR_bulk_idx (F := eqL m.sig ⟨#[114, 108, 32]⟩ m.rules) (eqL_size hg rfl h4) m.rules.length
 have b1 := hg.sorts.n8
 have b2 := hg.sorts.m16
 have b3 := hg.len
 rw [sR_len]
 simp only [stE, stD, stB, stA, sR_bulk_app, List.length_append, idx_len] at a3 ⊢
 omega
theorem fmtM_ok (m : Mdl) : okRows (fieldsOf .str) (sR (fmtM m)) := by
 have hb := fmtM_bulk m
 generalize fmtM m = l at hb
 have h : ∀ l : List ByteArray, bulkRows (sR l) <= 1048576 -> okRows (fieldsOf .str) (sR l) := fun l => by
  induction l with
  | nil => exact fun _ => trivial
  | cons x l ih =>
   intro h
   simp only [sR, List.map_cons, encStr_u, bulkRows, bulkRow, bulkC] at h ih ⊢
   exact ⟨mkRow_String (by unfold maxLen; omega), ih (by omega)⟩
 exact h l (by omega)
theorem sR_lits (l : List ByteArray) : sR l = (l.map fun x => [Value.string x]).map litRow := by
 simp [sR, List.map_map, litRow, Function.comp, encStr_u]
end
end Go.Proofs.YtohilkmdjdfljaaGreat
namespace Go.Proofs.YtohilkmdjdfljaaGreat
open Go.RowKit
section
variable {g : Sgn}
theorem oprNm_at {j : Nat} {k : Int} {o : Opr} (h : g.ops[k.toNat]? = some o) : oprNm g k = o.name := by rw [oprNm, h]; rfl
theorem small_cat {a b : ByteArray} (h : a.size + b.size <= 1000000) : (a.size + b.size <= 9223372036854775807) = True := eq_true (by omega)
theorem unit_at (hg : SgnOk g) {o : Opr} (ho : o ∈ g.ops) (hu : ¬ o.unit = 0) : ∃ p, g.ops[(o.unit - 1).toNat]? = some p ∧ p.name.size <= 12 ∧ oprNm g (o.unit - 1) = p.name ∧ IntKind.i64.wrap (o.unit - 1) = o.unit - 1 ∧ 0 <= o.unit - 1 := by
 have hax := hg.axs o ho
 have h1 := hax.lo
 have h2 := hax.hi
 have h3 := hg.len
 obtain ⟨p, hp⟩ : ∃ p, g.ops[(o.unit - 1).toNat]? = some p := ⟨_, List.getElem?_eq_getElem (by omega)⟩
 refine ⟨p, hp, name12 (hg.names _ p hp).1, oprNm_at (j := 0) hp, wrapN rfl (by omega) (by omega), by omega⟩
theorem axW_cases (o : Opr) : ∃ x : ByteArray, x.size <= 11 ∧ axW g o = (if o.unit = 0 then x else x ++ ⟨#[32, 117, 110, 105, 116, 32]⟩ ++ oprNm g (o.unit - 1)) ∧ x = ((if o.comm = true then fun x => x ++ ⟨#[32, 99, 111, 109, 109]⟩ else fun x => x) ((if o.assoc = true then fun x => x ++ ⟨#[32, 97, 115, 115, 111, 99]⟩ else fun x => x) (⟨#[]⟩ : ByteArray))) := by
 refine ⟨_, ?_, ?_, rfl⟩
 ·have k1 : (ByteArray.mk #[32, 97, 115, 115, 111, 99]).size = 6 := rfl
  have k2 : (ByteArray.mk #[32, 99, 111, 109, 109]).size = 5 := rfl
  have k4 : (ByteArray.mk #[]).size = 0 := rfl
  by_cases c : o.comm = true <;> by_cases a : o.assoc = true <;> simp only [c, a, if_true, if_false, Bool.false_eq_true, ByteArray.size_append] <;> omega
 ·unfold axW
  by_cases u : o.unit = 0 <;> simp only [u, if_true, if_false]
set_option maxHeartbeats 8000000 in
set_option maxRecDepth 100000 in
theorem con_axW (hg : SgnOk g) {o : Opr} (ho : o ∈ g.ops) : Con e0 71 [.agg (encSgn g), .agg (encOpr o)] [.one (.lit (.string (axW g o)))] := by
 have k1 : (ByteArray.mk #[32, 97, 115, 115, 111, 99]).size = 6 := rfl
 have k2 : (ByteArray.mk #[32, 99, 111, 109, 109]).size = 5 := rfl
 have k3 : (ByteArray.mk #[32, 117, 110, 105, 116, 32]).size = 6 := rfl
 have k4 : (ByteArray.mk #[]).size = 0 := rfl
 have z1 : ((ByteArray.mk #[]).size + (ByteArray.mk #[32, 97, 115, 115, 111, 99]).size <= 9223372036854775807) = True := small_cat (by omega)
 have z2 : ((ByteArray.mk #[] ++ ByteArray.mk #[32, 97, 115, 115, 111, 99]).size + (ByteArray.mk #[32, 99, 111, 109, 109]).size <= 9223372036854775807) = True := small_cat (by rw [ByteArray.size_append]; omega)
 have z3 : ((ByteArray.mk #[]).size + (ByteArray.mk #[32, 99, 111, 109, 109]).size <= 9223372036854775807) = True := small_cat (by omega)
 obtain ⟨x, hx, hax, hxe⟩ := axW_cases (g := g) o
 have z4 : (x.size + (ByteArray.mk #[32, 117, 110, 105, 116, 32]).size <= 9223372036854775807) = True := small_cat (by omega)
 rw [hax]
 clear hax
 rw [encSgn, encOpr]
 refine gI 67775 Tryz.func71 ?_
 have hgo : ∀ (y : ByteArray), y = x -> True := fun _ _ => trivial
 by_cases hu : o.unit = 0
 ·have u1 : (o.unit = 0) = True := eq_true hu
  rw [if_pos hu]
  subst hxe
  cases hc : o.comm <;> cases ha : o.assoc <;> simp only [if_true, if_false, Bool.false_eq_true]
  ·(have F := ai @ha (ai @hc @u1); refine gG ?_; exact gT)
  ·(have F := ai @ha (ai @hc (ai @u1 @z1)); refine gG ?_; exact gT)
  ·(have F := ai @ha (ai @hc (ai @u1 @z3)); refine gG ?_; exact gT)
  ·(have F := ai @ha (ai @hc (ai @u1 (ai @z1 @z2))); refine gG ?_; exact gT)
 ·have u1 : (o.unit = 0) = False := eq_false hu
  rw [if_neg hu]
  obtain ⟨p, hp, hps, hpn, hw, hlo⟩ := unit_at hg ho hu
  have z5 : ((x ++ ByteArray.mk #[32, 117, 110, 105, 116, 32]).size + p.name.size <= 9223372036854775807) = True := small_cat (by rw [ByteArray.size_append]; omega)
  rw [hpn]
  subst hxe
  cases hc : o.comm <;> cases ha : o.assoc <;> simp only [hc, ha, if_true, if_false, Bool.false_eq_true] at z4 z5 ⊢
  ·(have F := ai @ha (ai @hc (ai @u1 (ai @z4 (ai @z5 (ai @hw (ai @hlo (ai @hp @encOpr_u))))))); refine gG ?_; exact gT)
  ·(have F := ai @ha (ai @hc (ai @u1 (ai @z1 (ai @z4 (ai @z5 (ai @hw (ai @hlo (ai @hp @encOpr_u)))))))); refine gG ?_; exact gT)
  ·(have F := ai @ha (ai @hc (ai @u1 (ai @z3 (ai @z4 (ai @z5 (ai @hw (ai @hlo (ai @hp @encOpr_u)))))))); refine gG ?_; exact gT)
  ·(have F := ai @ha (ai @hc (ai @u1 (ai @z1 (ai @z2 (ai @z4 (ai @z5 (ai @hw (ai @hlo (ai @hp @encOpr_u))))))))); refine gG ?_; exact gT)
theorem arg_step {b : ByteArray} {xs : List Int} {i : Nat} {k : Int} (h : xs[i]? = some k) : argL g b xs (i + 1) = argL g b xs i ++ ⟨#[32]⟩ ++ srtNm g k := by
 simp only [argL, List.getD, h, Option.getD]
theorem ape (x : ByteArray) : x ++ (⟨#[]⟩ : ByteArray) = x := ByteArray.append_empty
set_option maxHeartbeats 8000000 in
set_option maxRecDepth 100000 in
theorem con_l14Decl (hg : SgnOk g) {o : Opr} (ho : o ∈ g.ops) {d : Dcl} (hd : d ∈ o.decls) (first : Bool) : Con e0 67 [.agg (encSgn g), .agg (encOpr o), .agg (encDcl d), .one (.lit (.bool first))] [.one (.lit (.string (dclL g o d first)))] := by
 obtain ⟨hn3, hargs, hlo, hhi⟩ := decIn hg ho hd
 obtain ⟨j0, hj0⟩ := List.getElem?_of_mem ho
 have hon := name12 (hg.names j0 o hj0).1
 have k0 : (ByteArray.mk #[111, 112, 32]).size = 3 := rfl
 have k0b : (ByteArray.mk #[32, 58]).size = 2 := rfl
 have k0c : (ByteArray.mk #[32]).size = 1 := rfl
 have k0d : (ByteArray.mk #[32, 45, 62, 32]).size = 4 := rfl
 have y1 : ((ByteArray.mk #[111, 112, 32]).size + o.name.size <= 9223372036854775807) = True := small_cat (by omega)
 have y2 : ((ByteArray.mk #[111, 112, 32] ++ o.name).size + (ByteArray.mk #[32, 58]).size <= 9223372036854775807) = True := small_cat (by rw [ByteArray.size_append]; omega)
 have hsz := argL_size hg (⟨#[111, 112, 32]⟩ ++ o.name ++ ⟨#[32, 58]⟩) d.args
 have hbs : ((ByteArray.mk #[111, 112, 32] ++ o.name ++ ⟨#[32, 58]⟩ : ByteArray)).size <= 17 := by simp only [ByteArray.size_append]; omega
 have hhd : headL g o d = argL g (⟨#[111, 112, 32]⟩ ++ o.name ++ ⟨#[32, 58]⟩) d.args d.args.length ++ ⟨#[32, 45, 62, 32]⟩ ++ srtNm g d.res := rfl
 have hL := headL_size (d := d) hg hon hn3
 have hrb := rb_str g.sorts.names
 rw [encSgn, encOpr, encDcl]
 refine gI 297870894104577919 Tryz.func67 ?_
 (have F := ai @y1 @y2; refine gG ?_; clear F)
 generalize (ByteArray.mk #[111, 112, 32] ++ o.name ++ ⟨#[32, 58]⟩ : ByteArray) = B at hsz hbs hhd ⊢
 have ha0 : argL g B d.args 0 = B := rfl
 (have F := @ha0; refine gL (ι := Nat) [9, 10, 19] [] (fun i => [(10, A.d (.one (.lit (.int .i64 i)))), (9, .d (.one (.lit (.string (argL g B d.args i)))))]) (fun i => []) (fun i => i <= d.args.length) (fun i => d.args.length - i) (0) (Nat.zero_le _) (fun i hi => ?_); clear F)
 have hsi := hsz i
 by_cases hlt : i < d.args.length
 ·obtain ⟨k, hk⟩ : ∃ k, d.args[i]? = some k := ⟨_, List.getElem?_eq_getElem hlt⟩
  obtain ⟨hk0, hk1⟩ := hargs k (List.mem_of_getElem? hk)
  have hkn := nm_at hk0 hk1
  have q1 : ((i : Int) < (d.args.length : Int)) = True := eq_true (by omega)
  have hw := wrap1 (k := i) (by omega)
  have hst := arg_step (g := g) (b := B) hk
  have hs := srt12 hg k
  have z1 : ((argL g B d.args i).size + (ByteArray.mk #[32]).size <= 9223372036854775807) = True := small_cat (by omega)
  have z2 : ((argL g B d.args i ++ ⟨#[32]⟩).size + (srtNm g k).size <= 9223372036854775807) = True := small_cat (by rw [ByteArray.size_append]; omega)
  (have F := ai @q1 (ai @hk (ai @encInt_u (ai @hk0 (ai @hkn (ai @encStr_u (ai @hrb (ai @z1 (ai @z2 (ai @hst @hw))))))))); refine gG ?_; exact ⟨i + 1, hlt, gw, gw, by omega⟩)
 obtain rfl : i = d.args.length := by omega
 have q1 : ¬ ((d.args.length : Int) < (d.args.length : Int)) := by omega
 have hrn := nm_at hlo hhi
 have hs := srt12 hg d.res
 have z1 : ((argL g B d.args d.args.length).size + (ByteArray.mk #[32, 45, 62, 32]).size <= 9223372036854775807) = True := small_cat (by omega)
 have z2 : ((argL g B d.args d.args.length ++ ⟨#[32, 45, 62, 32]⟩).size + (srtNm g d.res).size <= 9223372036854775807) = True := small_cat (by rw [ByteArray.size_append]; omega)
 cases first with
 | false =>
  have e : dclL g o d false = headL g o d := rfl
  rw [e, hhd]
  (have F := ai @q1 (ai @hlo (ai @hrn (ai @encStr_u (ai @hrb (ai @z1 @z2))))); refine gG ?_; exact gT)
 | true =>
 have e : dclL g o d true = headL g o d ++ axW g o := rfl
 rw [e]
 clear e
 (have F := ai @q1 (ai @hlo (ai @hrn (ai @encStr_u (ai @hrb (ai @z1 @z2))))); refine gG ?_; clear F)
 rw [<- hhd]
 generalize headL g o d = L at hL ⊢
 clear z1 z2 hhd hsz hsi
 have k1 : (ByteArray.mk #[32, 97, 115, 115, 111, 99]).size = 6 := rfl
 have k2 : (ByteArray.mk #[32, 99, 111, 109, 109]).size = 5 := rfl
 have k3 : (ByteArray.mk #[32, 117, 110, 105, 116, 32]).size = 6 := rfl
 have w1 : (L.size + (ByteArray.mk #[32, 97, 115, 115, 111, 99]).size <= 9223372036854775807) = True := small_cat (by omega)
 have w2 : ((L ++ ByteArray.mk #[32, 97, 115, 115, 111, 99]).size + (ByteArray.mk #[32, 99, 111, 109, 109]).size <= 9223372036854775807) = True := small_cat (by rw [ByteArray.size_append]; omega)
 have w3 : (L.size + (ByteArray.mk #[32, 99, 111, 109, 109]).size <= 9223372036854775807) = True := small_cat (by omega)
 obtain ⟨x, hx, hax, hxe⟩ := axW_cases (g := g) o
 have hx2 : (L ++ x).size <= 83 := by rw [ByteArray.size_append]; omega
 have w4 : ((L ++ x).size + (ByteArray.mk #[32, 117, 110, 105, 116, 32]).size <= 9223372036854775807) = True := small_cat (by omega)
 rw [hax]
 clear hax
 by_cases hu : o.unit = 0
 ·have u1 : (0 < o.unit) = False := eq_false (by omega)
  rw [if_pos hu]
  subst hxe
  cases hc : o.comm <;> cases ha : o.assoc <;> simp only [if_true, if_false, Bool.false_eq_true, <- ByteArray.append_assoc, ape]
  ·(have F := ai @ha (ai @hc @u1); refine gG ?_; exact gT)
  ·(have F := ai @ha (ai @hc (ai @u1 @w1)); refine gG ?_; exact gT)
  ·(have F := ai @ha (ai @hc (ai @u1 @w3)); refine gG ?_; exact gT)
  ·(have F := ai @ha (ai @hc (ai @u1 (ai @w1 @w2))); refine gG ?_; exact gT)
 ·rw [if_neg hu]
  obtain ⟨p, hp, hps, hpn, hw, hulo⟩ := unit_at hg ho hu
  have u1 : (0 < o.unit) = True := eq_true (by omega)
  have w5 : ((L ++ x ++ ByteArray.mk #[32, 117, 110, 105, 116, 32]).size + p.name.size <= 9223372036854775807) = True := small_cat (by rw [ByteArray.size_append]; omega)
  rw [hpn]
  subst hxe
  cases hc : o.comm <;> cases ha : o.assoc <;> simp only [hc, ha, if_true, if_false, Bool.false_eq_true, <- ByteArray.append_assoc, ape] at w4 w5 ⊢
  ·(have F := ai @ha (ai @hc (ai @u1 (ai @w4 (ai @w5 (ai @hw (ai @hulo (ai @hp @encOpr_u))))))); refine gG ?_; exact gT)
  ·(have F := ai @ha (ai @hc (ai @u1 (ai @w1 (ai @w4 (ai @w5 (ai @hw (ai @hulo (ai @hp @encOpr_u)))))))); refine gG ?_; exact gT)
  ·(have F := ai @ha (ai @hc (ai @u1 (ai @w3 (ai @w4 (ai @w5 (ai @hw (ai @hulo (ai @hp @encOpr_u)))))))); refine gG ?_; exact gT)
  ·(have F := ai @ha (ai @hc (ai @u1 (ai @w1 (ai @w2 (ai @w4 (ai @w5 (ai @hw (ai @hulo (ai @hp @encOpr_u))))))))); refine gG ?_; exact gT)
end
end Go.Proofs.YtohilkmdjdfljaaGreat
namespace Go.Proofs.YtohilkmdjdfljaaGreat
open Go.RowKit
theorem sR_s0 (F : Nat -> ByteArray) (i : Nat) : sR (idxL F i) ++ [[.lit (.string (F i))]] = sR (idxL F (i + 1)) := by
 have := sR_step (pre := []) (F := F) (i := i)
 simpa using this
theorem lenB (l : List ByteArray) (h : l.length <= 1000) : (l.length + 1 <= maxApp) = True := eq_true (by unfold maxApp; omega)
theorem dec0 (k : Nat) : decide ((k : Int) = 0) = decide (k = 0) := by
 by_cases h : k = 0
 ·subst h; rfl
 ·rw [decide_eq_false h, decide_eq_false (by omega)]
structure FmOk (m : Mdl) : Prop where
 sg : SgnOk m.sig
 n1 : m.eqs.length <= 16
 n2 : m.rules.length <= 16
 e1 : ∀ e ∈ m.eqs, eqnB m.sig e = true
 e2 : ∀ e ∈ m.rules, eqnB m.sig e = true
theorem fm_ok {m : Mdl} (h : isMdl m = true) : FmOk m := by
 simp only [isMdl, hasEq, Bool.and_eq_true, decide_eq_true_eq, List.all_eq_true] at h
 exact ⟨isSgn_iff.1 h.1, h.2.1, h.2.2.1, h.2.2.2.1, h.2.2.2.2⟩
theorem stA_len (g : Sgn) : (stA g).length = g.sorts.names.length := idx_len _ _
theorem stB_len (g : Sgn) : (stB g).length = g.sorts.names.length + g.sorts.subs.length := by rw [stB, List.length_append, stA_len, idx_len]
theorem stC_len {g : Sgn} (hg : SgnOk g) (j : Nat) (hj : j <= g.ops.length) : (stC g j).length <= 80 := by
 have h1 := (stC_bulk hg j).2
 have h2 := stB_len g
 have h3 := hg.sorts.n8
 have h4 := hg.sorts.m16
 have h5 := hg.len
 omega
section
variable {m : Mdl}
theorem fmtEq_yes {g : Sgn} {e : Eqn} (hg : SgnOk g) (h : eqnB g e = true) : fmtEq g e = fmtE g e e.cs.length := by
 have : isEqn g e = true := by simp [isEqn, isSgn_true hg, h]
 rw [fmtEq, if_pos this]
theorem eq_big {g : Sgn} {e : Eqn} (hg : SgnOk g) (h : eqnB g e = true) : (fmtE g e e.cs.length).size <= 12000 := by
 have h1 := fmtE_size hg h e.cs.length
 have h2 := (eqn_facts h).2.2.1
 omega
set_option maxHeartbeats 16000000 in
set_option maxRecDepth 100000 in
theorem con_specFmtM (hm : okMdl m) (hb : bulkRow (encMdl m) <= 1048576) : Con e0 24 [.agg (encMdl m)] [.one (.sl (sR (fmtM m)))] := by
 have cM := con_specMod hm hb
 have cE := fun (e : Eqn) (he : okEqn e) (hb : bulkRow (encEqn e) <= 1048576) => con_specFmt (g := m.sig) hm.1 he hb
 have ed : encMdl m = [.sl (m.sig.sorts.names.map encStr), .sl (m.sig.sorts.subs.map encSub), .sl (m.sig.ops.map encOpr), .sl (m.eqs.map encEqn), .sl (m.rules.map encEqn)] := rfl
 have er := eqn_rows
 rw [encSgn] at cE
 rw [bulk_mdl] at hb
 rw [ed] at cM ⊢
 refine gI (ts := [.slot 2]) 43556309119380215710047160323142641010687 Tryz.func24 ?_
 (have F := @tmz; refine gG ?_; clear F)
 refine gB ?_
 (have F := @tmz; refine gC (cM) ?_; clear F)
 cases h1 : isMdl m with
 | false =>
  have e : fmtM m = [] := by rw [fmtM, h1]; rfl
  rw [e, show sR [] = [] from rfl]
  (have F := @tmz; refine gR ?_; clear F)
  (have F := @tmz; refine gG ?_; clear F)
  (have F := @tmz; refine gG ?_; exact gTz [2])
 | true =>
 obtain ⟨hg, h16, h16', hq1, hq2⟩ := fm_ok h1
 have e : fmtM m = stE m := by rw [fmtM, if_pos h1]
 rw [e]
 clear e
 have n8 := hg.sorts.n8
 have m16 := hg.sorts.m16
 have hsub := hg.sorts.subs
 have hln := hg.len
 have cD := fun (o : Opr) (ho : o ∈ m.sig.ops) (d : Dcl) (hd : d ∈ o.decls) (b : Bool) => con_l14Decl hg ho hd b
 rw [encSgn] at cD
 have hrs := rb_str m.sig.sorts.names
 have hru := rb_sub m.sig.sorts.subs
 have hro := rb_opr m.sig.ops
 have ks : (ByteArray.mk #[115, 111, 114, 116, 32]).size = 5 := rfl
 have ku : (ByteArray.mk #[115, 117, 98, 32]).size = 4 := rfl
 have k1 : (ByteArray.mk #[32]).size = 1 := rfl
 have ke : (ByteArray.mk #[101, 113, 32]).size = 3 := rfl
 have kr : (ByteArray.mk #[114, 108, 32]).size = 3 := rfl
 (have F := @tmz; refine gR ?_; clear F)
 (have F := @tmz; refine gG ?_; clear F)
 (have F := @sR_n0; refine gL (ι := Nat) [3, 5, 23] [3] (fun i => [(5, A.d (.one (.lit (.int .i64 i)))), (3, .buf 3)]) (fun i => [(3, .buf none 9 1 (sR (idxL (srtL m.sig) i)))]) (fun i => i <= m.sig.sorts.names.length) (fun i => m.sig.sorts.names.length - i) (0) (Nat.zero_le _) (fun i hi => ?_); clear F)
 by_cases hlt : i < m.sig.sorts.names.length
 ·have q1 : ((i : Int) < (m.sig.sorts.names.length : Int)) = True := eq_true (by omega)
  have hw := wrap1 (k := i) (by omega)
  have hn := nm_nat hlt
  have hs := srt12 hg (i : Int)
  have z1 : ((ByteArray.mk #[115, 111, 114, 116, 32]).size + (srtNm m.sig i).size <= 9223372036854775807) = True := small_cat (by omega)
  have l1 := sR_rows (idxL (srtL m.sig) i)
  have l2 := sR_len (idxL (srtL m.sig) i)
  have l3 := lenB (idxL (srtL m.sig) i) (by rw [idx_len]; omega)
  have hst : sR (idxL (srtL m.sig) i) ++ [[.lit (.string (⟨#[115, 111, 114, 116, 32]⟩ ++ srtNm m.sig i))]] = sR (idxL (srtL m.sig) (i + 1)) := sR_s0 (srtL m.sig) i
  (have F := ai @q1 (ai @hn (ai @natInt (ai @encStr_u (ai @hrs (ai @z1 (ai @l1 (ai @l2 (ai @l3 (ai @hst @hw))))))))); refine gG ?_; exact ⟨i + 1, hlt, gw, gw, by omega⟩)
 obtain rfl : i = m.sig.sorts.names.length := by omega
 have q1 : ¬ ((m.sig.sorts.names.length : Int) < (m.sig.sorts.names.length : Int)) := by omega
 rw [show idxL (srtL m.sig) m.sig.sorts.names.length = stA m.sig from rfl]
 (have F := @q1; refine gG ?_; clear F)
 (have F := ((sR_0 (stA m.sig))); refine gL (ι := Nat) [3, 6, 41] [3] (fun i => [(6, A.d (.one (.lit (.int .i64 i)))), (3, .buf 3)]) (fun i => [(3, .buf none 9 1 (sR (stA m.sig ++ idxL (subL m.sig) i)))]) (fun i => i <= m.sig.sorts.subs.length) (fun i => m.sig.sorts.subs.length - i) (0) (Nat.zero_le _) (fun i hi => ?_); clear F)
 by_cases hlt : i < m.sig.sorts.subs.length
 ·obtain ⟨p, hp⟩ : ∃ p, m.sig.sorts.subs[i]? = some p := ⟨_, List.getElem?_eq_getElem hlt⟩
  obtain ⟨p0, p1, p2, p3, _⟩ := hsub p (List.mem_of_getElem? hp)
  have q2 : ((i : Int) < (m.sig.sorts.subs.length : Int)) = True := eq_true (by omega)
  have hw := wrap1 (k := i) (by omega)
  have hn1 := nm_at (g := m.sig) p0 p1
  have hn2 := nm_at (g := m.sig) p2 p3
  have hs1 := srt12 hg p.1
  have hs2 := srt12 hg p.2
  have z1 : ((ByteArray.mk #[115, 117, 98, 32]).size + (srtNm m.sig p.1).size <= 9223372036854775807) = True := small_cat (by omega)
  have z2 : ((ByteArray.mk #[115, 117, 98, 32] ++ srtNm m.sig p.1).size + (ByteArray.mk #[32]).size <= 9223372036854775807) = True := small_cat (by rw [ByteArray.size_append]; omega)
  have z3 : ((ByteArray.mk #[115, 117, 98, 32] ++ srtNm m.sig p.1 ++ ⟨#[32]⟩).size + (srtNm m.sig p.2).size <= 9223372036854775807) = True := small_cat (by simp only [ByteArray.size_append]; omega)
  have l1 := sR_rows (stA m.sig ++ idxL (subL m.sig) i)
  have l2 := sR_len (stA m.sig ++ idxL (subL m.sig) i)
  have l3 := lenB (stA m.sig ++ idxL (subL m.sig) i) (by rw [List.length_append, stA_len, idx_len]; omega)
  have hst : sR (stA m.sig ++ idxL (subL m.sig) i) ++ [[.lit (.string (⟨#[115, 117, 98, 32]⟩ ++ srtNm m.sig p.1 ++ ⟨#[32]⟩ ++ srtNm m.sig p.2))]] = sR (stA m.sig ++ idxL (subL m.sig) (i + 1)) := by rw [<- subL_at hp]; exact sR_step
  generalize stA m.sig ++ idxL (subL m.sig) i = us at l1 l2 l3 hst ⊢
  (have F := ai @q2 (ai @hp (ai @encSub_u (ai @p0 (ai @p2 (ai @hn1 (ai @hn2 (ai @natInt (ai @encStr_u (ai @hrs (ai @hru (ai @z1 (ai @z2 (ai @z3 (ai @l1 (ai @l2 (ai @l3 (ai @hst @hw))))))))))))))))); refine gG ?_; exact ⟨i + 1, hlt, gw, gw, by omega⟩)
 obtain rfl : i = m.sig.sorts.subs.length := by omega
 have q2 : ¬ ((m.sig.sorts.subs.length : Int) < (m.sig.sorts.subs.length : Int)) := by omega
 rw [show stA m.sig ++ idxL (subL m.sig) m.sig.sorts.subs.length = stB m.sig from rfl]
 (have F := @q2; refine gG ?_; clear F)
 (have F := ((stC_0 (g := m.sig))); refine gL (ι := Nat) [3, 7, 8, 78, 89] [3] (fun j => [(7, A.d (.one (.lit (.int .i64 j)))), (3, .buf 3)]) (fun j => [(3, .buf none 9 1 (sR (stC m.sig j)))]) (fun j => j <= m.sig.ops.length) (fun j => m.sig.ops.length - j) (0) (Nat.zero_le _) (fun j hj => ?_); clear F)
 by_cases hlt : j < m.sig.ops.length
 ·obtain ⟨o, ho⟩ : ∃ o, m.sig.ops[j]? = some o := ⟨_, List.getElem?_eq_getElem hlt⟩
  have hom := List.mem_of_getElem? ho
  have hd4 := (hg.decls o hom).len4
  have q3 : ((j : Int) < (m.sig.ops.length : Int)) = True := eq_true (by omega)
  have hw := wrap1 (k := j) (by omega)
  have hcl := stC_len hg j (by omega)
  have hrd := rb_dcl o.decls
  have hsC := stC_s (g := m.sig) j
  rw [nDec_at ho] at hsC
  generalize stC m.sig j = vs at hcl hsC ⊢
  (have F := @q3; refine gG ?_; clear F)
  (have F := ((sR_0 vs)); refine gL (ι := Nat) [3, 8, 89] [3] (fun k => [(8, A.d (.one (.lit (.int .i64 k)))), (3, .buf 3)]) (fun k => [(3, .buf none 9 1 (sR (vs ++ idxL (opL m.sig j) k)))]) (fun k => k <= o.decls.length) (fun k => o.decls.length - k) (0) (Nat.zero_le _) (fun k hk => ?_); clear F)
  by_cases hlk : k < o.decls.length
  ·obtain ⟨d, hd⟩ : ∃ d, o.decls[k]? = some d := ⟨_, List.getElem?_eq_getElem hlk⟩
   have q4 : ((k : Int) < (o.decls.length : Int)) = True := eq_true (by omega)
   have hwk := wrap1 (k := k) (by omega)
   have cDd := cD o hom d (List.mem_of_getElem? hd) (decide ((k : Int) = 0))
   have l1 := sR_rows (vs ++ idxL (opL m.sig j) k)
   have l2 := sR_len (vs ++ idxL (opL m.sig j) k)
   have l3 := lenB (vs ++ idxL (opL m.sig j) k) (by rw [List.length_append, idx_len]; omega)
   have hst : sR (vs ++ idxL (opL m.sig j) k) ++ [[.lit (.string (dclL m.sig o d (decide ((k : Int) = 0))))]] = sR (vs ++ idxL (opL m.sig j) (k + 1)) := by rw [dec0, <- opL_at ho hd]; exact sR_step
   generalize vs ++ idxL (opL m.sig j) k = us at l1 l2 l3 hst ⊢
   (have F := ai @q4 (ai @ho (ai @encOpr_u (ai @hro (ai @hrd @natInt)))); refine gG ?_; clear F)
   refine gB ?_
   (have F := ai @ho (ai @hd (ai @encOpr_u (ai @encDcl_u (ai @hro (ai @hrd @natInt))))); refine gC (cDd) ?_; clear F)
   (have F := ai @l1 (ai @l2 (ai @l3 @hst)); refine gR ?_; clear F)
   (have F := @hwk; refine gG ?_; exact ⟨k + 1, hlk, gw, gw, by omega⟩)
  obtain rfl : k = o.decls.length := by omega
  have q4 : ¬ ((o.decls.length : Int) < (o.decls.length : Int)) := by omega
  rw [<- hsC]
  (have F := ai @q4 (ai @ho (ai @encOpr_u (ai @hro (ai @hrd (ai @natInt @hw))))); refine gG ?_; exact ⟨j + 1, hlt, gw, gw, by omega⟩)
 obtain rfl : j = m.sig.ops.length := by omega
 have q3 : ¬ ((m.sig.ops.length : Int) < (m.sig.ops.length : Int)) := by omega
 have hcl := stC_len hg m.sig.ops.length (Nat.le_refl _)
 have hD : stD m = stC m.sig m.sig.ops.length ++ idxL (eqL m.sig ⟨#[101, 113, 32]⟩ m.eqs) m.eqs.length := rfl
 have hE : stE m = stD m ++ idxL (eqL m.sig ⟨#[114, 108, 32]⟩ m.rules) m.rules.length := rfl
 rw [hE]
 generalize stC m.sig m.sig.ops.length = vs at hcl hD ⊢
 (have F := @q3; refine gG ?_; clear F)
 (have F := ((sR_0 vs)); refine gL (ι := Nat) [3, 9, 117] [3] (fun i => [(9, A.d (.one (.lit (.int .i64 i)))), (3, .buf 3)]) (fun i => [(3, .buf none 9 1 (sR (vs ++ idxL (eqL m.sig ⟨#[101, 113, 32]⟩ m.eqs) i)))]) (fun i => i <= m.eqs.length) (fun i => m.eqs.length - i) (0) (Nat.zero_le _) (fun i hi => ?_); clear F)
 by_cases hlt : i < m.eqs.length
 ·obtain ⟨e, he⟩ : ∃ e, m.eqs[i]? = some e := ⟨_, List.getElem?_eq_getElem hlt⟩
  have hem := List.mem_of_getElem? he
  have hbe := bulk_eq_mem hem
  have q4 : ((i : Int) < (m.eqs.length : Int)) = True := eq_true (by omega)
  have hw := wrap1 (k := i) (by omega)
  have cEe := cE e (hm.2.1 e hem) (by omega)
  rw [fmtEq_yes hg (hq1 e hem)] at cEe
  have hsz := eq_big hg (hq1 e hem)
  have z1 : ((ByteArray.mk #[101, 113, 32]).size + (fmtE m.sig e e.cs.length).size <= 9223372036854775807) = True := small_cat (by omega)
  have l1 := sR_rows (vs ++ idxL (eqL m.sig ⟨#[101, 113, 32]⟩ m.eqs) i)
  have l2 := sR_len (vs ++ idxL (eqL m.sig ⟨#[101, 113, 32]⟩ m.eqs) i)
  have l3 := lenB (vs ++ idxL (eqL m.sig ⟨#[101, 113, 32]⟩ m.eqs) i) (by rw [List.length_append, idx_len]; omega)
  have hst : sR (vs ++ idxL (eqL m.sig ⟨#[101, 113, 32]⟩ m.eqs) i) ++ [[.lit (.string (⟨#[101, 113, 32]⟩ ++ fmtE m.sig e e.cs.length))]] = sR (vs ++ idxL (eqL m.sig ⟨#[101, 113, 32]⟩ m.eqs) (i + 1)) := by rw [<- eqL_at he]; exact sR_step
  generalize vs ++ idxL (eqL m.sig ⟨#[101, 113, 32]⟩ m.eqs) i = us at l1 l2 l3 hst ⊢
  (have F := ai @q4 (ai @tmz (ai @eqz (ai @er @he))); refine gG ?_; clear F)
  refine gB ?_
  (have F := ai @tmz (ai @eqz (ai @er (ai @he @natInt))); refine gC (cEe) ?_; clear F)
  (have F := ai @z1 (ai @l1 (ai @l2 (ai @l3 @hst))); refine gR ?_; clear F)
  (have F := @hw; refine gG ?_; exact ⟨i + 1, hlt, gw, gw, by omega⟩)
 obtain rfl : i = m.eqs.length := by omega
 have q4 : ¬ ((m.eqs.length : Int) < (m.eqs.length : Int)) := by omega
 rw [<- hD]
 have hDl : (stD m).length <= 96 := by rw [hD, List.length_append, idx_len]; omega
 generalize stD m = ws at hDl hE ⊢
 clear hD
 (have F := ai @q4 @er; refine gG ?_; clear F)
 (have F := ((sR_0 ws)); refine gL (ι := Nat) [3, 10, 135] [3] (fun i => [(10, A.d (.one (.lit (.int .i64 i)))), (3, .buf 3)]) (fun i => [(3, .buf none 9 1 (sR (ws ++ idxL (eqL m.sig ⟨#[114, 108, 32]⟩ m.rules) i)))]) (fun i => i <= m.rules.length) (fun i => m.rules.length - i) (0) (Nat.zero_le _) (fun i hi => ?_); clear F)
 by_cases hlt : i < m.rules.length
 ·obtain ⟨e, he⟩ : ∃ e, m.rules[i]? = some e := ⟨_, List.getElem?_eq_getElem hlt⟩
  have hem := List.mem_of_getElem? he
  have hbe := bulk_eq_mem hem
  have q5 : ((i : Int) < (m.rules.length : Int)) = True := eq_true (by omega)
  have hw := wrap1 (k := i) (by omega)
  have cEe := cE e (hm.2.2 e hem) (by omega)
  rw [fmtEq_yes hg (hq2 e hem)] at cEe
  have hsz := eq_big hg (hq2 e hem)
  have z1 : ((ByteArray.mk #[114, 108, 32]).size + (fmtE m.sig e e.cs.length).size <= 9223372036854775807) = True := small_cat (by omega)
  have l1 := sR_rows (ws ++ idxL (eqL m.sig ⟨#[114, 108, 32]⟩ m.rules) i)
  have l2 := sR_len (ws ++ idxL (eqL m.sig ⟨#[114, 108, 32]⟩ m.rules) i)
  have l3 := lenB (ws ++ idxL (eqL m.sig ⟨#[114, 108, 32]⟩ m.rules) i) (by rw [List.length_append, idx_len]; omega)
  have hst : sR (ws ++ idxL (eqL m.sig ⟨#[114, 108, 32]⟩ m.rules) i) ++ [[.lit (.string (⟨#[114, 108, 32]⟩ ++ fmtE m.sig e e.cs.length))]] = sR (ws ++ idxL (eqL m.sig ⟨#[114, 108, 32]⟩ m.rules) (i + 1)) := by rw [<- eqL_at he]; exact sR_step
  generalize ws ++ idxL (eqL m.sig ⟨#[114, 108, 32]⟩ m.rules) i = us at l1 l2 l3 hst ⊢
  (have F := ai @q5 (ai @tmz (ai @eqz (ai @er @he))); refine gG ?_; clear F)
  refine gB ?_
  (have F := ai @tmz (ai @eqz (ai @er (ai @he @natInt))); refine gC (cEe) ?_; clear F)
  (have F := ai @z1 (ai @l1 (ai @l2 (ai @l3 @hst))); refine gR ?_; clear F)
  (have F := @hw; refine gG ?_; exact ⟨i + 1, hlt, gw, gw, by omega⟩)
 obtain rfl : i = m.rules.length := by omega
 have q5 : ¬ ((m.rules.length : Int) < (m.rules.length : Int)) := by omega
 (have F := ai @q5 @er; refine gG ?_; clear F)
 (have F := @tmz; refine gG ?_; exact gTz [2])
set_option maxHeartbeats 16000000 in
set_option maxRecDepth 100000 in
theorem conP_implFmtM (hm : okMdl m) (hb : bulkRow (encMdl m) <= 1048576) : ConP e0 26 [.agg (encMdl m)] [] (RTreeS (sR (fmtM m))) := by
 have hok := hm.1
 have ed : encMdl m = [.sl (m.sig.sorts.names.map encStr), .sl (m.sig.sorts.subs.map encSub), .sl (m.sig.ops.map encOpr), .sl (m.eqs.map encEqn), .sl (m.rules.map encEqn)] := rfl
 have er := eqn_rows
 by_cases hg : SgnOk m.sig
 rotate_left
 ·have h1 : isMdl m = false := by simp [isMdl, isSgn_false hg]
  have e : fmtM m = [] := by rw [fmtM, h1]; rfl
  have c := con_newAlg_not hok hg
  rw [encSgn] at c
  rw [ed, e, show sR [] = [] from rfl]
  refine gIP (ts := [.slot 2]) [] 85637474941569388656613430213615774932012823935 Tryz.func26 ?_
  (have F := @tmz; refine gG ?_; clear F)
  refine gB ?_
  (have F := @tmz; refine gC (c) ?_; clear F)
  (have F := @tmz; refine gR ?_; clear F)
  (have F := @tmz; refine gG ?_; clear F)
  refine pS 2 (fun a cap => ?_)
  obtain ⟨E9, hre⟩ := re_litRows (a := a) (cap := cap) (ety := 9) (sz := 1) (rows := []) (us := []) rfl
  refine pE [2] [2] hre ?_
  exact (have F := hg; gTP (R := RTreeS []) [2] ⟨_, E9, rfl, rfl, rfl⟩)
 have hs := isSgn_true hg
 have hmd : isMdl m = hasEq m := by rw [isMdl, hs, Bool.true_and]
 have c := conE_newAlg hok hg
 have cH := fun mc => con_hasEq (mc := mc) hg hm hb
 rw [encSgn] at c
 rw [ed] at cH ⊢
 refine gIP (ts := [.slot 2]) [] 85637474941569388656613430213615774932012823935 Tryz.func26 ?_
 (have F := @tmz; refine gG ?_; clear F)
 refine gB ?_
 (have F := @tmz; refine gCE (c) ?_; clear F)
 rintro r ⟨b, rfl⟩
 have c1 := cH (.lit (.map (some b)))
 have cE := fun (e : Eqn) (he : eqnB m.sig e = true) => con_fmtEq (mc := .lit (.map (some b))) hg he
 clear cH
 generalize C.lit (.map (some b)) = mc at c1 cE ⊢
 (have F := ai @retA_u @sa_some; refine gR ?_; clear F)
 (have F := @tmz; refine gG ?_; clear F)
 refine gB ?_
 (have F := @tmz; refine gC (c1) ?_; clear F)
 cases h1 : hasEq m with
 | false =>
  have e : fmtM m = [] := by rw [fmtM, hmd, h1]; rfl
  rw [e, show sR [] = [] from rfl]
  (have F := @tmz; refine gR ?_; clear F)
  (have F := @tmz; refine gG ?_; clear F)
  refine pS 2 (fun a cap => ?_)
  obtain ⟨E9, hre⟩ := re_litRows (a := a) (cap := cap) (ety := 9) (sz := 1) (rows := []) (us := []) rfl
  refine pE [2] [2] hre ?_
  exact (have F := hg; gTP (R := RTreeS []) [2] ⟨_, E9, rfl, rfl, rfl⟩)
 | true =>
 rw [h1] at hmd
 obtain ⟨_, h16, h16', hq1, hq2⟩ := fm_ok hmd
 have e : fmtM m = stE m := by rw [fmtM, if_pos hmd]
 rw [e]
 clear e
 have n8 := hg.sorts.n8
 have m16 := hg.sorts.m16
 have hsub := hg.sorts.subs
 have hln := hg.len
 have cA := fun (o : Opr) (ho : o ∈ m.sig.ops) => con_axW hg ho
 rw [encSgn] at cA
 have hrs := rb_str m.sig.sorts.names
 have hru := rb_sub m.sig.sorts.subs
 have hro := rb_opr m.sig.ops
 have ks : (ByteArray.mk #[115, 111, 114, 116, 32]).size = 5 := rfl
 have ku : (ByteArray.mk #[115, 117, 98, 32]).size = 4 := rfl
 have k1 : (ByteArray.mk #[32]).size = 1 := rfl
 have ke : (ByteArray.mk #[101, 113, 32]).size = 3 := rfl
 have kr : (ByteArray.mk #[114, 108, 32]).size = 3 := rfl
 have ko : (ByteArray.mk #[111, 112, 32]).size = 3 := rfl
 have kc : (ByteArray.mk #[32, 58]).size = 2 := rfl
 have ka : (ByteArray.mk #[32, 45, 62, 32]).size = 4 := rfl
 (have F := @tmz; refine gR ?_; clear F)
 (have F := ai @tmz @er; refine gG ?_; clear F)
 (have F := @sR_n0; refine gL (ι := Nat) [5, 8, 43, 44] [5] (fun i => [(43, A.d (.one (.lit (.int .i64 i)))), (5, .buf 5)]) (fun i => [(5, .buf none 9 1 (sR (idxL (srtL m.sig) i)))]) (fun i => i <= m.sig.sorts.names.length) (fun i => m.sig.sorts.names.length - i) (0) (Nat.zero_le _) (fun i hi => ?_); clear F)
 by_cases hlt : i < m.sig.sorts.names.length
 ·have q1 : ((i : Int) < (m.sig.sorts.names.length : Int)) = True := eq_true (by omega)
  have hw := wrap1 (k := i) (by omega)
  have hn := nm_nat hlt
  have hs := srt12 hg (i : Int)
  have z1 : ((ByteArray.mk #[115, 111, 114, 116, 32]).size + (srtNm m.sig i).size <= 9223372036854775807) = True := small_cat (by omega)
  have l1 := sR_rows (idxL (srtL m.sig) i)
  have l2 := sR_len (idxL (srtL m.sig) i)
  have l3 := lenB (idxL (srtL m.sig) i) (by rw [idx_len]; omega)
  have hst : sR (idxL (srtL m.sig) i) ++ [[.lit (.string (⟨#[115, 111, 114, 116, 32]⟩ ++ srtNm m.sig i))]] = sR (idxL (srtL m.sig) (i + 1)) := sR_s0 (srtL m.sig) i
  (have F := ai @q1 (ai @hn (ai @natInt (ai @encStr_u (ai @hrs (ai @z1 (ai @l1 (ai @l2 (ai @l3 (ai @hst @hw))))))))); refine gG ?_; exact ⟨i + 1, hlt, gw, gw, by omega⟩)
 obtain rfl : i = m.sig.sorts.names.length := by omega
 have q1 : ¬ ((m.sig.sorts.names.length : Int) < (m.sig.sorts.names.length : Int)) := by omega
 rw [show idxL (srtL m.sig) m.sig.sorts.names.length = stA m.sig from rfl]
 (have F := @q1; refine gG ?_; clear F)
 (have F := ((sR_0 (stA m.sig))); refine gL (ι := Nat) [5, 10, 58, 59] [5] (fun i => [(58, A.d (.one (.lit (.int .i64 i)))), (5, .buf 5)]) (fun i => [(5, .buf none 9 1 (sR (stA m.sig ++ idxL (subL m.sig) i)))]) (fun i => i <= m.sig.sorts.subs.length) (fun i => m.sig.sorts.subs.length - i) (0) (Nat.zero_le _) (fun i hi => ?_); clear F)
 by_cases hlt : i < m.sig.sorts.subs.length
 ·obtain ⟨p, hp⟩ : ∃ p, m.sig.sorts.subs[i]? = some p := ⟨_, List.getElem?_eq_getElem hlt⟩
  obtain ⟨p0, p1, p2, p3, _⟩ := hsub p (List.mem_of_getElem? hp)
  have q2 : ((i : Int) < (m.sig.sorts.subs.length : Int)) = True := eq_true (by omega)
  have hw := wrap1 (k := i) (by omega)
  have hn1 := nm_at (g := m.sig) p0 p1
  have hn2 := nm_at (g := m.sig) p2 p3
  have hs1 := srt12 hg p.1
  have hs2 := srt12 hg p.2
  have z1 : ((ByteArray.mk #[115, 117, 98, 32]).size + (srtNm m.sig p.1).size <= 9223372036854775807) = True := small_cat (by omega)
  have z2 : ((ByteArray.mk #[115, 117, 98, 32] ++ srtNm m.sig p.1).size + (ByteArray.mk #[32]).size <= 9223372036854775807) = True := small_cat (by rw [ByteArray.size_append]; omega)
  have z3 : ((ByteArray.mk #[115, 117, 98, 32] ++ srtNm m.sig p.1 ++ ⟨#[32]⟩).size + (srtNm m.sig p.2).size <= 9223372036854775807) = True := small_cat (by simp only [ByteArray.size_append]; omega)
  have l1 := sR_rows (stA m.sig ++ idxL (subL m.sig) i)
  have l2 := sR_len (stA m.sig ++ idxL (subL m.sig) i)
  have l3 := lenB (stA m.sig ++ idxL (subL m.sig) i) (by rw [List.length_append, stA_len, idx_len]; omega)
  have hst : sR (stA m.sig ++ idxL (subL m.sig) i) ++ [[.lit (.string (⟨#[115, 117, 98, 32]⟩ ++ srtNm m.sig p.1 ++ ⟨#[32]⟩ ++ srtNm m.sig p.2))]] = sR (stA m.sig ++ idxL (subL m.sig) (i + 1)) := by rw [<- subL_at hp]; exact sR_step
  generalize stA m.sig ++ idxL (subL m.sig) i = us at l1 l2 l3 hst ⊢
  (have F := ai @q2 (ai @hp (ai @encSub_u (ai @p0 (ai @p2 (ai @hn1 (ai @hn2 (ai @natInt (ai @encStr_u (ai @hrs (ai @hru (ai @z1 (ai @z2 (ai @z3 (ai @l1 (ai @l2 (ai @l3 (ai @hst @hw))))))))))))))))); refine gG ?_; exact ⟨i + 1, hlt, gw, gw, by omega⟩)
 obtain rfl : i = m.sig.sorts.subs.length := by omega
 have q2 : ¬ ((m.sig.sorts.subs.length : Int) < (m.sig.sorts.subs.length : Int)) := by omega
 rw [show stA m.sig ++ idxL (subL m.sig) m.sig.sorts.subs.length = stB m.sig from rfl]
 (have F := @q2; refine gG ?_; clear F)
 (have F := ((stC_0 (g := m.sig))); refine gL (ι := Nat) [5, 12, 13, 14, 15, 17, 83, 84, 88, 89, 90, 91, 100, 101, 102, 103, 123] [5] (fun j => [(83, A.d (.one (.lit (.int .i64 j)))), (5, .buf 5)]) (fun j => [(5, .buf none 9 1 (sR (stC m.sig j)))]) (fun j => j <= m.sig.ops.length) (fun j => m.sig.ops.length - j) (0) (Nat.zero_le _) (fun j hj => ?_); clear F)
 by_cases hlt : j < m.sig.ops.length
 ·obtain ⟨o, ho⟩ : ∃ o, m.sig.ops[j]? = some o := ⟨_, List.getElem?_eq_getElem hlt⟩
  have hom := List.mem_of_getElem? ho
  have hd4 := (hg.decls o hom).len4
  have hon := name12 (hg.names j o ho).1
  have q3 : ((j : Int) < (m.sig.ops.length : Int)) = True := eq_true (by omega)
  have hw := wrap1 (k := j) (by omega)
  have hcl := stC_len hg j (by omega)
  have hrd := rb_dcl o.decls
  have hsC := stC_s (g := m.sig) j
  have cAo := cA o hom
  have hax := axW_size hg o
  rw [nDec_at ho] at hsC
  rw [encOpr] at cAo
  generalize stC m.sig j = vs at hcl hsC ⊢
  have y1 : ((ByteArray.mk #[111, 112, 32]).size + o.name.size <= 9223372036854775807) = True := small_cat (by omega)
  have y2 : ((ByteArray.mk #[111, 112, 32] ++ o.name).size + (ByteArray.mk #[32, 58]).size <= 9223372036854775807) = True := small_cat (by rw [ByteArray.size_append]; omega)
  (have F := ai @q3 (ai @ho (ai @encOpr_u (ai @hro (ai @hrd @natInt)))); refine gG ?_; clear F)
  (have F := ((sR_0 vs)); refine gL (ι := Nat) [5, 13, 14, 15, 17, 90, 91, 100, 101, 102, 103, 123] [5] (fun k => [(90, A.d (.one (.lit (.int .i64 k)))), (5, .buf 5)]) (fun k => [(5, .buf none 9 1 (sR (vs ++ idxL (opL m.sig j) k)))]) (fun k => k <= o.decls.length) (fun k => o.decls.length - k) (0) (Nat.zero_le _) (fun k hk => ?_); clear F)
  by_cases hlk : k < o.decls.length
  ·obtain ⟨d, hd⟩ : ∃ d, o.decls[k]? = some d := ⟨_, List.getElem?_eq_getElem hlk⟩
   obtain ⟨hn3, hargs, hlo, hhi⟩ := decIn hg hom (List.mem_of_getElem? hd)
   have q4 : ((k : Int) < (o.decls.length : Int)) = True := eq_true (by omega)
   have hwk := wrap1 (k := k) (by omega)
   have l1 := sR_rows (vs ++ idxL (opL m.sig j) k)
   have l2 := sR_len (vs ++ idxL (opL m.sig j) k)
   have l3 := lenB (vs ++ idxL (opL m.sig j) k) (by rw [List.length_append, idx_len]; omega)
   have hst : sR (vs ++ idxL (opL m.sig j) k) ++ [[.lit (.string (dclL m.sig o d (decide ((k : Int) = 0))))]] = sR (vs ++ idxL (opL m.sig j) (k + 1)) := by rw [dec0, <- opL_at ho hd]; exact sR_step
   generalize vs ++ idxL (opL m.sig j) k = us at l1 l2 l3 hst ⊢
   have hsz := argL_size hg (⟨#[111, 112, 32]⟩ ++ o.name ++ ⟨#[32, 58]⟩) d.args
   have hbs : ((ByteArray.mk #[111, 112, 32] ++ o.name ++ ⟨#[32, 58]⟩ : ByteArray)).size <= 17 := by simp only [ByteArray.size_append]; omega
   have hhd : headL m.sig o d = argL m.sig (⟨#[111, 112, 32]⟩ ++ o.name ++ ⟨#[32, 58]⟩) d.args d.args.length ++ ⟨#[32, 45, 62, 32]⟩ ++ srtNm m.sig d.res := rfl
   have hL := headL_size (d := d) hg hon hn3
   (have F := ai @q4 (ai @hd (ai @encDcl_u (ai @hrd (ai @y1 @y2)))); refine gG ?_; clear F)
   generalize (ByteArray.mk #[111, 112, 32] ++ o.name ++ ⟨#[32, 58]⟩ : ByteArray) = B at hsz hbs hhd ⊢
   have ha0 : argL m.sig B d.args 0 = B := rfl
   (have F := @ha0; refine gL (ι := Nat) [15, 17, 102, 103] [] (fun i => [(102, A.d (.one (.lit (.int .i64 i)))), (15, .d (.one (.lit (.string (argL m.sig B d.args i)))))]) (fun i => []) (fun i => i <= d.args.length) (fun i => d.args.length - i) (0) (Nat.zero_le _) (fun i hi => ?_); clear F)
   have hsi := hsz i
   by_cases hli : i < d.args.length
   ·obtain ⟨x, hx⟩ : ∃ x, d.args[i]? = some x := ⟨_, List.getElem?_eq_getElem hli⟩
    obtain ⟨hk0, hk1⟩ := hargs x (List.mem_of_getElem? hx)
    have hkn := nm_at hk0 hk1
    have q5 : ((i : Int) < (d.args.length : Int)) = True := eq_true (by omega)
    have hwi := wrap1 (k := i) (by omega)
    have hst := arg_step (g := m.sig) (b := B) hx
    have hs := srt12 hg x
    have z1 : ((argL m.sig B d.args i).size + (ByteArray.mk #[32]).size <= 9223372036854775807) = True := small_cat (by omega)
    have z2 : ((argL m.sig B d.args i ++ ⟨#[32]⟩).size + (srtNm m.sig x).size <= 9223372036854775807) = True := small_cat (by rw [ByteArray.size_append]; omega)
    (have F := ai @q5 (ai @hx (ai @encInt_u (ai @hk0 (ai @hkn (ai @encStr_u (ai @hrs (ai @z1 (ai @z2 (ai @hst @hwi))))))))); refine gG ?_; exact ⟨i + 1, hli, gw, gw, by omega⟩)
   obtain rfl : i = d.args.length := by omega
   have q5 : ¬ ((d.args.length : Int) < (d.args.length : Int)) := by omega
   have hrn := nm_at hlo hhi
   have hs := srt12 hg d.res
   have z1 : ((argL m.sig B d.args d.args.length).size + (ByteArray.mk #[32, 45, 62, 32]).size <= 9223372036854775807) = True := small_cat (by omega)
   have z2 : ((argL m.sig B d.args d.args.length ++ ⟨#[32, 45, 62, 32]⟩).size + (srtNm m.sig d.res).size <= 9223372036854775807) = True := small_cat (by rw [ByteArray.size_append]; omega)
   by_cases hk0 : k = 0
   ·have z3 : ((k : Int) = 0) = True := eq_true (by omega)
    have e1 : dclL m.sig o d (decide ((k : Int) = 0)) = headL m.sig o d ++ axW m.sig o := by rw [dec0, decide_eq_true hk0]; rfl
    rw [e1] at hst
    (have F := ai @q5 (ai @hlo (ai @hrn (ai @encStr_u (ai @encDcl_u (ai @hrs (ai @z1 (ai @z2 @z3))))))); refine gG ?_; clear F)
    rw [<- hhd]
    have z4 : ((headL m.sig o d).size + (axW m.sig o).size <= 9223372036854775807) = True := small_cat (by omega)
    refine gB ?_
    (have F := @encOpr_u; refine gC (cAo) ?_; clear F)
    (have F := @z4; refine gR ?_; clear F)
    (have F := ai @l1 (ai @l2 (ai @l3 (ai @hst @hwk))); refine gG ?_; exact ⟨k + 1, hlk, gw, gw, by omega⟩)
   ·have z3 : ((k : Int) = 0) = False := eq_false (by omega)
    have e1 : dclL m.sig o d (decide ((k : Int) = 0)) = headL m.sig o d := by rw [dec0, decide_eq_false hk0]; rfl
    rw [e1, hhd] at hst
    (have F := ai @q5 (ai @hlo (ai @hrn (ai @encStr_u (ai @encDcl_u (ai @hrs (ai @z1 (ai @z2 (ai @z3 (ai @l1 (ai @l2 (ai @l3 (ai @hst @hwk)))))))))))); refine gG ?_; exact ⟨k + 1, hlk, gw, gw, by omega⟩)
  obtain rfl : k = o.decls.length := by omega
  have q4 : ¬ ((o.decls.length : Int) < (o.decls.length : Int)) := by omega
  rw [<- hsC]
  (have F := ai @q4 @hw; refine gG ?_; exact ⟨j + 1, hlt, gw, gw, by omega⟩)
 obtain rfl : j = m.sig.ops.length := by omega
 have q3 : ¬ ((m.sig.ops.length : Int) < (m.sig.ops.length : Int)) := by omega
 have hcl := stC_len hg m.sig.ops.length (Nat.le_refl _)
 have hD : stD m = stC m.sig m.sig.ops.length ++ idxL (eqL m.sig ⟨#[101, 113, 32]⟩ m.eqs) m.eqs.length := rfl
 have hE : stE m = stD m ++ idxL (eqL m.sig ⟨#[114, 108, 32]⟩ m.rules) m.rules.length := rfl
 rw [hE]
 generalize stC m.sig m.sig.ops.length = vs at hcl hD ⊢
 (have F := ai @q3 @er; refine gG ?_; clear F)
 (have F := ((sR_0 vs)); refine gL (ι := Nat) [5, 19, 139, 140] [5] (fun i => [(139, A.d (.one (.lit (.int .i64 i)))), (5, .buf 5)]) (fun i => [(5, .buf none 9 1 (sR (vs ++ idxL (eqL m.sig ⟨#[101, 113, 32]⟩ m.eqs) i)))]) (fun i => i <= m.eqs.length) (fun i => m.eqs.length - i) (0) (Nat.zero_le _) (fun i hi => ?_); clear F)
 by_cases hlt : i < m.eqs.length
 ·obtain ⟨e, he⟩ : ∃ e, m.eqs[i]? = some e := ⟨_, List.getElem?_eq_getElem hlt⟩
  have hem := List.mem_of_getElem? he
  have q4 : ((i : Int) < (m.eqs.length : Int)) = True := eq_true (by omega)
  have hw := wrap1 (k := i) (by omega)
  have cEe := cE e (hq1 e hem)
  have hsz := eq_big hg (hq1 e hem)
  have z1 : ((ByteArray.mk #[101, 113, 32]).size + (fmtE m.sig e e.cs.length).size <= 9223372036854775807) = True := small_cat (by omega)
  have l1 := sR_rows (vs ++ idxL (eqL m.sig ⟨#[101, 113, 32]⟩ m.eqs) i)
  have l2 := sR_len (vs ++ idxL (eqL m.sig ⟨#[101, 113, 32]⟩ m.eqs) i)
  have l3 := lenB (vs ++ idxL (eqL m.sig ⟨#[101, 113, 32]⟩ m.eqs) i) (by rw [List.length_append, idx_len]; omega)
  have hst : sR (vs ++ idxL (eqL m.sig ⟨#[101, 113, 32]⟩ m.eqs) i) ++ [[.lit (.string (⟨#[101, 113, 32]⟩ ++ fmtE m.sig e e.cs.length))]] = sR (vs ++ idxL (eqL m.sig ⟨#[101, 113, 32]⟩ m.eqs) (i + 1)) := by rw [<- eqL_at he]; exact sR_step
  generalize vs ++ idxL (eqL m.sig ⟨#[101, 113, 32]⟩ m.eqs) i = us at l1 l2 l3 hst ⊢
  (have F := ai @q4 (ai @tmz (ai @eqz (ai @er @he))); refine gG ?_; clear F)
  refine gB ?_
  (have F := ai @tmz (ai @eqz (ai @er (ai @he @natInt))); refine gC (cEe) ?_; clear F)
  (have F := ai @z1 (ai @l1 (ai @l2 (ai @l3 @hst))); refine gR ?_; clear F)
  (have F := @hw; refine gG ?_; exact ⟨i + 1, hlt, gw, gw, by omega⟩)
 obtain rfl : i = m.eqs.length := by omega
 have q4 : ¬ ((m.eqs.length : Int) < (m.eqs.length : Int)) := by omega
 rw [<- hD]
 have hDl : (stD m).length <= 96 := by rw [hD, List.length_append, idx_len]; omega
 generalize stD m = ws at hDl hE ⊢
 clear hD
 (have F := ai @q4 @er; refine gG ?_; clear F)
 (have F := ((sR_0 ws)); refine gL (ι := Nat) [5, 21, 154, 155] [5] (fun i => [(154, A.d (.one (.lit (.int .i64 i)))), (5, .buf 5)]) (fun i => [(5, .buf none 9 1 (sR (ws ++ idxL (eqL m.sig ⟨#[114, 108, 32]⟩ m.rules) i)))]) (fun i => i <= m.rules.length) (fun i => m.rules.length - i) (0) (Nat.zero_le _) (fun i hi => ?_); clear F)
 by_cases hlt : i < m.rules.length
 ·obtain ⟨e, he⟩ : ∃ e, m.rules[i]? = some e := ⟨_, List.getElem?_eq_getElem hlt⟩
  have hem := List.mem_of_getElem? he
  have q5 : ((i : Int) < (m.rules.length : Int)) = True := eq_true (by omega)
  have hw := wrap1 (k := i) (by omega)
  have cEe := cE e (hq2 e hem)
  have hsz := eq_big hg (hq2 e hem)
  have z1 : ((ByteArray.mk #[114, 108, 32]).size + (fmtE m.sig e e.cs.length).size <= 9223372036854775807) = True := small_cat (by omega)
  have l1 := sR_rows (ws ++ idxL (eqL m.sig ⟨#[114, 108, 32]⟩ m.rules) i)
  have l2 := sR_len (ws ++ idxL (eqL m.sig ⟨#[114, 108, 32]⟩ m.rules) i)
  have l3 := lenB (ws ++ idxL (eqL m.sig ⟨#[114, 108, 32]⟩ m.rules) i) (by rw [List.length_append, idx_len]; omega)
  have hst : sR (ws ++ idxL (eqL m.sig ⟨#[114, 108, 32]⟩ m.rules) i) ++ [[.lit (.string (⟨#[114, 108, 32]⟩ ++ fmtE m.sig e e.cs.length))]] = sR (ws ++ idxL (eqL m.sig ⟨#[114, 108, 32]⟩ m.rules) (i + 1)) := by rw [<- eqL_at he]; exact sR_step
  generalize ws ++ idxL (eqL m.sig ⟨#[114, 108, 32]⟩ m.rules) i = us at l1 l2 l3 hst ⊢
  (have F := ai @q5 (ai @tmz (ai @eqz (ai @er @he))); refine gG ?_; clear F)
  refine gB ?_
  (have F := ai @tmz (ai @eqz (ai @er (ai @he @natInt))); refine gC (cEe) ?_; clear F)
  (have F := ai @z1 (ai @l1 (ai @l2 (ai @l3 @hst))); refine gR ?_; clear F)
  (have F := @hw; refine gG ?_; exact ⟨i + 1, hlt, gw, gw, by omega⟩)
 obtain rfl : i = m.rules.length := by omega
 have q5 : ¬ ((m.rules.length : Int) < (m.rules.length : Int)) := by omega
 (have F := @q5; refine gG ?_; clear F)
 generalize ws ++ idxL (eqL m.sig ⟨#[114, 108, 32]⟩ m.rules) m.rules.length = us
 refine pS 2 (fun a cap => ?_)
 obtain ⟨E9, hre⟩ := re_litRows (a := a) (cap := cap) (ety := 9) (sz := 1) (sR_lits us)
 refine pE [2] [2] hre ?_
 exact (have F := hg; gTP (R := RTreeS (sR us)) [2] ⟨_, E9, rfl, rfl, rfl⟩)
end
end Go.Proofs.YtohilkmdjdfljaaGreat
namespace Go.Proofs.YtohilkmdjdfljaaGreat
open Go.RowKit
set_option maxHeartbeats 40000000 in
set_option maxRecDepth 100000 in
theorem con_lawFormatModule {row0 : List C} (hok0 : okRow (moduleF) row0) {wr : List (List C)} (hokw : okRows (fieldsOf .str) wr) (hBw0 : bulkRow row0 <= 1048576 -> wr.length + bulkRows wr <= 1048576) (hsp0 : bulkRow row0 <= 1048576 -> Con e0 24 [.agg row0] [.one (.sl wr)]) (him0 : bulkRow row0 <= 1048576 -> ConP e0 26 [.agg row0] [] (RTreeS wr)) : Con e0 5 [.agg row0] [.one (.lit (.bool true))] := by
 have okc0 := hok0.cells
 obtain ⟨len0, tk0, dr0⟩ := hok0.take (n := 5) rfl
 refine gI 333204452330801498111 Tryz.func5 ?_
 (have F := ai @okc0 (ai @len0 (ai @tk0 (ai @dr0 @drop0))); refine gG ?_; clear F)
 have hL0_0 : (0 : Int) <= 1048576 := by omega
 have hL0_1 : (1048576 : Int) <= 1048576 := by omega
 refine gB ?_
 (have F := ai @okc0 (ai @len0 (ai @tk0 (ai @dr0 @drop0))); refine gC (con_szModule hok0 hL0_0 hL0_1) ?_; clear F)
 (have F := ai @okc0 (ai @len0 (ai @tk0 (ai @dr0 @drop0))); refine gR ?_; clear F)
 by_cases hb0 : ((bulkRow row0 : Nat) : Int) <= 1048576
 rotate_left
 ·have n1 : sub 1048576 (bulkRow row0 : Nat) = -1 := sub_neg (by omega)
  have n2 : (-1 : Int) < 0 := by omega
  (have F := ai @n1 @n2; refine gG ?_; exact gT)
 have nq : sub 1048576 (bulkRow row0 : Nat) = 1048576 - ((bulkRow row0 : Nat) : Nat) := sub_pos (by omega)
 rw [nq]
 clear nq
 have hB0 : bulkRow row0 <= 1048576 := by omega
 have hL1_0 : (0 : Int) <= 1048576 - ((bulkRow row0 : Nat) : Nat) := by omega
 have hL1_1 : (1048576 : Int) - ((bulkRow row0 : Nat) : Nat) <= 1048576 := by omega
 generalize hgl0 : (1048576 : Int) - ((bulkRow row0 : Nat) : Nat) = L1 at *
 have n2 : ¬ (L1 < 0) := by omega
 (have F := ai @n2 (ai @okc0 (ai @len0 (ai @tk0 (ai @dr0 @drop0)))); refine gG ?_; clear F)
 clear n2 hb0
 have hsp := hsp0 hB0
 have him := him0 hB0
 have hBw := hBw0 hB0
 have hcw : cntRows wr <= 16 * (wr.length + bulkRows wr) := cnt_okRows _ _ (fields_le _) hokw
 have cE := con_eqStringS hokw
 have cT0 := con_toModule hok0 hB0
 have cP0 := conP_toModule hok0 hB0
 have cQ0 := con_eqModule hok0
 have hc0 : cntTop row0 <= 16 * bulkRow row0 := cntTop_ok _ _ hok0
 refine gB ?_
 (have F := ai @okc0 (ai @len0 (ai @tk0 (ai @dr0 @drop0))); refine gC (cT0) ?_; clear F)
 (have F := ai @okc0 (ai @len0 (ai @tk0 (ai @dr0 @drop0))); refine gC (hsp) ?_; clear F)
 (have F := ai @okc0 (ai @len0 (ai @tk0 (ai @dr0 @drop0))); refine gR ?_; clear F)
 (have F := ai @okc0 (ai @len0 (ai @tk0 (ai @dr0 @drop0))); refine gG ?_; clear F)
 refine gB ?_
 (have F := ai @okc0 (ai @len0 (ai @tk0 (ai @dr0 @drop0))); refine gCP [] [1000] (cP0) ?_; clear F)
 rintro r pm ⟨us0, E0, rfl, hu0, cu0, rfl⟩
 rw [len0] at hu0
 obtain ⟨lu0, tu0, du0⟩ := lits_len hu0
 simp only [setA, retA, zipM, List.cons_append, List.nil_append]
 (have F := ai @okc0 (ai @len0 (ai @tk0 (ai @dr0 (ai @drop0 (ai @lu0 (ai @tu0 (ai @du0 @cu0))))))); refine gR ?_; clear F)
 (have F := ai @okc0 (ai @len0 (ai @tk0 (ai @dr0 (ai @drop0 (ai @lu0 (ai @tu0 (ai @du0 @cu0))))))); refine gG ?_; clear F)
 refine gB ?_
 (have F := ai @okc0 (ai @len0 (ai @tk0 (ai @dr0 (ai @drop0 (ai @lu0 (ai @tu0 (ai @du0 @cu0))))))); refine gCP [1000] [1100, 1000] (conP_rd (lits := [.agg (litRow us0)]) [.set E0 (fun w => OwnVals w row0 E0 us0)] him ⟨.tree List.mem_cons_self, trivial⟩ rfl (fun _ _ h => RTreeS.lits h)) ?_; clear F)
 rintro r pm ⟨q1, ⟨vg, Eg, rfl, cug, rfl⟩, rfl⟩
 simp only [setA, retA, zipM, List.cons_append, List.nil_append]
 (have F := ai @okc0 (ai @len0 (ai @tk0 (ai @dr0 (ai @drop0 (ai @lu0 (ai @tu0 (ai @du0 (ai @cu0 @cug)))))))); refine gR ?_; clear F)
 (have F := ai @okc0 (ai @len0 (ai @tk0 (ai @dr0 (ai @drop0 (ai @lu0 (ai @tu0 (ai @du0 (ai @cu0 @cug)))))))); refine gG ?_; clear F)
 refine gB ?_
 (have F := ai @okc0 (ai @len0 (ai @tk0 (ai @dr0 (ai @drop0 (ai @lu0 (ai @tu0 (ai @du0 (ai @cu0 @cug)))))))); refine gCP [1100] [1100] (con_rd (lits := [.one (.lit vg), .one (.sl wr)]) [.set Eg (fun w => Own w (.sl wr) Eg vg)] cE ⟨.treeS List.mem_cons_self, .same, trivial⟩ rfl rfl) ?_; clear F)
 rintro r pm ⟨rfl, rfl⟩
 simp only [setA, retA, zipM, List.cons_append, List.nil_append]
 (have F := ai @okc0 (ai @len0 (ai @tk0 (ai @dr0 (ai @drop0 (ai @lu0 (ai @tu0 (ai @du0 (ai @cu0 (ai @cug @beq_self_eq_true.{0}))))))))); refine gR ?_; clear F)
 (have F := ai @okc0 (ai @len0 (ai @tk0 (ai @dr0 (ai @drop0 (ai @lu0 (ai @tu0 (ai @du0 (ai @cu0 (ai @cug @beq_self_eq_true.{0}))))))))); refine gG ?_; clear F)
 refine gB ?_
 (have F := ai @okc0 (ai @len0 (ai @tk0 (ai @dr0 (ai @drop0 (ai @lu0 (ai @tu0 (ai @du0 (ai @cu0 @cug)))))))); refine gC (cT0) ?_; clear F)
 (have F := ai @okc0 (ai @len0 (ai @tk0 (ai @dr0 (ai @drop0 (ai @lu0 (ai @tu0 (ai @du0 (ai @cu0 @cug)))))))); refine gCP [1000] [1000] (con_rd (lits := [.agg (litRow us0), .agg row0]) [.set E0 (fun w => OwnVals w row0 E0 us0)] cQ0 ⟨.tree List.mem_cons_self, .same, trivial⟩ rfl rfl) ?_; clear F)
 rintro r pm ⟨rfl, rfl⟩
 simp only [setA, retA, zipM, List.cons_append, List.nil_append]
 (have F := ai @okc0 (ai @len0 (ai @tk0 (ai @dr0 (ai @drop0 (ai @lu0 (ai @tu0 (ai @du0 (ai @cu0 @cug)))))))); refine gR ?_; clear F)
 (have F := ai @okc0 (ai @len0 (ai @tk0 (ai @dr0 (ai @drop0 (ai @lu0 (ai @tu0 (ai @du0 (ai @cu0 @cug)))))))); refine gG ?_; clear F)
 refine gB ?_
 (have F := ai @okc0 (ai @len0 (ai @tk0 (ai @dr0 (ai @drop0 (ai @lu0 (ai @tu0 (ai @du0 (ai @cu0 @cug)))))))); refine gCP [1000] [1000] (markModule_all hok0 (1) E0 us0 (by omega) cu0 (by omega) (by omega)) ?_; clear F)
 rintro r pm ⟨F0, rfl, rfl⟩
 simp only [setA, retA, zipM, List.cons_append, List.nil_append]
 (have F := ai @okc0 (ai @len0 (ai @tk0 (ai @dr0 (ai @drop0 (ai @lu0 (ai @tu0 (ai @du0 (ai @cu0 @cug)))))))); refine gR ?_; clear F)
 (have F := ai @okc0 (ai @len0 (ai @tk0 (ai @dr0 (ai @drop0 (ai @lu0 (ai @tu0 (ai @du0 (ai @cu0 @cug)))))))); refine gG ?_; clear F)
 have nk : (1 + (cntTop row0 : Int) < 0) = False := eq_false (by omega)
 refine gB ?_
 (have F := ai @okc0 (ai @len0 (ai @tk0 (ai @dr0 (ai @drop0 (ai @lu0 (ai @tu0 (ai @du0 (ai @cu0 (ai @cug @nk))))))))); refine gCP [1100] [1100] (con_rd (lits := [.one (.lit vg), .one (.sl wr)]) [.set Eg (fun w => Own w (.sl wr) Eg vg)] cE ⟨.treeS List.mem_cons_self, .same, trivial⟩ rfl rfl) ?_; clear F)
 rintro r pm ⟨rfl, rfl⟩
 simp only [setA, retA, zipM, List.cons_append, List.nil_append]
 (have F := ai @okc0 (ai @len0 (ai @tk0 (ai @dr0 (ai @drop0 (ai @lu0 (ai @tu0 (ai @du0 (ai @cu0 (ai @cug (ai @nk @beq_self_eq_true.{0})))))))))); refine gR ?_; clear F)
 (have F := ai @okc0 (ai @len0 (ai @tk0 (ai @dr0 (ai @drop0 (ai @lu0 (ai @tu0 (ai @du0 (ai @cu0 (ai @cug (ai @nk @beq_self_eq_true.{0})))))))))); refine gG ?_; clear F)
 refine gB ?_
 (have F := ai @okc0 (ai @len0 (ai @tk0 (ai @dr0 (ai @drop0 (ai @lu0 (ai @tu0 (ai @du0 (ai @cu0 (ai @cug @nk))))))))); refine gCP [1100] [1100] (markStringS_all hokw 1 Eg vg (by omega) (by omega)) ?_; clear F)
 rintro r pm ⟨Fg, rfl, rfl⟩
 simp only [setA, retA, zipM, List.cons_append, List.nil_append]
 (have F := ai @okc0 (ai @len0 (ai @tk0 (ai @dr0 (ai @drop0 (ai @lu0 (ai @tu0 (ai @du0 (ai @cu0 (ai @cug @nk))))))))); refine gR ?_; clear F)
 (have F := ai @okc0 (ai @len0 (ai @tk0 (ai @dr0 (ai @drop0 (ai @lu0 (ai @tu0 (ai @du0 (ai @cu0 (ai @cug @nk))))))))); refine gG ?_; clear F)
 have nm : (1 + (cntRows wr : Int) < 0) = False := eq_false (by omega)
 have cH := heldStringS_all hokw (by omega) 1 (by omega) (by omega)
 refine gB ?_
 (have F := ai @okc0 (ai @len0 (ai @tk0 (ai @dr0 (ai @drop0 (ai @lu0 (ai @tu0 (ai @du0 (ai @cu0 (ai @cug (ai @nk @nm)))))))))); refine gCP [1100] [1100] (con_rd (lits := [.one (.lit vg), .one (.lit (.int .i64 1))]) [.set Fg (fun w => Own w (.sl (mkRows 1 wr)) Fg vg)] cH ⟨.treeS List.mem_cons_self, .same, trivial⟩ rfl rfl) ?_; clear F)
 rintro r pm ⟨rfl, rfl⟩
 simp only [setA, retA, zipM, List.cons_append, List.nil_append]
 (have F := ai @okc0 (ai @len0 (ai @tk0 (ai @dr0 (ai @drop0 (ai @lu0 (ai @tu0 (ai @du0 (ai @cu0 (ai @cug (ai @nk @nm)))))))))); refine gR ?_; clear F)
 (have F := ai @okc0 (ai @len0 (ai @tk0 (ai @dr0 (ai @drop0 (ai @lu0 (ai @tu0 (ai @du0 (ai @cu0 (ai @cug (ai @nk (ai @nm @beq_self_eq_true.{0}))))))))))); refine gG ?_; clear F)
 refine gB ?_
 (have F := ai @okc0 (ai @len0 (ai @tk0 (ai @dr0 @drop0))); refine gC (cT0) ?_; clear F)
 (have F := ai @okc0 (ai @len0 (ai @tk0 (ai @dr0 (ai @drop0 (ai @lu0 (ai @tu0 (ai @du0 (ai @cu0 (ai @cug (ai @nk @nm)))))))))); refine gCP [] [1200] (him) ?_; clear F)
 rintro r pm ⟨vh, Eh, rfl, cuh, rfl⟩
 simp only [setA, retA, zipM, List.cons_append, List.nil_append]
 (have F := ai @okc0 (ai @len0 (ai @tk0 (ai @dr0 (ai @drop0 (ai @lu0 (ai @tu0 (ai @du0 (ai @cu0 (ai @cug (ai @nk (ai @nm @cuh))))))))))); refine gR ?_; clear F)
 (have F := ai @okc0 (ai @len0 (ai @tk0 (ai @dr0 (ai @drop0 (ai @lu0 (ai @tu0 (ai @du0 (ai @cu0 (ai @cug (ai @nk (ai @nm @cuh))))))))))); refine gG ?_; clear F)
 refine gB ?_
 (have F := ai @okc0 (ai @len0 (ai @tk0 (ai @dr0 (ai @drop0 (ai @lu0 (ai @tu0 (ai @du0 (ai @cu0 (ai @cug (ai @nk (ai @nm @cuh))))))))))); refine gCP [1200] [1200] (con_rd (lits := [.one (.lit vh), .one (.sl wr)]) [.set Eh (fun w => Own w (.sl wr) Eh vh)] cE ⟨.treeS List.mem_cons_self, .same, trivial⟩ rfl rfl) ?_; clear F)
 rintro r pm ⟨rfl, rfl⟩
 simp only [setA, retA, zipM, List.cons_append, List.nil_append]
 (have F := ai @okc0 (ai @len0 (ai @tk0 (ai @dr0 (ai @drop0 (ai @lu0 (ai @tu0 (ai @du0 (ai @cu0 (ai @cug (ai @nk (ai @nm (ai @cuh @beq_self_eq_true.{0})))))))))))); refine gR ?_; clear F)
 (have F := ai @okc0 (ai @len0 (ai @tk0 (ai @dr0 (ai @drop0 (ai @lu0 (ai @tu0 (ai @du0 (ai @cu0 (ai @cug (ai @nk (ai @nm (ai @cuh @beq_self_eq_true.{0})))))))))))); refine gG ?_; clear F)
 refine gB ?_
 (have F := ai @okc0 (ai @len0 (ai @tk0 (ai @dr0 (ai @drop0 (ai @lu0 (ai @tu0 (ai @du0 (ai @cu0 (ai @cug (ai @nk @nm)))))))))); refine gCP [1100] [1100] (con_rd (lits := [.one (.lit vg), .one (.lit (.int .i64 1))]) [.set Fg (fun w => Own w (.sl (mkRows 1 wr)) Fg vg)] cH ⟨.treeS List.mem_cons_self, .same, trivial⟩ rfl rfl) ?_; clear F)
 rintro r pm ⟨rfl, rfl⟩
 simp only [setA, retA, zipM, List.cons_append, List.nil_append]
 (have F := ai @okc0 (ai @len0 (ai @tk0 (ai @dr0 (ai @drop0 (ai @lu0 (ai @tu0 (ai @du0 (ai @cu0 (ai @cug (ai @nk @nm)))))))))); refine gR ?_; clear F)
 (have F := ai @okc0 (ai @len0 (ai @tk0 (ai @dr0 (ai @drop0 (ai @lu0 (ai @tu0 (ai @du0 (ai @cu0 (ai @cug (ai @nk (ai @nm (ai @cuh @beq_self_eq_true.{0})))))))))))); refine gG ?_; exact gT)
theorem lawExactFormatModule (w : World) (row0 : List C) (S0 : Nat -> Prop) (us0 : List Value) (hok0 : okRow (moduleF) row0) (hv0 : RepVals w S0 row0 us0) :
  Calls Tryz.prog 5 #[(.agg us0.toArray : Value)] w fun e w' => e = .returned (.bool true) ∧ Below w.heap.size w w' := by
 obtain ⟨m, rfl, k0⟩ := decMod hok0
 have hc := (con_lawFormatModule hok0 (fmtM_ok m) (fun b0 => fmtM_bulk m) (fun b0 => con_specFmtM k0 b0) (fun b0 => conP_implFmtM k0 b0)).2 w (fun b => b < w.heap.size) [(.agg us0.toArray : Value)] (fun b hb => ⟨hb, id⟩) (fun b hb => hb.elim) trivial
  ⟨⟨us0, rfl, hv0.inside'⟩, trivial⟩
 refine hc.mono fun e w' ⟨v, h1, h2, _, h4⟩ => ⟨?_, h2.below⟩
 have h4 : v = .bool true := by simpa [retA, ARel, DRel, Rep] using h4
 rw [h1, h4]
end Go.Proofs.YtohilkmdjdfljaaGreat
namespace Go.Proofs.YtohilkmdjdfljaaGreat
open Go.ChangeShapes Go.WideShapes Go.ChangeAt Go.RowKit Go.Deep
set_option maxRecDepth 100000 in
theorem formatModule_holds_lifted (os : Os) (started : os.Started) (H : Type) (enc : TypeId × Value -> H) :
  ReturnsInHanded {} Tryz.checked os 5 .any (Rows.fnExactFormatModuleSpec.pre6 enc Tryz.prog Tryz.f5 Rows.fnExactFormatModuleRow.domain false) (Rows.fnExactFormatModuleSpec.post enc Tryz.prog Tryz.f5 false true false false) := by
 refine returnsInHanded_of_change (C := Tryz.checked) own started (by kernel_rfl) Tryz.func5
  (ChangeSpec.witness6 (enc := enc) (C := Tryz.checked) false ⟨#[], #[.agg #[.slice none 0 0, .slice none 0 0, .slice none 0 0, .slice none 0 0, .slice none 0 0]], []⟩ 8 (by kernel_rfl) (by kernel_rfl) (by kernel_rfl) (by kernel_rfl)) ?_
 intro W base args ds gs before hval0 hW _ _
 have hval : ∀ (j : Nat) t v, Tryz.f5.params[j]? = some t -> args[j]? = some v -> Value.okWide Tryz.prog W .any base t v := hval0
 have hW' := hW
 obtain ⟨p, q, hA0, hV, rfl, _, _⟩ := hW
 have hA : DataW.TrodAll enc Tryz.prog W 0 (fun _ => true) true Tryz.f5.params.toList args.toList ds p := hA0
 rw [Tryz.params5] at hA hval
 obtain ⟨v0, vs0, d0, ds0, p0, q0, hargs0, hd0, hp0, h0, r0⟩ := trodAll_cons hA
 obtain ⟨e1, e1d, _⟩ := trodAll_nil r0
 rw [e1] at hargs0
 obtain rfl : args = #[v0] := by cases args; simp_all
 rw [e1d] at hd0
 subst hd0
 obtain ⟨rfl, rfl⟩ := trodVars_none hV
 obtain ⟨cs0, rfl, _⟩ := okWide_struct Tryz.underlying67 (hval 0 67 v0 rfl rfl)
 obtain ⟨fuel0, hf0⟩ := h0
 obtain ⟨row0, hok0, hrep0⟩ := open_row seatTR fuel0 _ _ _ _ ty_Module hf0
 have e0c : (Value.agg cs0).cells.toList.toArray = cs0 := by simp [Value.cells]
 have hlaw := lawExactFormatModule W row0 _ _ hok0 hrep0
 rw [e0c] at hlaw
 refine hlaw.mono fun e W' ⟨he, hb⟩ => ?_
 subst he
 exact ⟨_, rfl, law_post laidOut rfl rfl Tryz.underlying4 (by rw [Tryz.params5]; decide +kernel) hW' rfl hb⟩
set_option maxHeartbeats 400000000 in
set_option maxRecDepth 100000 in
theorem formatModule_holds_closed : joinedFacts Tryz.checked.prog 5 Tryz.f5 Rows.fnExactFormatModuleSpec Rows.fnExactFormatModuleRow = true := by
 unfold joinedFacts
 simp only [Bool.and_eq_true]
 and_intros
 all_goals as_aux_lemma => kernel_rfl
theorem formatModule_holds_named : Tryz.checked.prog.funcNamed Rows.fnExactFormatModuleRow.func = some 5 := by kernel_rfl
theorem formatModule_holds : Rows.FnExactFormatModuleSaid :=
 OpenClaim.holds_of_wide 5 Tryz.f5 rfl rfl rfl rfl rfl rfl rfl ⟨rfl, rfl, rfl, rfl, rfl⟩ rfl rfl rfl rfl rfl formatModule_holds_named Tryz.func5 formatModule_holds_closed
  (of_decide_eq_true (by kernel_rfl)) (by unfold Func.isWrapper; rw [if_neg (of_decide_eq_false (by kernel_rfl))]; exact ⟨rfl, rfl⟩)
  (fun os started H enc _ => formatModule_holds_lifted os started H enc)
#print axioms formatModule_holds
end Go.Proofs.YtohilkmdjdfljaaGreat
