/-
  The sets of the sorts above each sort: the program's sortsAbove and the reference's l3Up run the same rounds (walked).
-/
import Derived.Test.YtlhbdhdaecchoaaInts
import Derived.Test.YtlhbdhdaecchoaaBits
set_option linter.unusedSimpArgs false
set_option linter.unusedVariables false
namespace Go.Proofs.Ytlhbdhdaecchoaa
open Go.RowKit

def upSub (l : List Nat) (p : Int × Int) : List Nat := l.set p.1.toNat (l.getD p.1.toNat 0 ||| l.getD p.2.toNat 0)
def upRound (subs : List (Int × Int)) (l : List Nat) : List Nat := subs.foldl upSub l
def upIter (subs : List (Int × Int)) : Nat → List Nat → List Nat
  | 0, l => l
  | k + 1, l => upRound subs (upIter subs k l)
def up0 (n : Nat) : List Nat := (List.range n).map (2 ^ ·)
def up (s : Srt) : List Nat := upIter s.subs s.names.length (up0 s.names.length)
def casts (l : List Nat) : List Int := l.map (fun (n : Nat) => (n : Int))
def SubsIn (n : Nat) (subs : List (Int × Int)) : Prop := ∀ p ∈ subs, 0 ≤ p.1 ∧ p.1 < n ∧ 0 ≤ p.2 ∧ p.2 < n
def UpOk (n : Nat) (l : List Nat) : Prop := l.length = n ∧ ∀ x ∈ l, x < 2 ^ n
theorem UpOk.get {n : Nat} {l : List Nat} (h : UpOk n l) {i : Nat} (hi : i < n) : l[i]? = some (l.getD i 0) ∧ l.getD i 0 < 2 ^ n := by
  have hl : i < l.length := by rw [h.1]; exact hi
  have e : l[i]? = some l[i] := List.getElem?_eq_getElem hl
  have e2 : l.getD i 0 = l[i] := by simp [List.getD, e]
  rw [e2]
  exact ⟨e, h.2 _ (List.getElem_mem hl)⟩
theorem UpOk.sub {n : Nat} {l : List Nat} (h : UpOk n l) {p : Int × Int} (hp : 0 ≤ p.1 ∧ p.1 < n ∧ 0 ≤ p.2 ∧ p.2 < n) : UpOk n (upSub l p) := by
  refine ⟨by unfold upSub; rw [List.length_set]; exact h.1, fun x hx => ?_⟩
  unfold upSub at hx
  rcases List.mem_or_eq_of_mem_set hx with hx | rfl
  · exact h.2 x hx
  · exact Nat.or_lt_two_pow (h.get (i := p.1.toNat) (by omega)).2 (h.get (i := p.2.toNat) (by omega)).2
theorem UpOk.foldl {n : Nat} : ∀ {subs : List (Int × Int)} {l : List Nat}, UpOk n l → SubsIn n subs → UpOk n (subs.foldl upSub l)
  | [], l, h, _ => h
  | p :: ps, l, h, hs => UpOk.foldl (subs := ps) (h.sub (hs p (by simp))) (fun q hq => hs q (by simp [hq]))
theorem UpOk.iter {n : Nat} {subs : List (Int × Int)} (hs : SubsIn n subs) : ∀ (k : Nat) {l : List Nat}, UpOk n l → UpOk n (upIter subs k l)
  | 0, l, h => h
  | k + 1, l, h => (UpOk.iter hs k h).foldl hs
theorem UpOk.start (n : Nat) : UpOk n (up0 n) := by
  refine ⟨by simp [up0], fun x hx => ?_⟩
  simp only [up0, List.mem_map, List.mem_range] at hx
  obtain ⟨i, hi, rfl⟩ := hx
  exact Nat.pow_lt_pow_right (by omega) hi
theorem up_ok {s : Srt} (h : SubsIn s.names.length s.subs) : UpOk s.names.length (up s) := UpOk.iter h _ (UpOk.start _)
theorem foldl_take {α β : Type} {f : β → α → β} {l : List α} {k : Nat} {a : α} (h : l[k]? = some a) (b : β) : (l.take (k + 1)).foldl f b = f ((l.take k).foldl f b) a := by
  rw [take_snoc h, List.foldl_append]; rfl
theorem SubsIn.take {n : Nat} {subs : List (Int × Int)} (h : SubsIn n subs) (k : Nat) : SubsIn n (subs.take k) := fun p hp => h p (List.mem_of_mem_take hp)
theorem casts_len (l : List Nat) : (casts l).length = l.length := by simp [casts]
theorem casts_get {l : List Nat} {i x : Nat} (h : l[i]? = some x) : (casts l)[i]? = some (x : Int) := by simp [casts, h]
theorem casts_set (l : List Nat) (i x : Nat) : casts (l.set i x) = (casts l).set i (x : Int) := by simp [casts, List.map_set]
theorem casts_snoc (l : List Nat) (x : Nat) : casts (l ++ [x]) = casts l ++ [(x : Int)] := by simp [casts]
/-- The slice holds the numbers, of which the first k are as they shall be. -/
theorem up0_take {n k : Nat} (h : k ≤ n) : up0 k = (up0 n).take k := by
  unfold up0
  rw [← List.map_take, List.take_range]
  congr 2
  omega

def fill0 (n k : Nat) : List Nat := up0 k ++ List.replicate (n - k) 0
theorem fill0_len {n k : Nat} (h : k ≤ n) : (fill0 n k).length = n := by simp [fill0, up0]; omega
theorem fill0_set {n k : Nat} (h : k < n) : (fill0 n k).set k (2 ^ k) = fill0 n (k + 1) := by
  unfold fill0
  have e : n - k = (n - (k + 1)) + 1 := by omega
  have e2 : up0 (k + 1) = up0 k ++ [2 ^ k] := by simp [up0, List.range_succ]
  have e3 : (up0 k).length = k := by simp [up0]
  rw [e, List.replicate_succ, List.set_append_right _ _ (by omega), e3, Nat.sub_self, List.set_cons_zero, e2, List.append_assoc]
  rfl
theorem fill0_end (n : Nat) : fill0 n n = up0 n := by simp [fill0]
theorem made_ints (n : Nat) : (madeCells #[Value.int .i64 0] n).toList = (casts (List.replicate n 0)).map (Value.int .i64) := by
  rw [toList_madeCells_one]
  simp [casts]
theorem Ints.made (w : World) (n : Nat) (h : n ≤ maxLen) : Ints (w.alloc (.cells (madeCells #[Value.int .i64 0] n) 3)) w.heap.size (.slice (some ⟨w.heap.size, 0, none⟩) n n) (casts (List.replicate n 0)) := by
  refine ⟨by simp, .inr ⟨w.heap.size, n, _, by simp [casts], Nat.le_refl _, heap_alloc_new w _, by simp [casts], h, by simp [size_madeCells], ?_⟩⟩
  rw [List.take_of_length_le (by simp [size_madeCells, casts]), made_ints]
def sortsAboveC (f : FuncId) : Prop := ∀ (s : Srt) (S : Nat → Prop) (us : List Value) (w : World), okSrt s → RepVals w S (encSrt s) us → 1 ≤ s.names.length → s.names.length ≤ 8 → SubsIn s.names.length s.subs →
  Calls Try.prog f #[.agg us.toArray] w fun e w' => ∃ v, e = .returned v ∧ Ints w' w.heap.size v (casts (up s)) ∧ Below w.heap.size w w'
theorem info_Sub' : (Try.prog.info? 110).map (fun i => (i.zero, i.size, i.bytes)) = some (some (.agg #[.int .i64 0, .int .i64 0]), 2, 16) := by kernel_rfl
set_option maxHeartbeats 2000000 in
set_option maxRecDepth 100000 in
theorem implSortsAbove : sortsAboveC 69 := by
  intro s S us w hok hv hn1 hn hin
  obtain ⟨names, subs⟩ := s
  simp only [encSrt] at hv
  obtain ⟨v0, v1, rfl, e0, e1⟩ := repVals_Sorts hv
  obtain ⟨A0, cap0, rfl, hc0, hm0⟩ := e0.shape
  obtain ⟨A1, cap1, rfl, hc1, hm1⟩ := e1.shape
  obtain ⟨i0, hi, hz0, hz1, hz2⟩ := info_parts info_Int
  obtain ⟨ic, hci, _, hcs, _⟩ := info_parts info_Sub'
  have HIN := Lib.hid hin
  have HOK := Lib.hid hok
  have E1 := Lib.hid e1
  have HF : Hid (up ⟨names, subs⟩ = upIter subs names.length (up0 names.length)) := rfl
  clear hv e0 e1 hok hin
  generalize hN : names.length = n at *
  generalize hM : subs.length = m at *
  clear hN
  have HM := Lib.hid hM
  clear hM
  unfold maxLen at hm0 hm1
  have hmk := run_make (P := Try.prog) (w.alloc (.cells #[.slice A0 n cap0, .slice A1 m cap1] 37)) 59 3 i0 _ Try.underlying59 hi hz0 .i64 .i64 (n : Int) (n : Int) (by omega) (by omega) (by rw [hz2]; omega) (by omega)
  go_enter Try.func69, Try.ntmps69
  go_wp2
  clear hmk
  generalize hW : w.alloc _ = W
  have hbW : Below w.heap.size w W := by rw [← hW]; exact (Below.refl _ _).alloc (Nat.le_refl _) _
  have p1 : W.cell? ⟨w.heap.size, 1, none⟩ = some (.slice A1 m cap1) := by rw [← hW]; simp
  have z1 : w.heap.size + 1 = W.heap.size := by rw [← hW]; simp
  clear hW
  rw [z1]
  go_loopw [13] (fun i wr => ∃ k : Nat, k ≤ n ∧ i = .int .i64 k ∧ Ints wr W.heap.size (.slice (some ⟨W.heap.size, 0, none⟩) n n) (casts (fill0 n k)) ∧ Below W.heap.size W wr) (fun i _ => n - (intOf i).toNat)
  case atStart => exact ⟨0, Nat.zero_le _, rfl, by simpa [fill0, up0] using Ints.made W n (by unfold maxLen; omega), (Below.refl _ _).alloc (Nat.le_refl _) _⟩
  case round =>
    obtain ⟨k, hk, rfl, hI, hb⟩ := hrel
    by_cases hkm : k < n
    · have hcell : ∃ x : Int, wr.cell? ⟨W.heap.size, k, none⟩ = some (.int .i64 x) := by
        have : k < (casts (fill0 n k)).length := by rw [casts_len, fill0_len (by omega)]; exact hkm
        exact ⟨_, hI.cell (List.getElem?_eq_getElem this)⟩
      obtain ⟨x, hcell⟩ := hcell
      have hfr := hI.frozen k
      have HI := Lib.hid hI
      clear hI
      go_wp2
      go_roundw
      case rel =>
        refine ⟨k + 1, by omega, by go_num, ?_, hb.setCell (Nat.le_refl _) _⟩
        rw [shl_one (by omega), ← fill0_set hkm, casts_set]
        exact HI.out.set (by rw [casts_len, fill0_len (by omega)]; exact hkm) _
      case measure => simp [intOf]; omega
    · obtain rfl : n = k := by omega
      rw [fill0_end] at hI
      have HI := Lib.hid hI
      clear hI
      go_wp2
      have hb1 := hb
      clear hb
      go_loopw [24] (fun i wr => ∃ j : Nat, j ≤ n ∧ i = .int .i64 j ∧ Ints wr W.heap.size (.slice (some ⟨W.heap.size, 0, none⟩) n n) (casts (upIter subs j (up0 n))) ∧ Below W.heap.size W wr) (fun i _ => n - (intOf i).toNat)
      case atStart => exact ⟨0, Nat.zero_le _, rfl, HI.out, hb1⟩
      case round =>
        obtain ⟨j, hj, rfl, hI, hb⟩ := hrel
        by_cases hjn : j < n
        · have pw := (hb.cell (p := ⟨w.heap.size, 1, none⟩) (show w.heap.size < W.heap.size by omega)).trans p1
          have HI2 := Lib.hid hI
          clear hI
          go_wp2
          have hb2 := hb
          clear hb pw
          go_loopw [29] (fun i wr => ∃ k : Nat, k ≤ m ∧ i = .int .i64 k ∧ Ints wr W.heap.size (.slice (some ⟨W.heap.size, 0, none⟩) n n) (casts ((subs.take k).foldl upSub (upIter subs j (up0 n)))) ∧ Below W.heap.size W wr) (fun i _ => m - (intOf i).toNat)
          case atStart => exact ⟨0, Nat.zero_le _, rfl, HI2.out, hb2⟩
          case round =>
            obtain ⟨k, hk, rfl, hI, hb⟩ := hrel
            have HI3 := Lib.hid hI
            clear hI
            by_cases hkm : k < m
            · obtain ⟨p, hp⟩ : ∃ p, subs[k]? = some p := ⟨_, List.getElem?_eq_getElem (by have := HM.out; omega)⟩
              obtain ⟨b, off, rfl, hS, hbz, hrow⟩ := Rep.at okSubR HOK.out.2 (E1.out.below (hbW.trans (hb.mono hbW.size))) hp
              obtain ⟨g0, g1, g2, g3⟩ := HIN.out p (List.mem_of_getElem? hp)
              obtain ⟨lo, hi'⟩ := p
              simp only [encSub, RepRow, and_true, fieldsOf, List.length_cons, List.length_nil, Nat.reduceAdd, Rep.lit_iff] at hrow
              obtain ⟨⟨_, c0, rfl⟩, ⟨_, c1, rfl⟩⟩ := hrow
              simp only at g0 g1 g2 g3
              obtain ⟨lo, rfl⟩ := Int.eq_ofNat_of_zero_le g0
              obtain ⟨hi', rfl⟩ := Int.eq_ofNat_of_zero_le g2
              have hup := (UpOk.iter HIN.out j (UpOk.start n)).foldl (HIN.out.take k)
              have HL := Lib.hid hup.1
              obtain ⟨r0, t0⟩ := hup.get (i := lo) (by omega)
              obtain ⟨r1, t1⟩ := hup.get (i := hi') (by omega)
              have HST := Lib.hid (foldl_take (f := upSub) hp (upIter subs j (up0 n)))
              generalize hG : (subs.take k).foldl upSub (upIter subs j (up0 n)) = G at *
              have d0 := HI3.out.cell (casts_get r0)
              have d1 := HI3.out.cell (casts_get r1)
              have f0 := HI3.out.frozen lo
              have hlt : W.heap.size < wr.heap.size := (HI3.out.lt _ rfl).2
              have hb256 : 2 ^ n ≤ 2 ^ 8 := Nat.pow_le_pow_right (by omega) hn
              have HX : Hid (G.getD lo 0 < 4611686018427387904 ∧ G.getD hi' 0 < 4611686018427387904) := ⟨by omega, by omega⟩
              have HU : Hid (upSub G (lo, hi') = G.set lo (G.getD lo 0 ||| G.getD hi' 0)) := by show _ = _; simp [upSub]
              clear hup t0 t1 r0 r1 hG hb256 hp
              generalize G.getD lo 0 = x0 at *
              generalize G.getD hi' 0 = x1 at *
              go_wp2_with (refine wpList_store_new rfl 110 _ _ rfl _ _ _ rfl _ rfl (by simp) [.int .i64 lo, .int .i64 hi'] rfl ic hci hcs rfl (by simp [Value.oneCell']) ?_)
              (refine wp_region_still_tail 15 (by kernel_rfl) (by kernel_rfl) ?_
               simp only [List.take_succ_cons, List.take_zero, List.drop_succ_cons, List.drop_zero]
               change wpStill _ _ (World.drew _) _ _ _
               repeat still_step
               refine wpStill_nil ?_
               change wpList _ _ _ _ _ (World.drew _))
              go_wp2
              go_roundw
              case rel =>
                refine ⟨k + 1, by omega, by go_num, ?_, ?_⟩
                · rw [HST.out, HU.out, casts_set, bits_or HX.out.1 HX.out.2]
                  have hln : lo < (casts G).length := by rw [casts_len, HL.out]; omega
                  first
                    | exact ((HI3.out.set hln _).alloc _).drew
                    | exact ((HI3.out.alloc _).set hln _).drew
                    | exact ((HI3.out.alloc _).drew.set hln _)
                · first
                    | exact ((hb.setCell (Nat.le_refl _) _).alloc (by simp; omega) _).drew
                    | exact ((hb.alloc (by omega) _).setCell (Nat.le_refl _) _).drew
                    | exact ((hb.alloc (by omega) _).drew.setCell (Nat.le_refl _) _)
              case measure => simp [intOf]; omega
            · have e : k = m := by omega
              have HT : Hid (subs.take k = subs) := List.take_of_length_le (by have := HM.out; omega)
              go_wp2
              go_roundw
              case rel => exact ⟨j + 1, by omega, by go_num, by have := HI3.out; rw [HT.out] at this; exact this, hb⟩
              case measure => simp [intOf]; omega
        · have e : j = n := by omega
          subst e
          have HI4 := Lib.hid hI
          clear hI
          go_wp2
          go_ret
          exact ⟨_, rfl, by rw [HF.out]; exact HI4.out.base_le hbW.size, hbW.trans (hb.mono hbW.size)⟩

theorem up0_snoc (k : Nat) : up0 (k + 1) = up0 k ++ [2 ^ k] := by simp [up0, List.range_succ]
set_option maxHeartbeats 2000000 in
set_option maxRecDepth 100000 in
theorem specUp : sortsAboveC 63 := by
  intro s S us w hok hv hn1 hn hin
  obtain ⟨names, subs⟩ := s
  simp only [encSrt] at hv
  obtain ⟨v0, v1, rfl, e0, e1⟩ := repVals_Sorts hv
  obtain ⟨A0, cap0, rfl, hc0, hm0⟩ := e0.shape
  obtain ⟨A1, cap1, rfl, hc1, hm1⟩ := e1.shape
  obtain ⟨i0, hi, hz0, hz1, hz2⟩ := info_parts info_Int
  have HIN := Lib.hid hin
  have HOK := Lib.hid hok
  have E1 := Lib.hid e1
  have HF : Hid (up ⟨names, subs⟩ = upIter subs names.length (up0 names.length)) := rfl
  clear hv e0 e1 hok hin
  generalize hN : names.length = n at *
  generalize hM : subs.length = m at *
  clear hN
  have HM := Lib.hid hM
  clear hM
  unfold maxLen at hm0 hm1
  go_enter Try.func63, Try.ntmps63
  go_wp2
  generalize hW : w.alloc _ = W
  have hbW : Below w.heap.size w W := by rw [← hW]; exact (Below.refl _ _).alloc (Nat.le_refl _) _
  have p0 : W.cell? ⟨w.heap.size, 0, none⟩ = some (.slice A0 n cap0) := by rw [← hW]; simp
  have p1 : W.cell? ⟨w.heap.size, 1, none⟩ = some (.slice A1 m cap1) := by rw [← hW]; simp
  have z1 : w.heap.size + 1 = W.heap.size := by rw [← hW]; simp
  clear hW
  rw [z1]
  go_loopw [3, 4] (fun v i wr => ∃ k : Nat, k ≤ n ∧ i = .int .i64 k ∧ Ints wr W.heap.size v (casts (up0 k)) ∧ Below W.heap.size W wr) (fun _ i _ => n - (intOf i).toNat)
  case atStart => exact ⟨0, Nat.zero_le _, rfl, Ints.empty W, (Below.refl _ _).alloc (Nat.le_refl _) _⟩
  case round =>
    obtain ⟨k, hk, rfl, hI, hb⟩ := hrel
    have pw := (hb.cell (p := ⟨w.heap.size, 0, none⟩) (show w.heap.size < W.heap.size by omega)).trans p0
    have HI := Lib.hid hI
    clear hI
    by_cases hkn : k < n
    · have HB := Lib.hid (specBit k (by omega))
      go_wp2_with (first
        | (go_at_call 76; refine (HB.out _).mono ?_; rintro e w2 ⟨rfl, rfl⟩)
        | (at_builtin; refine wpList_app_int rfl _ _ 59 rfl i0 Try.underlying59 hi hz0 hz1 hz2 W.heap.size _ _ rfl _ _ _ rfl HI.out rfl (by simp [casts, up0]; omega) hb.size ?_; intro v' w1 hI1 hB1))
      go_roundw
      case rel => exact ⟨k + 1, by omega, by go_num, by rw [up0_snoc, casts_snoc]; simpa using hI1, hb.trans (hB1 _ (Nat.le_refl _))⟩
      case measure => simp [intOf]; omega
    · obtain rfl : n = k := by omega
      obtain ⟨A, cap, rfl, hcc, hmm, hA⟩ := HI.out.form
      obtain ⟨g, rfl, hg1, hg2⟩ := hA (by simp [casts, up0]; omega)
      rw [casts_len, (UpOk.start n).1] at HI
      rw [casts_len, (UpOk.start n).1]
      go_wp2
      have hb1 := hb
      clear hb pw hA
      go_loopw [5] (fun i wr => ∃ j : Nat, j ≤ n ∧ i = .int .i64 j ∧ Ints wr W.heap.size (.slice (some ⟨g, 0, none⟩) n cap) (casts (upIter subs j (up0 n))) ∧ Below W.heap.size W wr) (fun i _ => n - (intOf i).toNat)
      case atStart => exact ⟨0, Nat.zero_le _, rfl, HI.out, hb1⟩
      case round =>
        obtain ⟨j, hj, rfl, hI, hb⟩ := hrel
        have pw := (hb.cell (p := ⟨w.heap.size, 0, none⟩) (show w.heap.size < W.heap.size by omega)).trans p0
        by_cases hjn : j < n
        · have HI2 := Lib.hid hI
          clear hI
          go_wp2
          have hb2 := hb
          clear hb pw
          go_loopw [6] (fun i wr => ∃ k : Nat, k ≤ m ∧ i = .int .i64 k ∧ Ints wr W.heap.size (.slice (some ⟨g, 0, none⟩) n cap) (casts ((subs.take k).foldl upSub (upIter subs j (up0 n)))) ∧ Below W.heap.size W wr) (fun i _ => m - (intOf i).toNat)
          case atStart => exact ⟨0, Nat.zero_le _, rfl, HI2.out, hb2⟩
          case round =>
            obtain ⟨k, hk, rfl, hI, hb⟩ := hrel
            have pw1 := (hb.cell (p := ⟨w.heap.size, 1, none⟩) (show w.heap.size < W.heap.size by omega)).trans p1
            have HI3 := Lib.hid hI
            clear hI
            by_cases hkm : k < m
            · obtain ⟨p, hp⟩ : ∃ p, subs[k]? = some p := ⟨_, List.getElem?_eq_getElem (by have := HM.out; omega)⟩
              obtain ⟨b, off, rfl, hS, hbz, hrow⟩ := Rep.at okSubR HOK.out.2 (E1.out.below (hbW.trans (hb.mono hbW.size))) hp
              obtain ⟨g0, g1, g2, g3⟩ := HIN.out p (List.mem_of_getElem? hp)
              obtain ⟨lo, hi'⟩ := p
              simp only [encSub, RepRow, and_true, fieldsOf, List.length_cons, List.length_nil, Nat.reduceAdd, Rep.lit_iff] at hrow
              obtain ⟨⟨_, c0, rfl⟩, ⟨_, c1, rfl⟩⟩ := hrow
              simp only at g0 g1 g2 g3
              obtain ⟨lo, rfl⟩ := Int.eq_ofNat_of_zero_le g0
              obtain ⟨hi', rfl⟩ := Int.eq_ofNat_of_zero_le g2
              have hup := (UpOk.iter HIN.out j (UpOk.start n)).foldl (HIN.out.take k)
              have HL := Lib.hid hup.1
              obtain ⟨r0, t0⟩ := hup.get (i := lo) (by omega)
              obtain ⟨r1, t1⟩ := hup.get (i := hi') (by omega)
              have HST := Lib.hid (foldl_take (f := upSub) hp (upIter subs j (up0 n)))
              generalize hG : (subs.take k).foldl upSub (upIter subs j (up0 n)) = G at *
              have d0 := HI3.out.cell (casts_get r0)
              have d1 := HI3.out.cell (casts_get r1)
              have f0 := HI3.out.frozen lo
              have hlt : g < wr.heap.size := (HI3.out.lt _ rfl).2
              have hb256 : 2 ^ n ≤ 2 ^ 8 := Nat.pow_le_pow_right (by omega) hn
              have HX : Hid (G.getD lo 0 < 4611686018427387904 ∧ G.getD hi' 0 < 4611686018427387904) := ⟨by omega, by omega⟩
              have HU : Hid (upSub G (lo, hi') = G.set lo (G.getD lo 0 ||| G.getD hi' 0)) := by show _ = _; simp [upSub]
              clear hup t0 t1 r0 r1 hG hb256 hp
              generalize G.getD lo 0 = x0 at *
              generalize G.getD hi' 0 = x1 at *
              go_wp2_with fail
              (refine wp_region_still_tail 27 (by kernel_rfl) (by kernel_rfl) ?_
               simp only [List.take_succ_cons, List.take_zero, List.drop_succ_cons, List.drop_zero]
               change wpStill _ _ (World.drew _) _ _ _
               repeat still_step
               refine wpStill_nil ?_
               change wpList _ _ _ _ _ (World.drew _))
              go_wp2
              go_roundw
              case rel =>
                refine ⟨k + 1, by omega, by go_num, ?_, (hb.drew.setCell (p := ⟨g, lo, none⟩) hg1 _)⟩
                rw [HST.out, HU.out, casts_set, bits_or HX.out.1 HX.out.2]
                have hln : lo < (casts G).length := by rw [casts_len, HL.out]; omega
                exact HI3.out.drew.set hln _
              case measure => simp [intOf]; omega
            · have HT : Hid (subs.take k = subs) := List.take_of_length_le (by have := HM.out; omega)
              go_wp2
              go_roundw
              case rel => exact ⟨j + 1, by omega, by go_num, by have := HI3.out; rw [HT.out] at this; exact this, hb⟩
              case measure => simp [intOf]; omega
        · obtain rfl : n = j := by omega
          have HI4 := Lib.hid hI
          clear hI
          go_wp2
          go_ret
          exact ⟨_, rfl, by rw [HF.out]; exact HI4.out.base_le hbW.size, hbW.trans (hb.mono hbW.size)⟩
end Go.Proofs.Ytlhbdhdaecchoaa
