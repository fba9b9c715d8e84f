/-
  The kinds of sorts: the reference's l3Kinds (walked).
-/
import Derived.Test.YtlhbdhdaecchoaaSorts2
set_option linter.unusedSimpArgs false
set_option linter.unusedVariables false
namespace Go.Proofs.Ytlhbdhdaecchoaa
open Go.RowKit

def kSub (l : List Nat) (p : Int × Int) : List Nat := (l.set p.1.toNat (min (l.getD p.1.toNat 0) (l.getD p.2.toNat 0))).set p.2.toNat (min (l.getD p.1.toNat 0) (l.getD p.2.toNat 0))
def kIter (subs : List (Int × Int)) : Nat → List Nat → List Nat
  | 0, l => l
  | k + 1, l => subs.foldl kSub (kIter subs k l)
def kinds (s : Srt) : List Nat := kIter s.subs s.names.length (List.range s.names.length)
def KOk (n : Nat) (l : List Nat) : Prop := l.length = n ∧ ∀ x ∈ l, x < n
theorem KOk.get {n : Nat} {l : List Nat} (h : KOk n l) {i : Nat} (hi : i < n) : l[i]? = some (l.getD i 0) ∧ l.getD i 0 < n := by
  have hl : i < l.length := by rw [h.1]; exact hi
  have e : l[i]? = some l[i] := List.getElem?_eq_getElem hl
  have e2 : l.getD i 0 = l[i] := by simp [List.getD, e]
  rw [e2]
  exact ⟨e, h.2 _ (List.getElem_mem hl)⟩
theorem KOk.sub {n : Nat} {l : List Nat} (h : KOk n l) {p : Int × Int} (hp : 0 ≤ p.1 ∧ p.1 < n ∧ 0 ≤ p.2 ∧ p.2 < n) : KOk n (kSub l p) := by
  refine ⟨by unfold kSub; rw [List.length_set, List.length_set]; exact h.1, fun x hx => ?_⟩
  have hm : min (l.getD p.1.toNat 0) (l.getD p.2.toNat 0) < n := by
    have := (h.get (i := p.1.toNat) (by omega)).2
    omega
  unfold kSub at hx
  rcases List.mem_or_eq_of_mem_set hx with hx | rfl
  · rcases List.mem_or_eq_of_mem_set hx with hx | rfl
    · exact h.2 x hx
    · exact hm
  · exact hm
theorem KOk.foldl {n : Nat} : ∀ {subs : List (Int × Int)} {l : List Nat}, KOk n l → SubsIn n subs → KOk n (subs.foldl kSub l)
  | [], l, h, _ => h
  | p :: ps, l, h, hs => KOk.foldl (subs := ps) (h.sub (hs p (by simp))) (fun q hq => hs q (by simp [hq]))
theorem KOk.iter {n : Nat} {subs : List (Int × Int)} (hs : SubsIn n subs) : ∀ (k : Nat) {l : List Nat}, KOk n l → KOk n (kIter subs k l)
  | 0, l, h => h
  | k + 1, l, h => (KOk.iter hs k h).foldl hs
theorem KOk.start (n : Nat) : KOk n (List.range n) := ⟨by simp, fun x hx => by simpa using hx⟩
theorem kinds_ok {s : Srt} (h : SubsIn s.names.length s.subs) : KOk s.names.length (kinds s) := KOk.iter h _ (KOk.start _)

set_option maxHeartbeats 2000000 in
set_option maxRecDepth 100000 in
theorem specKinds (s : Srt) (S : Nat → Prop) (us : List Value) (w : World) (hok : okSrt s) (hv : RepVals w S (encSrt s) us) (hn1 : 1 ≤ s.names.length) (hn : s.names.length ≤ 8) (hsb : ∀ p ∈ s.subs, SubOk s.names.length p) :
    Calls Try.prog 65 #[.agg us.toArray] w fun e w' => ∃ v, e = .returned v ∧ Ints w' w.heap.size v (casts (kinds s)) ∧ Below w.heap.size w w' := by
  have hin := SortsOk.subsIn hsb
  obtain ⟨names, subs⟩ := s
  simp only [encSrt] at hv
  have HSB := Lib.hid hsb
  obtain ⟨v0, v1, rfl, e0, e1⟩ := repVals_Sorts hv
  obtain ⟨A0, cap0, rfl, hc0, hm0⟩ := e0.shape
  obtain ⟨A1, cap1, rfl, hc1, hm1⟩ := e1.shape
  obtain ⟨i0, hi, hz0, hz1, hz2⟩ := info_parts info_Int
  have HIN := Lib.hid hin
  have HOK := Lib.hid hok
  have E1 := Lib.hid e1
  have HF : Hid (kinds ⟨names, subs⟩ = kIter subs names.length (List.range names.length)) := rfl
  clear hv e0 e1 hok hin hsb
  simp only at hn1 hn HSB
  generalize hN : names.length = n at *
  generalize hM : subs.length = m at *
  clear hN
  have HM := Lib.hid hM
  clear hM
  unfold maxLen at hm0 hm1
  go_enter Try.func65, Try.ntmps65
  go_wp2
  generalize hW : w.alloc _ = W
  have hbW : Below w.heap.size w W := by rw [← hW]; exact (Below.refl _ _).alloc (Nat.le_refl _) _
  have p0 : W.cell? ⟨w.heap.size, 0, none⟩ = some (.slice A0 n cap0) := by rw [← hW]; simp
  have p1 : W.cell? ⟨w.heap.size, 1, none⟩ = some (.slice A1 m cap1) := by rw [← hW]; simp
  have z1 : w.heap.size + 1 = W.heap.size := by rw [← hW]; simp
  clear hW
  rw [z1]
  go_loopw [3, 4] (fun v i wr => ∃ k : Nat, k ≤ n ∧ i = .int .i64 k ∧ Ints wr W.heap.size v (casts (List.range k)) ∧ Below W.heap.size W wr) (fun _ i _ => n - (intOf i).toNat)
  case atStart => exact ⟨0, Nat.zero_le _, rfl, Ints.empty W, (Below.refl _ _).alloc (Nat.le_refl _) _⟩
  case round =>
    obtain ⟨k, hk, rfl, hI, hb⟩ := hrel
    have pw := (hb.cell (p := ⟨w.heap.size, 0, none⟩) (show w.heap.size < W.heap.size by omega)).trans p0
    have HI := Lib.hid hI
    clear hI
    by_cases hkn : k < n
    · go_wp2_with (at_builtin; refine wpList_app_int rfl _ _ 59 rfl i0 Try.underlying59 hi hz0 hz1 hz2 W.heap.size _ _ rfl _ _ _ rfl HI.out rfl (by simp [casts]; omega) hb.size ?_; intro v' w1 hI1 hB1)
      go_roundw
      case rel => exact ⟨k + 1, by omega, by go_num, by rw [List.range_succ, casts_snoc]; exact hI1, hb.trans (hB1 _ (Nat.le_refl _))⟩
      case measure => simp [intOf]; omega
    · obtain rfl : n = k := by omega
      obtain ⟨A, cap, rfl, hcc, hmm, hA⟩ := HI.out.form
      obtain ⟨g, rfl, hg1, hg2⟩ := hA (by simp [casts]; omega)
      rw [casts_len, List.length_range] at HI hcc
      rw [casts_len, List.length_range]
      unfold maxLen at hmm
      go_wp2
      have hb1 := hb
      clear hb pw hA
      go_loopw [5] (fun i wr => ∃ j : Nat, j ≤ n ∧ i = .int .i64 j ∧ Ints wr W.heap.size (.slice (some ⟨g, 0, none⟩) n cap) (casts (kIter subs j (List.range n))) ∧ Below W.heap.size W wr) (fun i _ => n - (intOf i).toNat)
      case atStart => exact ⟨0, Nat.zero_le _, rfl, HI.out, hb1⟩
      case round =>
        obtain ⟨j, hj, rfl, hI, hb⟩ := hrel
        by_cases hjn : j < n
        · have HI2 := Lib.hid hI
          clear hI
          go_wp2
          have hb2 := hb
          clear hb
          go_loopw [6] (fun i wr => ∃ k : Nat, k ≤ m ∧ i = .int .i64 k ∧ Ints wr W.heap.size (.slice (some ⟨g, 0, none⟩) n cap) (casts ((subs.take k).foldl kSub (kIter subs j (List.range n)))) ∧ Below W.heap.size W wr) (fun i _ => m - (intOf i).toNat)
          case atStart => exact ⟨0, Nat.zero_le _, rfl, HI2.out, hb2⟩
          case round =>
            obtain ⟨k, hk, rfl, hI, hb⟩ := hrel
            have pw1 := (hb.cell (p := ⟨w.heap.size, 1, none⟩) (show w.heap.size < W.heap.size by omega)).trans p1
            have HI3 := Lib.hid hI
            clear hI
            by_cases hkm : k < m
            · obtain ⟨p, hp⟩ : ∃ p, subs[k]? = some p := ⟨_, List.getElem?_eq_getElem (by have := HM.out; omega)⟩
              obtain ⟨b, off, rfl, hS, hbz, hrow⟩ := Rep.at okSubR HOK.out.2 (E1.out.below (hbW.trans (hb.mono hbW.size))) hp
              obtain ⟨g0, g1, g2, g3, g4⟩ := HSB.out p (List.mem_of_getElem? hp)
              obtain ⟨lo, hi'⟩ := p
              simp only [encSub, RepRow, and_true, fieldsOf, List.length_cons, List.length_nil, Nat.reduceAdd, Rep.lit_iff] at hrow
              obtain ⟨⟨_, c0, rfl⟩, ⟨_, c1, rfl⟩⟩ := hrow
              simp only at g0 g1 g2 g3 g4
              obtain ⟨lo, rfl⟩ := Int.eq_ofNat_of_zero_le g0
              obtain ⟨hi', rfl⟩ := Int.eq_ofNat_of_zero_le g2
              have hne : hi' ≠ lo := by omega
              clear g4
              have hup := (KOk.iter HIN.out j (KOk.start n)).foldl (HIN.out.take k)
              have HL := Lib.hid hup.1
              obtain ⟨r0, t0⟩ := hup.get (i := lo) (by omega)
              obtain ⟨r1, t1⟩ := hup.get (i := hi') (by omega)
              have HST := Lib.hid (foldl_take (f := kSub) hp (kIter subs j (List.range n)))
              generalize hG : (subs.take k).foldl kSub (kIter subs j (List.range n)) = G at *
              have d0 := HI3.out.cell (casts_get r0)
              have d1 := HI3.out.cell (casts_get r1)
              have hlt : g < wr.heap.size := (HI3.out.lt _ rfl).2
              have HU : Hid (kSub G (lo, hi') = (G.set lo (min (G.getD lo 0) (G.getD hi' 0))).set hi' (min (G.getD lo 0) (G.getD hi' 0))) := by show _ = _; simp [kSub]
              clear hup t0 t1 r0 r1 hG hp
              generalize G.getD lo 0 = x0 at *
              generalize G.getD hi' 0 = x1 at *
              have HC : Hid (∀ w, Calls Try.prog 77 #[.int .i64 x0, .int .i64 x1] w fun e w' => e = .returned (.int .i64 ((min x0 x1 : Nat) : Int)) ∧ w = w') := fun w => by
                have := specMin x0 x1 w
                rw [show min (x0 : Int) (x1 : Int) = ((min x0 x1 : Nat) : Int) by omega] at this
                exact this
              have hln : lo < (casts G).length := by rw [casts_len, HL.out]; omega
              have hln' : hi' < ((casts G).set lo ((min x0 x1 : Nat) : Int)).length := by rw [List.length_set, casts_len, HL.out]; omega
              have HLN := Lib.hid hln
              have HLN' := Lib.hid hln'
              clear hln hln'
              generalize min x0 x1 = mn at *
              have f0 := HI3.out.frozen lo
              have f1 := HI3.out.frozen hi'
              go_wp2_with fail
              go_quiet (fail)
              go_wp2_with fail
              replace HI3 : Hid (Ints (wr.drewN nq) W.heap.size (.slice (some ⟨g, 0, none⟩) n cap) (casts G)) := HI3
              replace d0 : (wr.drewN nq).cell? ⟨g, lo, none⟩ = some (.int .i64 x0) := d0
              replace d1 : (wr.drewN nq).cell? ⟨g, hi', none⟩ = some (.int .i64 x1) := d1
              replace f0 : (wr.drewN nq).frozen? ⟨g, lo, none⟩ = false := f0
              replace f1 : (wr.drewN nq).frozen? ⟨g, hi', none⟩ = false := f1
              replace hb := below_drewN hb nq
              generalize wr.drewN nq = wq at HI3 d0 d1 f0 f1 hb ⊢
              go_quiet (first | (go_at_call 77; exact quietC (fun n => HC.out _) _))
              go_wp2
              go_roundw
              case rel =>
                refine ⟨k + 1, by omega, by go_num, ?_, ((below_drewN hb _).setCell (p := ⟨g, lo, none⟩) hg1 _).setCell (p := ⟨g, hi', none⟩) hg1 _⟩
                rw [HST.out, HU.out, casts_set, casts_set]
                have h1 : Ints _ _ _ _ := Ints.set (w := wq.drewN nq) HI3.out HLN.out (mn : Int)
                exact h1.set HLN'.out _
              case measure => simp [intOf]; omega
            · have HT : Hid (subs.take k = subs) := List.take_of_length_le (by have := HM.out; omega)
              go_wp2
              go_roundw
              case rel => exact ⟨j + 1, by omega, by go_num, by have := HI3.out; rw [HT.out] at this; exact this, hb⟩
              case measure => simp [intOf]; omega
        · obtain rfl : n = j := by omega
          have HI4 := Lib.hid hI
          clear hI
          go_wp2
          go_ret
          exact ⟨_, rfl, by rw [HF.out]; exact HI4.out.base_le hbW.size, hbW.trans (hb.mono hbW.size)⟩
end Go.Proofs.Ytlhbdhdaecchoaa
