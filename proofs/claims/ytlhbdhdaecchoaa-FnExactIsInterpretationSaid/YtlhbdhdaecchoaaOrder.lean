/-
  The order of valid sorts: the program's newOrder (walked).
-/
import Derived.Test.YtlhbdhdaecchoaaKinds
import Derived.Test.YtlhbdhdaecchoaaList
import Derived.Test.YtlhbdhdaecchoaaRegion
import Derived.Deep.DeepCutAuto
set_option linter.unusedSimpArgs false
set_option linter.unusedVariables false
namespace Go.Proofs.Ytlhbdhdaecchoaa
open Go.RowKit

theorem make_ints (n : Nat) (hn : n ≤ 1048576) (w : World) : (Instr.makeSlice 59 (.int .i64 n) (.int .i64 n)).run Try.prog w = .ok (.slice (some ⟨w.heap.size, 0, none⟩) n n) (w.alloc (.cells (madeCells #[Value.int .i64 0] n) 3)) := by
  obtain ⟨i0, hi, hz0, hz1, hz2⟩ := info_parts info_Int
  have := run_make (P := Try.prog) w 59 3 i0 _ Try.underlying59 hi hz0 .i64 .i64 (n : Int) (n : Int) (by omega) (by omega) (by rw [hz2]; omega) (by omega)
  rw [this, hz1]
  simp [Value.cells]
theorem info_order : (Try.prog.info? 96).map (fun i => (i.zero, i.size, i.bytes)) = some (some (.agg #[.slice none 0 0, .slice none 0 0, .slice none 0 0]), 3, 72) := by kernel_rfl
set_option maxHeartbeats 2000000 in
set_option maxRecDepth 100000 in
theorem implNewOrder_not (s : Srt) (S : Nat → Prop) (us : List Value) (w : World) (hok : okSrt s) (hv : RepVals w S (encSrt s) us) (hs : ¬ SortsOk s) :
    Calls Try.prog 52 #[.agg us.toArray] w fun e w' => e = .returned (.tuple #[.agg #[.slice none 0 0, .slice none 0 0, .slice none 0 0], .bool false]) ∧ Below w.heap.size w w' := by
  obtain ⟨names, subs⟩ := s
  have hv0 := hv
  simp only [encSrt] at hv
  obtain ⟨v0, v1, rfl, e0, e1⟩ := repVals_Sorts hv
  obtain ⟨A0, cap0, rfl, hc0, hm0⟩ := e0.shape
  obtain ⟨A1, cap1, rfl, hc1, hm1⟩ := e1.shape
  obtain ⟨ic, hci, _, hcs, _⟩ := info_parts info_Sub'
  obtain ⟨io, hoi, _, hos, _⟩ := info_parts info_order
  have HOK := Lib.hid hok
  have HV0 := Lib.hid hv0
  have E1 := Lib.hid e1
  clear hv hv0 e0 e1 hok
  generalize hN : names.length = n at *
  generalize hM : subs.length = m at *
  have HN := Lib.hid hN
  have HM := Lib.hid hM
  clear hM hN
  unfold maxLen at hm0 hm1
  have HS := Lib.hid (implIsSorts ⟨names, subs⟩ S [.slice A0 n cap0, .slice A1 m cap1])
  rw [isSorts_false hs] at HS
  clear hs
  go_enter Try.func52, Try.ntmps52
  go_wp2_with fail
  generalize hW : (w.alloc _).alloc _ = W
  have hbW : Below w.heap.size w W := by rw [← hW]; exact ((Below.refl _ _).alloc (Nat.le_refl _) _).alloc (by simp) _
  have hrow : W.heap[w.heap.size + 1]? = some (.cells #[.slice none 0 0, .slice none 0 0, .slice none 0 0] 96 (0, 0)) := by rw [← hW]; have := heap_alloc_new (w.alloc (.cells #[.slice A0 n cap0, .slice A1 m cap1] 37)) (.cells #[.slice none 0 0, .slice none 0 0, .slice none 0 0] 96); simpa using this
  have z1 : w.heap.size + 1 < W.heap.size := by rw [← hW]; simp
  clear hW
  refine (HS.out W HOK.out (HV0.out.below hbW)).mono ?_
  rintro e w2 ⟨rfl, hb2⟩
  have HR := Lib.hid ((hb2.block _ z1).trans hrow)
  clear hrow
  go_wp2_with (refine wpList_store_put rfl 96 _ _ rfl (w.heap.size + 1) 0 rfl [.slice none 0 0, .slice none 0 0, .slice none 0 0] rfl io hoi hos 96 _ HR.out (by simp) (by simp [Value.oneCell']) ?_; intro w3 hput)
  have c0 := hput.new 0 _ rfl
  have c1 := hput.new 1 _ rfl
  have c2 := hput.new 2 _ rfl
  simp only [Nat.zero_add] at c0 c1 c2
  refine bodyPost_ret (v := .tuple #[.agg #[.slice none 0 0, .slice none 0 0, .slice none 0 0], .bool false]) (by simp [results, Try.results52, go_sem, c0, c1, c2]) rfl ⟨rfl, ?_⟩
  exact (hbW.trans (hb2.mono hbW.size)).trans ⟨hput.os, hput.tape, hput.output, by have := hput.size; omega, fun x hx => hput.other x (by omega)⟩


/-! The sorts below each sort, as the program gathers them. -/
def downIn (i : Nat) (l : List Nat) (ks : List Nat) : List Nat := ks.foldl (fun l k => l.set k (l.getD k 0 ||| 2 ^ i)) l
def downs (u : List Nat) : Nat → List Nat → List Nat
  | 0, l => l
  | m + 1, l => downIn m (downs u m l) (listOf (u.getD m 0))
def down (s : Srt) : List Nat := downs (up s) s.names.length (List.replicate s.names.length 0)
theorem UpOk.or {n : Nat} {l : List Nat} (h : UpOk n l) {k i : Nat} (hk : k < n) (hi : i < n) : UpOk n (l.set k (l.getD k 0 ||| 2 ^ i)) := by
  refine ⟨by rw [List.length_set]; exact h.1, fun x hx => ?_⟩
  rcases List.mem_or_eq_of_mem_set hx with hx | rfl
  · exact h.2 x hx
  · exact Nat.or_lt_two_pow (h.get hk).2 (Nat.pow_lt_pow_right (by omega) hi)
theorem UpOk.downIn {n i : Nat} (hi : i < n) : ∀ {ks l : List Nat}, UpOk n l → (∀ k ∈ ks, k < n) → UpOk n (downIn i l ks)
  | [], l, h, _ => h
  | k :: ks, l, h, hk => UpOk.downIn (ks := ks) hi (h.or (hk k (by simp)) hi) (fun q hq => hk q (by simp [hq]))
theorem listOf_lt {a n : Nat} (h : a < 2 ^ n) : ∀ k ∈ listOf a, k < n := by
  intro k hk
  simp only [listOf, bitsTo, List.mem_filter, List.mem_range] at hk
  refine Decidable.byContradiction fun hn => ?_
  have := Nat.testBit_lt_two_pow (Nat.lt_of_lt_of_le h (Nat.pow_le_pow_right (by omega) (by omega : n ≤ k)))
  rw [this] at hk
  simp at hk
theorem UpOk.downs {n : Nat} {u : List Nat} (hu : UpOk n u) : ∀ (m : Nat) {l : List Nat}, m ≤ n → UpOk n l → UpOk n (downs u m l)
  | 0, l, _, h => h
  | m + 1, l, hm, h => (UpOk.downs hu m (by omega) h).downIn (by omega) (listOf_lt (hu.get (by omega)).2)
theorem UpOk.zeros (n : Nat) : UpOk n (List.replicate n 0) := ⟨by simp, fun x hx => by rw [(List.mem_replicate.1 hx).2]; exact Nat.two_pow_pos n⟩
theorem down_ok {s : Srt} (h : SubsIn s.names.length s.subs) : UpOk s.names.length (down s) := UpOk.downs (up_ok h) _ (Nat.le_refl _) (UpOk.zeros _)
/-- The kinds while the first k of n are laid. -/
def kFill (n k : Nat) : List Nat := List.range k ++ List.replicate (n - k) 0
theorem kFill_len {n k : Nat} (h : k ≤ n) : (kFill n k).length = n := by simp [kFill]; omega
theorem kFill_set {n k : Nat} (h : k < n) : (kFill n k).set k k = kFill n (k + 1) := by
  unfold kFill
  rw [List.set_append_right _ _ (by simp), List.length_range, Nat.sub_self, List.range_succ]
  obtain ⟨m, hm⟩ : ∃ m, n - k = m + 1 := ⟨n - k - 1, by omega⟩
  rw [hm, show n - (k + 1) = m by omega]
  simp [List.replicate_succ]
theorem kFill_end (n : Nat) : kFill n n = List.range n := by simp [kFill]

/-- The three rows of an order, in blocks apart, and the variable that holds them. -/
structure Trio (w : World) (B g ga gb gk ca cb ck n : Nat) (la lb lk : List Nat) : Prop where
  row : w.heap[g]? = some (.cells #[.slice (some ⟨ga, 0, none⟩) n ca, .slice (some ⟨gb, 0, none⟩) n cb, .slice (some ⟨gk, 0, none⟩) n ck] 96 (0, 0))
  ia : Ints w B (.slice (some ⟨ga, 0, none⟩) n ca) (casts la)
  ib : Ints w B (.slice (some ⟨gb, 0, none⟩) n cb) (casts lb)
  ik : Ints w B (.slice (some ⟨gk, 0, none⟩) n ck) (casts lk)
  d1 : ga ≠ gb
  d2 : ga ≠ gk
  d3 : gb ≠ gk
  e1 : ga ≠ g
  e2 : gb ≠ g
  e3 : gk ≠ g
  hg : B ≤ g
section
variable {w w' : World} {B g ga gb gk ca cb ck n : Nat} {la lb lk : List Nat}
theorem Trio.cells (h : Trio w B g ga gb gk ca cb ck n la lb lk) : w.cell? ⟨g, 0, none⟩ = some (.slice (some ⟨ga, 0, none⟩) n ca) ∧ w.cell? ⟨g, 1, none⟩ = some (.slice (some ⟨gb, 0, none⟩) n cb) ∧ w.cell? ⟨g, 2, none⟩ = some (.slice (some ⟨gk, 0, none⟩) n ck) := by
  refine ⟨?_, ?_, ?_⟩ <;> rw [cell_of_row w g _ _ _ _ h.row] <;> rfl
theorem Trio.below (h : Trio w B g ga gb gk ca cb ck n la lb lk) (hb : Below w.heap.size w w') : Trio w' B g ga gb gk ca cb ck n la lb lk :=
  { h with row := by rw [hb.block g (Array.getElem?_eq_some_iff.1 h.row).1]; exact h.row, ia := h.ia.below hb, ib := h.ib.below hb, ik := h.ik.below hb }
theorem Ints.other {v : Value} {l : List Int} {b : Nat} (h : Ints w B v l) (p : Nat) (x : Value) (hv : v.ownBlock = some b) (hp : b ≠ p) (i : Nat) : Ints (w.setCell ⟨p, i, none⟩ x) B v l := by
  refine World.ownsRow.kept (row := some p) h ⟨rfl, rfl, rfl, by simp [World.setCell], fun k hk hne => ?_⟩ ?_
  · exact Below.heap_setCell _ _ _ _ (fun e => hne (by rw [e]))
  · rw [hv]; simp; omega
theorem Ints.put {v : Value} {l : List Int} {b off : Nat} {us : List Value} (h : Ints w B v l) (hp : Put w w' g off us) (hv : v.ownBlock = some b) (hne : b ≠ g) : Ints w' B v l := by
  refine World.ownsRow.kept (row := some g) h ⟨hp.os, hp.tape, hp.output, by rw [hp.size]; exact Nat.le_refl _, fun k hk hne' => hp.other k (fun e => hne' (by rw [e]))⟩ ?_
  rw [hv]; simp; omega
theorem Trio.setB (h : Trio w B g ga gb gk ca cb ck n la lb lk) {i : Nat} (hi : i < lb.length) (x : Nat) : Trio (w.setCell ⟨gb, i, none⟩ (.int .i64 x)) B g ga gb gk ca cb ck n la (lb.set i x) lk :=
  { h with row := by rw [Below.heap_setCell _ _ _ _ (fun e => h.e2 e.symm)]; exact h.row, ia := h.ia.other gb _ rfl h.d1 i, ib := by rw [casts_set]; exact h.ib.set (by rw [casts_len]; exact hi) _, ik := h.ik.other gb _ rfl (fun e => h.d3 e.symm) i }
theorem Trio.setK (h : Trio w B g ga gb gk ca cb ck n la lb lk) {i : Nat} (hi : i < lk.length) (x : Nat) : Trio (w.setCell ⟨gk, i, none⟩ (.int .i64 x)) B g ga gb gk ca cb ck n la lb (lk.set i x) :=
  { h with row := by rw [Below.heap_setCell _ _ _ _ (fun e => h.e3 e.symm)]; exact h.row, ia := h.ia.other gk _ rfl h.d2 i, ib := h.ib.other gk _ rfl h.d3 i, ik := by rw [casts_set]; exact h.ik.set (by rw [casts_len]; exact hi) _ }
end

set_option maxHeartbeats 2000000 in
set_option maxRecDepth 100000 in
theorem implNewOrder_ok (s : Srt) (S : Nat → Prop) (us : List Value) (w : World) (hok : okSrt s) (hv : RepVals w S (encSrt s) us) (hs : SortsOk s) :
    Calls Try.prog 52 #[.agg us.toArray] w fun e w' => ∃ va vb vk, e = .returned (.tuple #[.agg #[va, vb, vk], .bool true]) ∧ Ints w' w.heap.size va (casts (up s)) ∧ Ints w' w.heap.size vb (casts (down s)) ∧ Ints w' w.heap.size vk (casts (kinds s)) ∧ Below w.heap.size w w' := by
  have hin := SortsOk.subsIn hs.subs
  obtain ⟨names, subs⟩ := s
  have hv0 := hv
  simp only [encSrt] at hv
  obtain ⟨v0, v1, rfl, e0, e1⟩ := repVals_Sorts hv
  obtain ⟨A0, cap0, rfl, hc0, hm0⟩ := e0.shape
  obtain ⟨A1, cap1, rfl, hc1, hm1⟩ := e1.shape
  obtain ⟨ic, hci, _, hcs, _⟩ := info_parts info_Sub'
  obtain ⟨io, hoi, _, hos, _⟩ := info_parts info_order
  have HOK := Lib.hid hok
  have HV0 := Lib.hid hv0
  have E1 := Lib.hid e1
  have HIN := Lib.hid hin
  clear hv hv0 e0 e1 hok hin
  generalize hN : names.length = n at *
  generalize hM : subs.length = m at *
  have HN := Lib.hid hN
  have HM := Lib.hid hM
  clear hM hN
  unfold maxLen at hm0 hm1
  have HS := Lib.hid (implIsSorts ⟨names, subs⟩ S [.slice A0 n cap0, .slice A1 m cap1])
  rw [isSorts_true hs] at HS
  have HSB := Lib.hid hs.subs
  have hn1 : 1 ≤ n := by have := hs.n1; have := HN.out; simp only at *; omega
  have hn8 : n ≤ 8 := by have := hs.n8; have := HN.out; simp only at *; omega
  have HAB := Lib.hid (fun W h => implSortsAbove ⟨names, subs⟩ S [.slice A0 n cap0, .slice A1 m cap1] W HOK.out h hs.n1 hs.n8 (SortsOk.subsIn hs.subs))
  clear hs
  go_enter Try.func52, Try.ntmps52
  go_wp2_with fail
  generalize hW : (w.alloc _).alloc _ = W
  have hbW : Below w.heap.size w W := by rw [← hW]; exact ((Below.refl _ _).alloc (Nat.le_refl _) _).alloc (by simp) _
  have hrow : W.heap[w.heap.size + 1]? = some (.cells #[.slice none 0 0, .slice none 0 0, .slice none 0 0] 96 (0, 0)) := by rw [← hW]; have := heap_alloc_new (w.alloc (.cells #[.slice A0 n cap0, .slice A1 m cap1] 37)) (.cells #[.slice none 0 0, .slice none 0 0, .slice none 0 0] 96); simpa using this
  have z1 : w.heap.size + 1 < W.heap.size := by rw [← hW]; simp
  have p0 : W.cell? ⟨w.heap.size, 0, none⟩ = some (.slice A0 n cap0) := by rw [← hW]; simp
  have p1 : W.cell? ⟨w.heap.size, 1, none⟩ = some (.slice A1 m cap1) := by rw [← hW]; simp
  clear hW
  refine (HS.out W HOK.out (HV0.out.below hbW)).mono ?_
  rintro e w2 ⟨rfl, hb2⟩
  have HR := Lib.hid ((hb2.block _ z1).trans hrow)
  have q0 := keepB hb2 p0
  have q1 := keepB hb2 p1
  have hmk := make_ints n (by omega)
  have hw2 : Below w.heap.size w w2 := hbW.trans (hb2.mono hbW.size)
  have z2 : w.heap.size + 1 < w2.heap.size := by have := hb2.size; omega
  have V2 := Lib.hid (HV0.out.below hw2)
  clear hrow p0 p1 hb2 z1 hbW HV0 HS
  go_upto_region 4 with fail
  go_cut [5] (fun s5 wx => ∃ g ga gb gk ca cb ck, s5 = .pointer (some ⟨g, 0, none⟩) ∧ Trio wx w2.heap.size g ga gb gk ca cb ck n (up ⟨names, subs⟩) (List.replicate n 0) (List.replicate n 0) ∧ Below w2.heap.size w2 wx)
  case first =>
    refine wp_region_says 8 [
      fun v _ _ _ _ => v = .agg #[.slice A0 n cap0, .slice A1 m cap1],
      fun v _ lo hi w' => Ints w' lo v (casts (up ⟨names, subs⟩)) ∧ ∀ b, v.ownBlock = some b → b < hi,
      fun v _ _ _ _ => v = .int .i64 n,
      fun v _ lo hi w' => v = .slice (some ⟨lo, 0, none⟩) n n ∧ lo < hi ∧ Ints w' lo v (casts (List.replicate n 0)),
      fun v _ _ _ _ => v = .int .i64 n,
      fun v _ lo hi w' => v = .slice (some ⟨lo, 0, none⟩) n n ∧ lo < hi ∧ Ints w' lo v (casts (List.replicate n 0)),
      fun v ds _ _ _ => v = .agg ds.toArray,
      fun v _ lo hi w' => v = .pointer (some ⟨lo, 0, none⟩) ∧ lo < hi ∧ w'.heap[lo]? = some (.cells #[.slice none 0 0, .slice none 0 0, .slice none 0 0] 96 (0, 0))]
      (fun w' => Below w2.heap.size w2 w') (by kernel_rfl) (by kernel_rfl) rfl (by rfl) (belowD _) ?_ ?_ ?_
    · intro g hg
      simp only [List.mem_cons, List.not_mem_nil, or_false] at hg
      rcases hg with rfl | rfl | rfl | rfl | rfl | rfl | rfl | rfl <;> intro v ds lo hi wa wb hb h
      · exact h
      · exact ⟨h.1.below hb, h.2⟩
      · exact h
      · exact ⟨h.1, h.2.1, h.2.2.below hb⟩
      · exact h
      · exact ⟨h.1, h.2.1, h.2.2.below hb⟩
      · exact h
      · exact ⟨h.1, h.2.1, by rw [hb.block _ (Array.getElem?_eq_some_iff.1 h.2.2).1]; exact h.2.2⟩
    · simp only [List.take_succ_cons, List.take_zero, StepsD, and_true]
      refine ⟨?_, ?_, ?_, ?_, ?_, ?_, ?_, ?_⟩
      all_goals (intro a wx hC hout hdep)
      · have s1 : a.eval (.tmp 1) = .pointer (some ⟨w.heap.size, 0, none⟩) := hout 1 (out_of (by kernel_rfl))
        clear hout hdep
        have r0 := keepB hC q0
        have r1 := keepB hC q1
        unfold gives
        simp only [execOp, s1]
        go_simp
        exact Below.refl _ _
      · obtain ⟨_, _, s20⟩ := hdep 0 _ 20 _ (by omega) rfl rfl (by decide) rfl
        have s20 : a.eval (.tmp 20) = .agg #[.slice A0 n cap0, .slice A1 m cap1] := s20
        clear hout hdep
        unfold gives
        simp only [execOp, s20]
        go_simp
        refine (HAB.out wx (by repeat' (with_reducible (first | exact V2.out | refine RepVals.alloc _ ?_ | refine RepVals.drew ?_ | refine RepVals.drewN ?_ | refine RepVals.later (by assumption) ?_)))).mono ?_
        rintro e w3 ⟨va, rfl, hI, hb3⟩
        exact ⟨va, rfl, hC.trans (hb3.mono hC.size), hb3, hI, fun b hb => (hI.lt b hb).2⟩
      · have s4 : a.eval (.tmp 4) = .int .i64 n := hout 4 (out_of (by kernel_rfl))
        clear hout hdep
        unfold gives
        simp only [execOp, s4]
        go_simp
        exact Below.refl _ _
      · obtain ⟨_, _, s22⟩ := hdep 2 _ 22 _ (by omega) rfl rfl (by decide) rfl
        have s22 : a.eval (.tmp 22) = .int .i64 n := s22
        clear hout hdep
        unfold gives
        simp only [execOp, s22]
        go_simp
        exact ⟨hC.trans ((belowA wx _).mono hC.size), belowA _ _, Ints.made wx n (by unfold maxLen; omega)⟩
      · have s4 : a.eval (.tmp 4) = .int .i64 n := hout 4 (out_of (by kernel_rfl))
        clear hout hdep
        unfold gives
        simp only [execOp, s4]
        go_simp
        exact Below.refl _ _
      · obtain ⟨_, _, s22⟩ := hdep 4 _ 24 _ (by omega) rfl rfl (by decide) rfl
        have s22 : a.eval (.tmp 24) = .int .i64 n := s22
        clear hout hdep
        unfold gives
        simp only [execOp, s22]
        go_simp
        exact ⟨hC.trans ((belowA wx _).mono hC.size), belowA _ _, Ints.made wx n (by unfold maxLen; omega)⟩
      · obtain ⟨_, _, h21, _⟩ := hdep 1 _ 21 _ (by omega) rfl rfl (by decide) rfl
        obtain ⟨_, _, h23, _⟩ := hdep 3 _ 23 _ (by omega) rfl rfl (by decide) rfl
        obtain ⟨_, _, h25, _⟩ := hdep 5 _ 25 _ (by omega) rfl rfl (by decide) rfl
        obtain ⟨A, cap, e21, _⟩ := h21.form
        have e21 : a.eval (.tmp 21) = _ := e21
        have e23 : a.eval (.tmp 23) = _ := h23
        have e25 : a.eval (.tmp 25) = _ := h25
        clear hout hdep h21 h23 h25
        change gives _ _ _ _ (fun v w' => _ ∧ _ ∧ v = .agg #[a.eval (.tmp 21), a.eval (.tmp 23), a.eval (.tmp 25)])
        unfold gives
        simp only [Act.eval, Array.getD_eq_getD_getElem?] at e21 e23 e25
        go_simp
        exact Below.refl _ _
      · clear hout hdep
        unfold gives
        simp only [execOp]
        go_simp
        exact ⟨hC.trans ((belowA wx _).mono hC.size), belowA _ _, (Array.getElem?_eq_some_iff.1 (heap_alloc_new wx _)).2⟩
    · intro f wx lo hi hC hb hap _ hd
      simp only [List.take_succ_cons, List.take_zero, DoneAll, Option.getD_some, Nat.zero_add, Nat.reduceAdd] at hd
      obtain ⟨-, ⟨⟨h21, k21⟩, l21, m21, n21⟩, -, ⟨⟨h23, k23, j23⟩, l23, m23, n23⟩, -, ⟨⟨h25, k25, j25⟩, l25, m25, n25⟩, ⟨h26, -⟩, ⟨⟨h5, k5, j5⟩, l5, m5, n5⟩, -⟩ := hd
      have h21 : Ints wx (lo 1) (f 21) (casts (up ⟨names, subs⟩)) := h21
      have k21 : ∀ b, (f 21).ownBlock = some b → b < hi 1 := k21
      have h23 : f 23 = .slice (some ⟨lo 3, 0, none⟩) n n := h23
      have h25 : f 25 = .slice (some ⟨lo 5, 0, none⟩) n n := h25
      have h26 : f 26 = .agg #[f 21, f 23, f 25] := h26
      have h5 : f 5 = .pointer (some ⟨lo 7, 0, none⟩) := h5
      obtain ⟨Aa, ca, e21, hcc, hmm, hA⟩ := h21.form
      have hlu : (casts (up ⟨names, subs⟩)).length = n := by rw [casts_len, (up_ok (s := ⟨names, subs⟩) (by rw [HN.out]; exact HIN.out)).1]; exact HN.out
      rw [hlu] at e21 hA
      obtain ⟨ga, rfl, hga1, hga2⟩ := hA (by omega)
      rw [e21] at h21 k21
      rw [h23] at j23
      rw [h25] at j25
      have hga3 := k21 ga rfl
      have a13 := hap 1 3 (by omega) (by omega) (by omega)
      have a15 := hap 1 5 (by omega) (by omega) (by omega)
      have a17 := hap 1 7 (by omega) (by omega) (by omega)
      have a35 := hap 3 5 (by omega) (by omega) (by omega)
      have a37 := hap 3 7 (by omega) (by omega) (by omega)
      have a57 := hap 5 7 (by omega) (by omega) (by omega)
      have J5 := Lib.hid j5
      have J23 := Lib.hid j23
      have J25 := Lib.hid j25
      have H21 := Lib.hid h21
      clear hap hlu k21 h21 j23 j25 j5
      simp only [dstsOf, List.take_succ_cons, List.take_zero, List.filterMap_cons, List.filterMap_nil, List.map_cons, List.map_nil, List.drop_succ_cons, List.drop_zero]
      rw [e21, h23, h25, h26, h5, e21, h23, h25]
      clear e21 h23 h25 h26 h5
      simp only [putAll]
      go_simp
      go_wp2_with (refine wpList_store_row rfl 96 _ _ rfl (lo 7) rfl [.slice (some ⟨ga, 0, none⟩) n ca, .slice (some ⟨lo 3, 0, none⟩) n n, .slice (some ⟨lo 5, 0, none⟩) n n] rfl io hoi hos 96 _ J5.out rfl (by simp [Value.oneCell']) ?_; intro w3 hput hrow)
      go_meet
      case rel =>
        exact ⟨lo 7, ga, lo 3, lo 5, ca, n, n, rfl, ⟨hrow, (H21.out.put hput rfl (show ga ≠ lo 7 by omega)).base_le l21, (J23.out.put hput rfl (show lo 3 ≠ lo 7 by omega)).base_le l23, (J25.out.put hput rfl (show lo 5 ≠ lo 7 by omega)).base_le l25, by omega, by omega, by omega, by omega, by omega, by omega, l5⟩, hC.trans (hput.below l5)⟩
  case rest =>
    obtain ⟨g, ga, gb, gk, ca, cb, ck, rfl, hT, hbc⟩ := hcut
    obtain ⟨c0, c1, c2⟩ := hT.cells
    have HT := Lib.hid hT
    have HU : Hid (UpOk n (up ⟨names, subs⟩)) := by have := up_ok (s := ⟨names, subs⟩) (by rw [HN.out]; exact HIN.out); rw [HN.out] at this; exact this
    have hgB := hT.hg
    have hbc2 := hbc
    clear hT hbc
    go_wp2
    clear c0 c1 c2
    obtain ⟨wc0, rfl⟩ : ∃ x : World, x = wc := ⟨_, rfl⟩
    go_loopw [30] (fun i wr => ∃ k : Nat, k ≤ n ∧ i = .int .i64 k ∧ Trio wr w2.heap.size g ga gb gk ca cb ck n (up ⟨names, subs⟩) (downs (up ⟨names, subs⟩) k (List.replicate n 0)) (kFill n k) ∧ Below w2.heap.size w2 wr) (fun i _ => n - (intOf i).toNat)
    case atStart => exact ⟨0, Nat.zero_le _, rfl, by simpa [downs, kFill] using HT.out, hbc2⟩
    case round =>
      obtain ⟨k, hk, rfl, hT, hb⟩ := hrel
      obtain ⟨c0, c1, c2⟩ := hT.cells
      have HT1 := Lib.hid hT
      have hb1 := hb
      clear hT hb
      by_cases hkn : k < n
      · obtain ⟨r0, t0⟩ := HU.out.get hkn
        have d0 := HT1.out.ia.cell (casts_get r0)
        have hb256 : 2 ^ n ≤ 2 ^ 8 := Nat.pow_le_pow_right (by omega) hn8
        have hu : (up ⟨names, subs⟩).getD k 0 < 65536 := by omega
        have HKS := Lib.hid (listOf_lt t0)
        have HDS : Hid (downs (up ⟨names, subs⟩) (k + 1) (List.replicate n 0) = downIn k (downs (up ⟨names, subs⟩) k (List.replicate n 0)) (listOf ((up ⟨names, subs⟩).getD k 0))) := rfl
        have HDO := Lib.hid (UpOk.downs HU.out k hk (UpOk.zeros n))
        have hgb := (HT1.out.ib.lt _ rfl).2
        have hgw : g < wr.heap.size := (Array.getElem?_eq_some_iff.1 HT1.out.row).1
        clear r0 t0 hb256
        generalize hD : downs (up ⟨names, subs⟩) k (List.replicate n 0) = D at *
        clear hD
        generalize (up ⟨names, subs⟩).getD k 0 = u at *
        have hlen : (listOf u).length ≤ 16 := bitsTo_len u 16
        have HL := Lib.hid (fun w => implListOf u hu w)
        clear hu
        generalize listOf u = ks at *
        go_wp2_with (go_at_call 70; refine (HL.out _).mono ?_; rintro e wl ⟨v, rfl, hI, hbl⟩; obtain ⟨A, cap, rfl, hcc, hmm, hA⟩ := hI.form)
        rw [casts_len] at hcc hA
        rw [casts_len]
        unfold maxLen at hmm
        have HI := Lib.hid hI
        have hwl := hbl.size
        have HT2 := Lib.hid (HT1.out.below hbl)
        have hb2 : Below w2.heap.size w2 wl := hb1.trans (hbl.mono hb1.size)
        have HA := Lib.hid hA
        have zwr := hb1.size
        clear hI hbl c0 c1 c2 d0 HT1 hA hb1
        obtain ⟨wo, rfl⟩ : ∃ x : World, x = wr := ⟨_, rfl⟩
        go_loopw [38] (fun i wr => ∃ j : Nat, j ≤ ks.length ∧ i = .int .i64 j ∧ Trio wr w2.heap.size g ga gb gk ca cb ck n (up ⟨names, subs⟩) (downIn k D (ks.take j)) (kFill n k) ∧ Ints wr wo.heap.size (.slice A ks.length cap) (casts ks) ∧ Below w2.heap.size w2 wr) (fun i _ => ks.length - (intOf i).toNat)
        case atStart => exact ⟨0, Nat.zero_le _, rfl, by simpa [downIn] using HT2.out, by have := HI.out; rw [casts_len] at this; exact this, hb2⟩
        case round =>
          obtain ⟨j, hj, rfl, hT, hI, hb⟩ := hrel
          obtain ⟨c0, c1, c2⟩ := hT.cells
          have HT3 := Lib.hid hT
          have HI3 := Lib.hid hI
          clear hT hI
          by_cases hjn : j < ks.length
          · obtain ⟨gl, rfl, hg1, hg2⟩ := HA.out (by omega)
            have hx : ks[j]? = some ks[j] := List.getElem?_eq_getElem hjn
            have hxn := HKS.out _ (List.getElem_mem hjn)
            have dx := HI3.out.cell (casts_get hx)
            have HDJ := Lib.hid (HDO.out.downIn hkn (fun q hq => HKS.out q (List.mem_of_mem_take hq)) : UpOk n (downIn k D (ks.take j)))
            obtain ⟨r1, t1⟩ := HDJ.out.get hxn
            have dy := HT3.out.ib.cell (casts_get r1)
            have fy := HT3.out.ib.frozen ks[j]
            have HST : Hid (downIn k D (ks.take (j + 1)) = (downIn k D (ks.take j)).set ks[j] ((downIn k D (ks.take j)).getD ks[j] 0 ||| 2 ^ k)) := by show _ = _; exact foldl_take (f := fun (l : List Nat) (k' : Nat) => l.set k' (l.getD k' 0 ||| 2 ^ k)) hx D
            have hb256 : 2 ^ n ≤ 2 ^ 8 := Nat.pow_le_pow_right (by omega) hn8
            have HX : Hid ((downIn k D (ks.take j)).getD ks[j] 0 < 4611686018427387904) := Lib.hid (by omega)
            clear r1 t1 hb256 hx
            generalize downIn k D (ks.take j) = E at *
            generalize ks[j] = x at *
            generalize E.getD x 0 = y at *
            go_wp2_with fail
            (refine wp_region_still_tail 12 (by kernel_rfl) (by kernel_rfl) ?_
             simp only [List.take_succ_cons, List.take_zero, List.drop_succ_cons, List.drop_zero]
             change wpStill _ _ (World.drew _) _ _ _
             repeat still_step
             refine wpStill_nil ?_
             change wpList _ _ _ _ _ (World.drew _))
            go_wp2
            go_roundw
            case rel =>
              have hxl : x < E.length := by rw [HDJ.out.1]; exact hxn
              have hlt := (HI3.out.lt gl rfl).1
              refine ⟨j + 1, by omega, by go_num, ?_, ?_, ?_⟩
              · rw [HST.out, shl_one (by omega), bits_or HX.out (pow_lt62 (by omega))]
                exact (HT3.out.below (belowD _)).setB hxl _
              · exact Ints.other (HI3.out.drew) gb _ rfl (show gl ≠ gb by omega) x
              · exact (below_drewN hb 1).setCell (p := ⟨gb, x, none⟩) (show w2.heap.size ≤ gb from (HT3.out.ib.lt gb rfl).1) _
            case measure => simp [intOf]; omega
          · obtain rfl : j = ks.length := by omega
            rw [List.take_of_length_le (Nat.le_refl _)] at HT3
            have dk : ∃ y : Int, wr.cell? ⟨gk, k, none⟩ = some (.int .i64 y) := by
              have : k < (casts (kFill n k)).length := by rw [casts_len, kFill_len hk]; exact hkn
              exact ⟨_, HT3.out.ik.cell (List.getElem?_eq_getElem this)⟩
            obtain ⟨y, dk⟩ := dk
            have fk := HT3.out.ik.frozen k
            go_wp2
            go_roundw
            case rel =>
              refine ⟨k + 1, by omega, by go_num, ?_, ?_⟩
              · rw [HDS.out, ← kFill_set hkn]
                exact HT3.out.setK (by rw [kFill_len hk]; exact hkn) k
              · exact hb.setCell (p := ⟨gk, k, none⟩) (show w2.heap.size ≤ gk from (HT3.out.ik.lt gk rfl).1) _
            case measure => simp [intOf]; omega
      · obtain rfl : n = k := by omega
        rw [kFill_end] at HT1
        have q2 := keepB (hb1.mono (Nat.le_refl _)) q1
        go_wp2
        clear c0 c1 c2 q2
        obtain ⟨wo, rfl⟩ : ∃ x : World, x = wr := ⟨_, rfl⟩
        go_loopw [62] (fun i wr => ∃ j : Nat, j ≤ n ∧ i = .int .i64 j ∧ Trio wr w2.heap.size g ga gb gk ca cb ck n (up ⟨names, subs⟩) (downs (up ⟨names, subs⟩) n (List.replicate n 0)) (kIter subs j (List.range n)) ∧ Below w2.heap.size w2 wr) (fun i _ => n - (intOf i).toNat)
        case atStart => exact ⟨0, Nat.zero_le _, rfl, HT1.out, hb1⟩
        case round =>
          obtain ⟨j, hj, rfl, hT, hb⟩ := hrel
          obtain ⟨c0, c1, c2⟩ := hT.cells
          have HT3 := Lib.hid hT
          clear hT
          by_cases hjn : j < n
          · have q2 := keepB hb q1
            go_wp2
            have hb2 := hb
            clear hb c0 c1 c2 q2
            obtain ⟨wp, rfl⟩ : ∃ x : World, x = wr := ⟨_, rfl⟩
            go_loopw [67] (fun i wr => ∃ k : Nat, k ≤ m ∧ i = .int .i64 k ∧ Trio wr w2.heap.size g ga gb gk ca cb ck n (up ⟨names, subs⟩) (downs (up ⟨names, subs⟩) n (List.replicate n 0)) ((subs.take k).foldl kSub (kIter subs j (List.range n))) ∧ Below w2.heap.size w2 wr) (fun i _ => m - (intOf i).toNat)
            case atStart => exact ⟨0, Nat.zero_le _, rfl, HT3.out, hb2⟩
            case round =>
              obtain ⟨k, hk, rfl, hT, hb⟩ := hrel
              obtain ⟨c0, c1, c2⟩ := hT.cells
              have HT4 := Lib.hid hT
              clear hT
              by_cases hkm : k < m
              · obtain ⟨p, hp⟩ : ∃ p, subs[k]? = some p := ⟨_, List.getElem?_eq_getElem (by have := HM.out; omega)⟩
                obtain ⟨b, off, rfl, hS, hbz, hrow⟩ := Rep.at okSubR HOK.out.2 (E1.out.below (hw2.trans (hb.mono hw2.size))) hp
                obtain ⟨g0, g1, g2, g3, g4⟩ := HSB.out p (List.mem_of_getElem? hp)
                rw [HN.out] at g1 g3
                obtain ⟨lo, hi'⟩ := p
                simp only [encSub, RepRow, and_true, fieldsOf, List.length_cons, List.length_nil, Nat.reduceAdd, Rep.lit_iff] at hrow
                obtain ⟨⟨_, e0, rfl⟩, ⟨_, e1, rfl⟩⟩ := hrow
                simp only at g0 g1 g2 g3 g4
                obtain ⟨lo, rfl⟩ := Int.eq_ofNat_of_zero_le g0
                obtain ⟨hi', rfl⟩ := Int.eq_ofNat_of_zero_le g2
                have hne : hi' ≠ lo := by omega
                clear g4
                have hup := (KOk.iter HIN.out j (KOk.start n)).foldl (HIN.out.take k)
                have HL := Lib.hid hup.1
                obtain ⟨r0, t0⟩ := hup.get (i := lo) (by omega)
                obtain ⟨r1, t1⟩ := hup.get (i := hi') (by omega)
                have HST := Lib.hid (foldl_take (f := kSub) hp (kIter subs j (List.range n)))
                generalize hG : (subs.take k).foldl kSub (kIter subs j (List.range n)) = G at *
                have d0 := HT4.out.ik.cell (casts_get r0)
                have d1 := HT4.out.ik.cell (casts_get r1)
                have f0 := HT4.out.ik.frozen lo
                have f1 := HT4.out.ik.frozen hi'
                have hlt : gk < wr.heap.size := (HT4.out.ik.lt _ rfl).2
                have hgw : g < wr.heap.size := (Array.getElem?_eq_some_iff.1 HT4.out.row).1
                have hkg := HT4.out.e3
                have HU2 : Hid (kSub G (lo, hi') = (G.set lo (min (G.getD lo 0) (G.getD hi' 0))).set hi' (min (G.getD lo 0) (G.getD hi' 0))) := by show _ = _; simp [kSub]
                clear hup t0 t1 r0 r1 hG hp
                generalize G.getD lo 0 = x0 at *
                generalize G.getD hi' 0 = x1 at *
                go_wp2_with (refine wpList_store_new rfl 110 _ _ rfl _ _ _ rfl _ rfl (by simp) [.int .i64 lo, .int .i64 hi'] rfl ic hci hcs rfl (by simp [Value.oneCell']) ?_)
                go_quiet (fail)
                have emin : (if x1 < x0 then (x1 : Int) else (x0 : Int)) = ((min x0 x1 : Nat) : Int) := by split <;> omega
                rw [emin]
                clear emin
                have y0 : ((wr.alloc (.cells #[.int .i64 lo, .int .i64 hi'] 110)).drewN nq).cell? ⟨wr.heap.size, 0, none⟩ = some (.int .i64 lo) := by simp
                have y1 : ((wr.alloc (.cells #[.int .i64 lo, .int .i64 hi'] 110)).drewN nq).cell? ⟨wr.heap.size, 1, none⟩ = some (.int .i64 hi') := by simp
                have HT5 := Lib.hid ((HT4.out.below (belowA _ (.cells #[.int .i64 lo, .int .i64 hi'] 110))).below (belowN _ nq))
                have hb5 := below_drewN (hb.alloc (by have := hb.size; omega) (.cells #[.int .i64 lo, .int .i64 hi'] 110)) nq
                have hgx : wr.heap.size ≠ gk := by omega
                have hgx2 : wr.heap.size ≠ g := by omega
                clear c0 c1 c2 d0 d1 f0 f1 HT4 hlt hgw hb e0 e1 hbz
                generalize (wr.alloc (.cells #[.int .i64 lo, .int .i64 hi'] 110)).drewN nq = wq at *
                generalize wr.heap.size = gx at *
                obtain ⟨_, _, c2⟩ := HT5.out.cells
                have d0 : ∃ y : Int, wq.cell? ⟨gk, lo, none⟩ = some (.int .i64 y) := ⟨_, HT5.out.ik.cell (List.getElem?_eq_getElem (by rw [casts_len, HL.out]; omega))⟩
                have d1 : ∃ y : Int, wq.cell? ⟨gk, hi', none⟩ = some (.int .i64 y) := ⟨_, HT5.out.ik.cell (List.getElem?_eq_getElem (by rw [casts_len, HL.out]; omega))⟩
                obtain ⟨_, d0⟩ := d0
                obtain ⟨_, d1⟩ := d1
                have f0 := HT5.out.ik.frozen lo
                have f1 := HT5.out.ik.frozen hi'
                have HKB := Lib.hid (HT5.out.ik.lt gk rfl).1
                generalize min x0 x1 = mn at *
                go_wp2
                go_roundw
                case rel =>
                  refine ⟨k + 1, by omega, by go_num, ?_, (hb5.setCell (p := ⟨gk, lo, none⟩) HKB.out _).setCell (p := ⟨gk, hi', none⟩) HKB.out _⟩
                  rw [HST.out, HU2.out]
                  exact (HT5.out.setK (by rw [HL.out]; omega) mn).setK (by rw [List.length_set, HL.out]; omega) mn
                case measure => simp [intOf]; omega
              · have HTK : Hid (subs.take k = subs) := List.take_of_length_le (by have := HM.out; omega)
                go_wp2
                go_roundw
                case rel => exact ⟨j + 1, by omega, by go_num, by have := HT4.out; rw [HTK.out] at this; exact this, hb⟩
                case measure => simp [intOf]; omega
          · obtain rfl : n = j := by omega
            have HR2 := Lib.hid ((hb.block _ z2).trans HR.out)
            go_wp2_with (refine wpList_store_row rfl 96 _ _ rfl (w.heap.size + 1) rfl [.slice (some ⟨ga, 0, none⟩) n ca, .slice (some ⟨gb, 0, none⟩) n cb, .slice (some ⟨gk, 0, none⟩) n ck] rfl io hoi hos 96 _ HR2.out rfl (by simp [Value.oneCell']) ?_; intro w3 hput hrow)
            have k0 := hput.new 0 _ rfl
            have k1 := hput.new 1 _ rfl
            have k2 := hput.new 2 _ rfl
            simp only [Nat.zero_add] at k0 k1 k2
            have hgA : w2.heap.size ≤ ga := (HT3.out.ia.lt ga rfl).1
            have hgB' : w2.heap.size ≤ gb := (HT3.out.ib.lt gb rfl).1
            have hgK : w2.heap.size ≤ gk := (HT3.out.ik.lt gk rfl).1
            refine bodyPost_ret (v := .tuple #[.agg #[.slice (some ⟨ga, 0, none⟩) n ca, .slice (some ⟨gb, 0, none⟩) n cb, .slice (some ⟨gk, 0, none⟩) n ck], .bool true]) (by simp [results, Try.results52, go_sem, k0, k1, k2]) rfl ⟨_, _, _, rfl, ?_, ?_, ?_, ?_⟩
            · exact (HT3.out.ia.put hput rfl (show ga ≠ w.heap.size + 1 by omega)).base_le (show w.heap.size ≤ w2.heap.size by omega)
            · have e : down ⟨names, subs⟩ = downs (up ⟨names, subs⟩) n (List.replicate n 0) := by unfold down; rw [HN.out]
              rw [e]
              exact (HT3.out.ib.put hput rfl (show gb ≠ w.heap.size + 1 by omega)).base_le (show w.heap.size ≤ w2.heap.size by omega)
            · have e : kinds ⟨names, subs⟩ = kIter subs n (List.range n) := by unfold kinds; rw [HN.out]
              rw [e]
              exact (HT3.out.ik.put hput rfl (show gk ≠ w.heap.size + 1 by omega)).base_le (show w.heap.size ≤ w2.heap.size by omega)
            · exact (hw2.trans (hb.mono hw2.size)).trans (hput.below (by omega))
end Go.Proofs.Ytlhbdhdaecchoaa
