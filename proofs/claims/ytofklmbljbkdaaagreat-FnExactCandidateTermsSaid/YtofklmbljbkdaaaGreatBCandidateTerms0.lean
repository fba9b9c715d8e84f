/-
  Part of a proof: Ot, Sc, LWeight, Wp, Iw, Wx, By, Mt, Om, Or, Os, Mk, Hd, Mi, Rd, KsString, KsSub, KtSorts, KsDecl, KsOp, KtSignature, Cn, QcSignature, QcTerm, QcTermS.
-/
import Derived.Test.YtofklmbljbkdaaaGreatBBase0
import Derived.Test.YtofklmbljbkdaaaGreatBBase1
import Derived.Test.YtofklmbljbkdaaaGreatBBase2
import Derived.Test.YtofklmbljbkdaaaGreatBBase3
import Derived.Test.YtofklmbljbkdaaaGreatBBase4
import Derived.Test.YtofklmbljbkdaaaGreatRows
import Derived.Deep.RegionHeld3
set_option linter.unusedSimpArgs false
set_option linter.unusedVariables false
namespace Go.Proofs.YtofklmbljbkdaaaGreat
open Go.RowKit
theorem okc4 {u0 u1 u2 u3 : Value} (h : (litRow [u0, u1, u2, u3]).all okCell = true) : okCell (.lit u0) = true ∧ okCell (.lit u1) = true ∧ okCell (.lit u2) = true ∧ okCell (.lit u3) = true := by
  simpa [litRow, Bool.and_eq_true, and_assoc] using h
theorem encTms_nil : encTms [] = [] := by simp [encTms]
theorem encTms_snoc (ts : List Tm) {i : Nat} {t : Tm} (h : ts[i]? = some t) : encTms (ts.take (i + 1)) = encTms (ts.take i) ++ [encTm t] := by
  simp only [encTms_eq, List.take_add_one, h, Option.toList, List.map_append, List.map_cons, List.map_nil]
theorem litRow4 (u0 u1 u2 u3 : Value) : litRow [u0, u1, u2, u3] = [.lit u0, .lit u1, .lit u2, .lit u3] := rfl
theorem len_lits (uss : List (List Value)) : (uss.map litRow).length = uss.length := List.length_map ..
def tmsB (ts : List Tm) : Prop := ts.length + bulkRows (encTms ts) ≤ 1048576
set_option maxHeartbeats 4000000 in
theorem con_copyTerms_of (ts : List Tm) (hB : tmsB ts) (h : ∀ t ∈ ts, ConP e0 118 [.agg (encTm t)] [] (RTree (encTm t))) : ConP e0 105 [.one (.sl (encTms ts))] [] (RTrees 73 4 (encTms ts)) := by
  have hl : ts.length ≤ 1048576 := Nat.le_trans (Nat.le_add_right _ _) hB
  refine gIP (ts := [.slot 2]) [] 1005 Tryz.func105 ?_
  (have F := @e0P; refine gG ?_; clear F)
  refine pE [] [1000] re_none ?_
  (have F := And.intro @encTms_len @encTms_nil; refine gL (ι := Nat × List (List Value) × (Nat → Prop)) [3, 5, 8, 9] [3, 1000] (fun x => [(8, .d (.one (.lit (.int .i64 (x.1 : Int))))), (3, .buf 3)]) (fun x => [(3, .buf none 73 4 (x.2.1.map litRow)), (1000, .set x.2.2 (fun w => OwnVs w (encTms (ts.take x.1)) x.2.2 x.2.1))]) (fun x => x.1 ≤ ts.length ∧ x.2.1.length = x.1) (fun x => ts.length - x.1) ((0, [], fun _ => False)) (⟨Nat.zero_le _, rfl⟩) (fun x hx => ?_); clear F)
  obtain ⟨i, uss, E⟩ := x
  obtain ⟨hi, hn⟩ := hx
  simp only at hi hn
  by_cases hlt : i < ts.length
  · have hg : ts[i]? = some ts[i] := List.getElem?_eq_getElem hlt
    have hc := h ts[i] (List.getElem_mem hlt)
    generalize ts[i] = t at hg hc
    have q1 : ((i : Int) < (ts.length : Int)) = True := eq_true (by omega)
    (have F := And.intro @encTms_len (And.intro @encTms_get (And.intro @q1 (And.intro @hg @tmz))); refine gG ?_; clear F)
    refine gB ?_
    (have F := @tmz; refine gCP [] [1001] (hc) ?_; clear F)
    rintro r pm ⟨us, E2, rfl, hu, hok, rfl⟩
    rw [tm_len] at hu
    obtain ⟨u0, u1, u2, u3, rfl⟩ := len4 hu
    obtain ⟨k0, k1, k2, k3⟩ := okc4 hok
    have q3 : IntKind.i64.wrap ((i : Int) + 1) = (i : Int) + 1 := IntWalk.i64_in _ (by omega)
    have q2 : i + 1 ≤ maxApp := by unfold maxApp; omega
    simp only [litRow4, setA, retA, zipM, List.cons_append, List.nil_append]
    (have F := And.intro @litRow4 (And.intro @len_lits (And.intro @hn (And.intro @q2 (And.intro @k0 (And.intro @k1 (And.intro @k2 @k3)))))); refine gR ?_; clear F)
    refine pE [1000, 1001] [1000] (re_two (G' := fun w => OwnVs w (encTms (ts.take (i + 1))) (fun b => E b ∨ E2 b) (uss ++ [[u0, u1, u2, u3]])) (fun w h1 h2 hd => ?_) (OwnVs.stable _ _ _)) ?_
    · rw [encTms_snoc ts hg]; exact OwnVs.snoc h1 h2 (fun _ h => .inl h) (fun _ h => .inr h) hd
    (have F := And.intro @litRow4 (And.intro @q3 (And.intro @encTms_len ((@List.map_append.{0,0})))); refine gG ?_; exact ⟨(i + 1, uss ++ [[u0, u1, u2, u3]], fun b => E b ∨ E2 b), ⟨hlt, by simp [hn]⟩, gw, gw, by omega⟩)
  · obtain rfl : i = ts.length := by omega
    have q1 : ((ts.length : Int) < (ts.length : Int)) = False := eq_false (by omega)
    (have F := And.intro @encTms_len @q1; refine gG ?_; clear F)
    rw [List.take_length]
    refine pS 2 fun a cap => ?_
    refine gTP [2, 1000] (RTrees.mk (by rw [hn, encTms_len]))
theorem own_tm {w : World} {op so : Int} {nm : ByteArray} {args : List Tm} {E : Nat → Prop} {v : Value} (h : Own w (.sl (encTms args)) E v) : OwnVals w (encTm (.mk op nm so args)) E [.int .i64 op, .string nm, .int .i64 so, v] := by
  simp only [encTm, OwnVals]
  refine ⟨fun _ => False, E, fun _ h => h.elim, fun _ h => h, fun _ h _ => h, by simp [Own], fun _ => False, E, fun _ h => h.elim, fun _ h => h, fun _ h _ => h, by simp [Own], fun _ => False, E, fun _ h => h.elim, fun _ h => h, fun _ h _ => h, by simp [Own], E, fun _ => False, fun _ h => h, fun _ h => h.elim, fun _ _ h => h, h, trivial⟩
set_option maxHeartbeats 4000000 in
theorem con_copyTerm_of (t : Tm) (h : ConP e0 105 [.one (.sl (encTms t.args))] [] (RTrees 73 4 (encTms t.args))) : ConP e0 118 [.agg (encTm t)] [] (RTree (encTm t)) := by
  obtain ⟨op, nm, so, args⟩ := t
  have hc : encTm (.mk op nm so args) = [.lit (.int .i64 op), .lit (.string nm), .lit (.int .i64 so), .sl (encTms args)] := by simp only [encTm]
  simp only [Tm.args] at h
  refine gIP (ts := [.cell 2 73]) [] 7 Tryz.func118 ?_
  (have F := @hc; refine gG ?_; clear F)
  refine gB ?_
  (have F := @hc; refine gCP [] [1000, 1001] (h) ?_; clear F)
  rintro r pm ⟨a, cap, uss, E, rfl, hu, rfl⟩
  simp only [setA, retA, zipM, List.cons_append, List.nil_append]
  (have F := @hc; refine gR ?_; clear F)
  (have F := @hc; refine gG ?_; clear F)
  refine pE [1000, 1001] [1000] (re_close (G' := fun w => OwnVals w (encTm (.mk op nm so args)) (fun b => vblk (.slice a uss.length cap) = some b ∨ E b) [.int .i64 op, .string nm, .int .i64 so, .slice a uss.length cap]) (fun w h => own_tm h) (OwnVals.stable _ _ _)) ?_
  have hm := RTree.mk (row := encTm (.mk op nm so args)) (us := [.int .i64 op, .string nm, .int .i64 so, .slice a uss.length cap]) (E := fun b => vblk (.slice a uss.length cap) = some b ∨ E b) (by rw [hc]; rfl) rfl
  rw [litRow4] at hm
  exact (have F := hc; gTP [1000] hm)
theorem con_copy (n : Nat) : (∀ t : Tm, nodesRow (encTm t) < n → bulkRow (encTm t) ≤ 1048576 → ConP e0 118 [.agg (encTm t)] [] (RTree (encTm t))) := by
  induction n with
  | zero => exact fun _ h => by omega
  | succ n ih =>
    intro t hn hb
    obtain ⟨op, nm, so, args⟩ := t
    simp only [encTm, nodesRow, nodesC, bulkRow, bulkC] at hn hb
    refine con_copyTerm_of _ (con_copyTerms_of args (by unfold tmsB; have := encTms_len args; omega) fun a ha => ?_)
    obtain ⟨i, hi⟩ := List.getElem?_of_mem ha
    have hi' : (encTms args)[i]? = some (encTm a) := by rw [encTms_get, hi]; rfl
    have h1 := nodes_get hi'
    have h2 := bulk_get hi'
    exact ih a (by omega) (by omega)
theorem con_copyTerm (t : Tm) (hb : bulkRow (encTm t) ≤ 1048576) : ConP e0 118 [.agg (encTm t)] [] (RTree (encTm t)) := con_copy _ t (Nat.lt_succ_self _) hb
end Go.Proofs.YtofklmbljbkdaaaGreat
namespace Go.Proofs.YtofklmbljbkdaaaGreat
open Go.RowKit
theorem re_refl (pm : List Bk) : Retold pm pm := fun w S h1 h2 => ⟨h1, h2, fun _ h => h⟩
theorem len_take {ts : List Tm} {i : Nat} (h : i ≤ ts.length) : (encTms (ts.take i)).length = i := by rw [encTms_len, List.length_take]; omega
set_option maxHeartbeats 4000000 in
theorem con_l5Copy_of (t : Tm) (hB : tmsB t.args) (h : ∀ a ∈ t.args, Con e0 112 [.agg (encTm a)] [.agg (encTm a)]) : Con e0 112 [.agg (encTm t)] [.agg (encTm t)] := by
  obtain ⟨op, nm, so, args⟩ := t
  have hc : encTm (.mk op nm so args) = [.lit (.int .i64 op), .lit (.string nm), .lit (.int .i64 so), .sl (encTms args)] := by simp only [encTm]
  simp only [Tm.args] at h hB
  have hl : args.length ≤ 1048576 := Nat.le_trans (Nat.le_add_right _ _) hB
  refine gI (ts := [.cell 2 73]) 65567 Tryz.func112 ?_
  (have F := @hc; have NN : StopAt 1 := trivial; refine gGn ?_; clear F NN)
  refine gB ?_
  refine gP 6 ?_
  refine gX ?_
  (have F := @hc; refine gR ?_; clear F)
  refine pN 1000 73 4 ?_
  (have F := @hc; refine gG ?_; clear F)
  (have F := And.intro @hc @encTms_nil; refine gL (ι := Nat × Option Addr × Nat) [4, 16] [3, 1000] (fun x => [(4, .d (.one (.lit (.int .i64 (x.1 : Int)))))]) (fun x => [(1000, .buf (some (x.2.1, x.2.2)) 73 4 (encTms (args.take x.1))), (3, .var none [.lit (.int .i64 op), .lit (.string nm), .lit (.int .i64 so), .lit (.slice x.2.1 x.1 x.2.2)])]) (fun x => x.1 ≤ args.length) (fun x => args.length - x.1) ((0, none, 0)) (Nat.zero_le _) (fun x hx => ?_); clear F)
  obtain ⟨i, p, cap⟩ := x
  simp only at hx
  by_cases hlt : i < args.length
  · have hg : args[i]? = some args[i] := List.getElem?_eq_getElem hlt
    have hcon := h args[i] (List.getElem_mem hlt)
    generalize args[i] = a at hg hcon
    have q1 : ((i : Int) < (args.length : Int)) = True := eq_true (by omega)
    have q4 : IntKind.i64.wrap ((i : Int) + 1) = (i : Int) + 1 := IntWalk.i64_in _ (by omega)
    have q2 : i + 1 ≤ maxApp := by unfold maxApp; omega
    have q3 := len_take hx
    have q5 : (args.take i).length = i := by rw [List.length_take]; omega
    (have F := And.intro @hc (And.intro @encTms_len (And.intro @encTms_get (And.intro @q1 (And.intro @hg @tmz)))); refine gG ?_; clear F)
    refine gB ?_
    (have F := And.intro @tmz (And.intro @encTms_get @hg); refine gC (hcon) ?_; clear F)
    (have F := And.intro @tmz (And.intro @q2 (And.intro @q3 @q5)); refine gP 3 ?_; clear F)
    refine gS 28 fun p2 cap2 => ?_
    (have F := And.intro @tmz (And.intro @q3 @q5); refine gR ?_; clear F)
    refine pE [28] [1000] (re_refl _) ?_
    rw [← encTms_snoc args hg]
    (have F := And.intro @hc @q4; refine gG ?_; exact ⟨(i + 1, p2, cap2), hlt, gw, gw, by omega⟩)
  · obtain rfl : i = args.length := by omega
    have q1 : ((args.length : Int) < (args.length : Int)) = False := eq_false (by omega)
    rw [List.take_length]
    (have F := And.intro @hc (And.intro @encTms_len @q1); refine gG ?_; clear F)
    refine pD 1000 [] [2] ?_ (hs := by simp only [pz, ↓reduceIte, Nat.reduceEqDiff, Nat.reduceAdd, Nat.reduceSub, Nat.reduceMul, Nat.reduceLeDiff, Nat.reduceBEq, Bool.false_eq_true, decide_true, decide_false, Int.reduceLE, Int.reduceToNat, Int.reduceLT, Int.reduceEq, eq_self, Nat.reduceShiftRight, Nat.reduceAnd, Nat.reduceBneDiff]; exact rfl)
    (have F := And.intro @hc @encTms_len; refine gG ?_; exact gTd)
theorem con_sCopy (n : Nat) : (∀ t : Tm, nodesRow (encTm t) < n → bulkRow (encTm t) ≤ 1048576 → Con e0 112 [.agg (encTm t)] [.agg (encTm t)]) := by
  induction n with
  | zero => exact fun _ h => by omega
  | succ n ih =>
    intro t hn hb
    obtain ⟨op, nm, so, args⟩ := t
    simp only [encTm, nodesRow, nodesC, bulkRow, bulkC] at hn hb
    refine con_l5Copy_of _ (by unfold tmsB; simp only [Tm.args]; have := encTms_len args; omega) fun a ha => ?_
    simp only [Tm.args] at ha
    obtain ⟨i, hi⟩ := List.getElem?_of_mem ha
    have hi' : (encTms args)[i]? = some (encTm a) := by rw [encTms_get, hi]; rfl
    have h1 := nodes_get hi'
    have h2 := bulk_get hi'
    exact ih a (by omega) (by omega)
theorem con_l5Copy (t : Tm) (hb : bulkRow (encTm t) ≤ 1048576) : Con e0 112 [.agg (encTm t)] [.agg (encTm t)] := con_sCopy _ t (Nat.lt_succ_self _) hb
end Go.Proofs.YtofklmbljbkdaaaGreat
namespace Go.Proofs.YtofklmbljbkdaaaGreat
open Go.RowKit
end Go.Proofs.YtofklmbljbkdaaaGreat
namespace Go.Proofs.YtofklmbljbkdaaaGreat
open Go.RowKit
structure Wt where
  const : Int
  coefs : List Int
section
variable {g : Sgn} {ws : List Wt} {vs : List Tm} {t : Tm} {o : Opr} {d : Dcl}
end
end Go.Proofs.YtofklmbljbkdaaaGreat
namespace Go.Proofs.YtofklmbljbkdaaaGreat
open Go.RowKit
section
variable {g : Sgn} {ws : List Wt}
end
end Go.Proofs.YtofklmbljbkdaaaGreat
namespace Go.Proofs.YtofklmbljbkdaaaGreat
open Go.RowKit
section
variable {f g : Tm → Int} {vs : List Tm}
end
end Go.Proofs.YtofklmbljbkdaaaGreat
namespace Go.Proofs.YtofklmbljbkdaaaGreat
open Go.RowKit
def bytesTy (P : Program) (s d : TypeId) : Bool := match P.underlying s, P.underlying d with
  | some (.slice e), some .string => match P.underlying e with
    | some (.int .u8) => true
    | _ => false
  | _, _ => false
def oneByte (b : Int) : ByteArray := ByteArray.empty.push (UInt8.ofNat b.toNat)
section
variable {e : Env} {σ : St} {o : Oper} {K : St → Prop}
theorem step_byte {s d : TypeId} {x : Operand} {b : Int} (ho : o.op = .convert s d x) (hx : evA σ.s x = .d (.clip [[.lit (.int .u8 b)]])) (ht : bytesTy e.P s d = true) (hK : K ⟨setA σ.s o.dst (.d (.one (.lit (.string (oneByte b))))), σ.m⟩) : StepOk e o σ K := by
  intro he U w0 S0 nt a w Q hd ⟨S, L, h⟩
  refine Oper.wp_mono (fun a' w' hs => ⟨_, hK, hs⟩) (gives_then h hd (givesA_pure fun w S L ρv hC hr => ?_))
  have hx' := hr x (by simp [ho, Op.operands])
  rw [hx] at hx'
  obtain ⟨⟨A, n, cap, hv, hn, _, _, hb⟩, _⟩ := hx'
  simp only [List.length_cons, List.length_nil, Nat.zero_add] at hn
  subst hn
  obtain ⟨g, off, rfl, _, _, hrow⟩ := hb (by decide)
  simp only [RepRows, RepRow, Rep, and_true] at hrow
  obtain ⟨u, hc, rfl⟩ := hrow
  have hl := run_loadCells_list (P := e.P) w ⟨g, off, none⟩ [.int .u8 b] (fun j u hj => by
    cases j with
    | zero => simp at hj; subst hj; rw [Addr.add_at]; exact hc
    | succ j => simp at hj)
  unfold bytesTy at ht
  split at ht
  · rename_i e1 h1 h2
    split at ht
    · rename_i h3
      refine ⟨.string (oneByte b), ?_, by simp [ARel, DRel, Rep]⟩
      simp only [List.length_cons, List.length_nil, Nat.zero_add] at hl
      simp [execOp, ho, hv, convert, underlying, h1, h2, h3, Conv.bytesToString, hl, oneByte, Result.andThen]
    · cases ht
  · cases ht
end
theorem gY {e : Env} {K : St → Prop} {ds : List (Option Nat)} {os : List Oper} {d t1 t2 ty : Nat} {p : String} {ed : Array Edge} {x : Operand} {s : List (Nat × A)} {m : List (Nat × Bk)} {b : Int} (hK : Runs e ds 0 os ⟨(d, .d (.one (.lit (.string (oneByte b))))) :: s, m⟩ K)
    (hx : evA s x = .d (.clip [[.lit (.int .u8 b)]]) := by first | (simp only [pz, ↓reduceIte, Nat.reduceEqDiff, Nat.reduceAdd, Nat.reduceSub, Nat.reduceMul, Nat.reduceLeDiff, Nat.reduceBEq, Bool.false_eq_true, decide_true, decide_false, Int.reduceLE, Int.reduceToNat, Int.reduceLT, Int.reduceEq, eq_self, Nat.reduceShiftRight, Nat.reduceAnd, Nat.reduceBneDiff]; done) | (simp only [pz, ↓reduceIte, Nat.reduceEqDiff, Nat.reduceAdd, Nat.reduceSub, Nat.reduceMul, Nat.reduceLeDiff, Nat.reduceBEq, Bool.false_eq_true, decide_true, decide_false, Int.reduceLE, Int.reduceToNat, Int.reduceLT, Int.reduceEq, eq_self, Nat.reduceShiftRight, Nat.reduceAnd, Nat.reduceBneDiff]; exact rfl)) (ht : bytesTy e.P t1 t2 = true := by kernel_rfl) : Runs e ds 0 (⟨some d, .convert t1 t2 x, ty, p, ed, none⟩ :: os) ⟨s, m⟩ K := by
  simp only [Runs] at hK ⊢
  exact runsS_step rfl (step_byte (o := ⟨some d, .convert t1 t2 x, ty, p, ed, none⟩) rfl hx ht hK)
end Go.Proofs.YtofklmbljbkdaaaGreat
namespace Go.Proofs.YtofklmbljbkdaaaGreat
open Go.RowKit
def dig (n : Nat) : ByteArray := oneByte (IntKind.u8.wrap (IntKind.i64.wrap (48 + (n : Int).tmod 10)))
def txtL (n : Nat) (acc : ByteArray) : ByteArray := if h : n = 0 then acc else txtL (n / 10) (dig n ++ acc)
termination_by n
decreasing_by omega
def txt (k : Int) : ByteArray := if k ≤ 0 then ⟨#[109, 48]⟩ else ⟨#[109]⟩ ++ txtL k.toNat ByteArray.empty
theorem txtL_z (acc : ByteArray) : txtL 0 acc = acc := by rw [txtL]; simp
theorem txtL_s {n : Nat} (h : n ≠ 0) (acc : ByteArray) : txtL n acc = txtL (n / 10) (dig n ++ acc) := by rw [txtL]; simp [h]
theorem dig_size (n : Nat) : (dig n).size = 1 := rfl
set_option maxHeartbeats 4000000 in
set_option maxRecDepth 100000 in
theorem con_markText (k : Int) (hk : k ≤ 1000000000) (hk0 : 0 ≤ k) : Con e0 107 [.one (.lit (.int .i64 k))] [.one (.lit (.string (txt k)))] := by
  by_cases h0 : k ≤ 0
  · have h : txt k = ⟨#[109, 48]⟩ := by unfold txt; rw [if_pos h0]
    have q1 : (k ≤ 0) = True := eq_true h0
    rw [h]
    refine gI (ts := [.slot 2]) 173 Tryz.func107 ?_
    (have F := @q1; refine gG ?_; exact gTd)
  · have h : txt k = ⟨#[109]⟩ ++ txtL k.toNat ByteArray.empty := by unfold txt; rw [if_neg h0]
    have q1 : (k ≤ 0) = False := eq_false h0
    rw [h]
    obtain ⟨n, rfl⟩ : ∃ n : Nat, k = n := ⟨k.toNat, by omega⟩
    rw [Int.toNat_natCast]
    refine gI (ts := [.slot 2]) 173 Tryz.func107 ?_
    (have F := @q1; refine gG ?_; clear F)
    (have F := @q1; refine gL (ι := Nat × ByteArray) [0, 3, 7] [] (fun x => [(0, .d (.one (.lit (.int .i64 (x.1 : Int))))), (3, .d (.one (.lit (.string x.2))))]) (fun x => []) (fun x => txtL n ByteArray.empty = txtL x.1 x.2 ∧ x.2.size + x.1 ≤ n) (fun x => x.1) ((n, ⟨#[]⟩)) (⟨rfl, by show 0 + n ≤ n; omega⟩) (fun x hx => ?_); clear F)
    obtain ⟨j, acc⟩ := x
    obtain ⟨h1, h2⟩ := hx
    simp only at h1 h2
    rw [h1]
    clear h1
    by_cases hj : j = 0
    · subst hj
      have q2 : (((0 : Nat) : Int) > 0) = False := eq_false (by omega)
      rw [txtL_z]
      have q5 : ((ByteArray.mk #[109]).size + acc.size ≤ 9223372036854775807) = True := eq_true (by show 1 + acc.size ≤ _; omega)
      (have F := And.intro @q2 @q5; refine gG ?_; exact gTd)
    · have q2 : ((j : Int) > 0) = True := eq_true (by omega)
      rw [txtL_s hj]
      have q3 : IntKind.i64.wrap ((j : Int).tdiv 10) = ((j / 10 : Nat) : Int) := by rw [show (j : Int).tdiv 10 = ((j / 10 : Nat) : Int) from by rw [Int.ofNat_tdiv]; rfl]; exact IntWalk.i64_in _ (by omega)
      (have F := @q2; have NN : StopAt 5 := trivial; refine gGn ?_; clear F NN)
      refine gB ?_
      (have F := @q2; refine gP 5 ?_; clear F)
      refine gY ?_
      have q5 : ((dig j).size + acc.size ≤ 9223372036854775807) = True := eq_true (by rw [dig_size]; omega)
      change Runs _ _ _ _ ⟨(13, .d (.one (.lit (.string (dig j))))) :: _, _⟩ _
      (have F := And.intro @q2 @q5; refine gR ?_; clear F)
      have hd := dig_size j
      (have F := And.intro @q2 @q3; refine gG ?_; exact ⟨(j / 10, dig j ++ acc), ⟨rfl, by rw [ByteArray.size_append, hd]; omega⟩, gw, gw, by omega⟩)
end Go.Proofs.YtofklmbljbkdaaaGreat
namespace Go.Proofs.YtofklmbljbkdaaaGreat
open Go.RowKit
def mkV (k : Int) : Value → Value
  | .int i _ => .int i k
  | .string _ => .string (txt k)
  | .bool _ => .bool (k % 3 == 0)
  | v => v
mutual
def mkC : Int → C → C
  | k, .lit v => .lit (mkV k v)
  | k, .sl rows => .sl (mkRows k rows)
  | _, .ptr cs => .ptr cs
  | _, .fn f cs => .fn f cs
def mkRow : Int → List C → List C
  | _, [] => []
  | k, c :: cs => mkC k c :: mkRow (k + cntC c) cs
def mkRows : Int → List (List C) → List (List C)
  | _, [] => []
  | k, r :: rs => mkRow k r :: mkRows (k + cntRow r) rs
def cntC : C → Nat
  | .lit _ => 1
  | .sl rows => cntRows rows
  | .ptr _ => 0
  | .fn _ _ => 0
def cntRow : List C → Nat
  | [] => 0
  | c :: cs => cntC c + cntRow cs
def cntRows : List (List C) → Nat
  | [] => 0
  | r :: rs => cntRow r + cntRows rs
end
theorem mkRow_len : ∀ (k : Int) (cs : List C), (mkRow k cs).length = cs.length
  | _, [] => by simp [mkRow]
  | k, c :: cs => by simp [mkRow, mkRow_len _ cs]
theorem mkRows_len : ∀ (k : Int) (rs : List (List C)), (mkRows k rs).length = rs.length
  | _, [] => by simp [mkRows]
  | k, c :: cs => by simp [mkRows, mkRows_len _ cs]
theorem cnt_snoc : ∀ (rs : List (List C)) (r : List C), cntRows (rs ++ [r]) = cntRows rs + cntRow r
  | [], r => by simp [cntRows]
  | q :: rs, r => by simp [cntRows, cnt_snoc rs r]; omega
theorem mkRows_snoc : ∀ (rs : List (List C)) (r : List C) (k : Int), mkRows k (rs ++ [r]) = mkRows k rs ++ [mkRow (k + cntRows rs) r]
  | [], r, k => by simp [mkRows, cntRows]
  | q :: rs, r, k => by simp [mkRows, cntRows, mkRows_snoc rs r, Int.add_assoc]
theorem tk_snoc {α : Type} {l : List α} {i : Nat} {x : α} (h : l[i]? = some x) : l.take (i + 1) = l.take i ++ [x] := by simp [List.take_add_one, h]
theorem drop_get {α : Type} {l : List α} {i : Nat} {x : α} (h : l[i]? = some x) : l.drop i = x :: l.drop (i + 1) := by
  obtain ⟨h1, rfl⟩ := List.getElem?_eq_some_iff.1 h
  exact List.drop_eq_getElem_cons h1
theorem cnt_take_le : ∀ (rs : List (List C)) (i : Nat), cntRows (rs.take i) ≤ cntRows rs
  | [], i => by simp [cntRows]
  | r :: rs, 0 => by simp [cntRows]
  | r :: rs, i + 1 => by have := cnt_take_le rs i; simp only [List.take_succ_cons, cntRows]; omega
theorem apart_2 {x y : Bk} (h : ∀ g, pblk x g → ¬ pblk y g) : Apart [x, y] := ⟨fun z hz g hg => by simp at hz; subst hz; exact h g hg, apart_1 _⟩
theorem fd_nil {E : Nat → Prop} {v : Value} : Found (ι := Option Addr × Nat) [.set E (fun w => Own w (.sl []) E v)] (fun i => v = .slice i.1 0 i.2) (fun _ => [.set E (fun w => Own w (.sl []) E v)]) := fun w S h ha => by
  obtain ⟨h1, h2, h3⟩ : _ ∧ Own w (.sl []) E v ∧ _ := h (.set E (fun w => Own w (.sl []) E v)) (by simp)
  simp only [Own] at h2
  obtain ⟨A, n, cap, hv, hn, _⟩ := h2
  simp at hn
  subst hn
  exact ⟨(A, cap), hv, h, ha, fun _ h => h⟩
theorem fd_open {E : Nat → Prop} {v : Value} {rows : List (List C)} {sz : Nat} (hne : rows ≠ []) (hrl : rowsLen sz rows) : Found (ι := Option Addr × Nat × Nat × List (List Value) × (Nat → Prop)) [.set E (fun w => Own w (.sl rows) E v)]
    (fun i => v = .slice i.1 i.2.2.2.1.length i.2.1 ∧ i.2.2.2.1.length = rows.length ∧ rows.length ≤ maxLen) (fun i => [.buf (some (i.1, i.2.1)) i.2.2.1 sz (i.2.2.2.1.map litRow), .set i.2.2.2.2 (fun w => OwnVs w rows i.2.2.2.2 i.2.2.2.1)]) := fun w S h ha => by
  obtain ⟨h1, h2, h3⟩ : (∀ b, E b → b < w.heap.size ∧ ¬ S b) ∧ Own w (.sl rows) E v ∧ _ := h (.set E (fun w => Own w (.sl rows) E v)) (by simp)
  obtain ⟨A, n, cap, rfl, hn1, hn2, hn3⟩ := (Own.rep _ _ _ h2).form
  obtain ⟨uss, ety, E', rfl, k1, k2, k3, k4⟩ := Own.open (T := S) (fun b hb => (h1 b hb).2) hne hrl h2
  refine ⟨(A, cap, ety, uss, E'), ⟨rfl, k2.len, by omega⟩, fun x hx => ?_, apart_2 fun g hg hg2 => ?_, fun g ⟨x, hx, hg⟩ => ⟨_, List.mem_cons_self, ?_⟩⟩
  · simp only [List.mem_cons, List.not_mem_nil, or_false] at hx
    rcases hx with rfl | rfl
    · show BufRel w S ety sz (uss.map litRow) (.slice A (uss.map litRow).length cap)
      rw [List.length_map]; exact k1
    · exact ⟨fun b hb => h1 b (k3 b hb).1, k2, OwnVs.stable _ _ _⟩
  · simp only [pblk, List.length_map] at hg hg2
    exact (k3 g hg2).2 hg
  · simp only [List.mem_cons, List.not_mem_nil, or_false] at hx
    rcases hx with rfl | rfl
    · simp only [pblk, List.length_map] at hg; exact k4 g hg
    · exact (k3 g hg).1
def cellSets : List C → List Value → (Nat → Nat → Prop) → List Bk
  | .sl rows :: cs, u :: us, Es => .set (Es 0) (fun w => Own w (.sl rows) (Es 0) u) :: cellSets cs us (fun k => Es (k + 1))
  | .lit _ :: cs, _ :: us, Es => cellSets cs us Es
  | _, _, _ => []
def litsOk : List C → List Value → Prop
  | [], [] => True
  | .lit x :: cs, u :: us => u = x ∧ litsOk cs us
  | .sl _ :: cs, _ :: us => litsOk cs us
  | _, _ => False
def plainC : C → Bool
  | .lit _ => true
  | .sl _ => true
  | _ => false
theorem cells_of {w : World} {S : Nat → Prop} : ∀ {cs : List C} {us : List Value} {E : Nat → Prop}, cs.all plainC = true → OwnVals w cs E us → (∀ b, E b → b < w.heap.size ∧ ¬ S b) → ∃ Es, litsOk cs us ∧ (∀ x ∈ cellSets cs us Es, PinRel w S x) ∧ Apart (cellSets cs us Es) ∧ ∀ g, pblks (cellSets cs us Es) g → E g
  | [], [], E, _, _, _ => ⟨fun _ _ => False, trivial, by simp [cellSets], trivial, fun g ⟨x, hx, _⟩ => by simp [cellSets] at hx⟩
  | c :: cs, u :: us, E, hp, h, hE => by
    simp only [OwnVals] at h
    obtain ⟨S1, S2, i1, i2, hd, h1, h2⟩ := h
    simp only [List.all_cons, Bool.and_eq_true] at hp
    obtain ⟨Es, k1, k2, k3, k4⟩ := cells_of hp.2 h2 (fun b hb => hE b (i2 b hb))
    cases c with
    | lit x =>
      simp only [Own] at h1
      exact ⟨Es, ⟨h1, k1⟩, k2, k3, fun g hg => i2 g (k4 g hg)⟩
    | sl rows =>
      refine ⟨fun k => match k with | 0 => S1 | k + 1 => Es k, k1, fun x hx => ?_, ⟨fun y hy g hg hg2 => hd g hg (k4 g ⟨y, hy, hg2⟩), k3⟩, fun g ⟨x, hx, hg⟩ => ?_⟩
      · simp only [cellSets, List.mem_cons] at hx
        rcases hx with rfl | hx
        · exact ⟨fun b hb => hE b (i1 b hb), h1, Own.stable _ _ _⟩
        · exact k2 x hx
      · simp only [cellSets, List.mem_cons] at hx
        rcases hx with rfl | hx
        · exact i1 g hg
        · exact i2 g (k4 g ⟨x, hx, hg⟩)
    | ptr _ => simp [plainC] at hp
    | fn _ _ => simp [plainC] at hp
  | [], _ :: _, _, _, h, _ => by simp [OwnVals] at h
  | _ :: _, [], _, _, h, _ => by simp [OwnVals] at h
theorem OwnVals.of_cells {w : World} {S : Nat → Prop} : ∀ {cs : List C} {us : List Value} {Es : Nat → Nat → Prop}, cs.all plainC = true → litsOk cs us → (∀ x ∈ cellSets cs us Es, PinRel w S x) → Apart (cellSets cs us Es) → OwnVals w cs (pblks (cellSets cs us Es)) us
  | [], [], Es, _, _, _, _ => OwnVals.nil
  | .lit x :: cs, u :: us, Es, hp, hl, h, ha => by
    obtain ⟨rfl, hl⟩ := hl
    simp only [List.all_cons, Bool.and_eq_true] at hp
    simp only [OwnVals]
    exact ⟨fun _ => False, _, fun _ h => h.elim, fun _ h => h, fun _ h _ => h, by simp [Own], OwnVals.of_cells (Es := Es) hp.2 hl h ha⟩
  | .sl rows :: cs, u :: us, Es, hp, hl, h, ha => by
    simp only [List.all_cons, Bool.and_eq_true] at hp
    simp only [OwnVals]
    obtain ⟨a1, a2⟩ := ha
    have hE := h (.set (Es 0) (fun w => Own w (.sl rows) (Es 0) u)) List.mem_cons_self
    refine ⟨Es 0, pblks (cellSets cs us (fun k => Es (k + 1))), fun b hb => ⟨_, List.mem_cons_self, hb⟩, fun b ⟨x, hx, hb⟩ => ⟨x, List.mem_cons_of_mem _ hx, hb⟩, fun b hb ⟨x, hx, hb2⟩ => a1 x hx b hb hb2, hE.2.1, OwnVals.of_cells hp.2 hl (fun x hx => h x (List.mem_cons_of_mem _ hx)) a2⟩
  | .ptr _ :: _, _ :: _, _, hp, _, _, _ => by simp [plainC] at hp
  | .fn _ _ :: _, _ :: _, _, hp, _, _, _ => by simp [plainC] at hp
  | [], _ :: _, _, _, hl, _, _ => by simp [litsOk] at hl
  | .lit _ :: _, [], _, _, hl, _, _ => by simp [litsOk] at hl
  | .sl _ :: _, [], _, _, hl, _, _ => by simp [litsOk] at hl
theorem cellSets_set : ∀ {cs : List C} {us : List Value} {Es : Nat → Nat → Prop} (y : Bk), y ∈ cellSets cs us Es → ∃ E G, y = .set E G
  | .sl rows :: cs, u :: us, Es, y, h => by
    rcases List.mem_cons.1 h with rfl | h
    · exact ⟨_, _, rfl⟩
    · exact cellSets_set y h
  | .lit _ :: cs, _ :: us, Es, y, h => cellSets_set (cs := cs) (us := us) y h
  | .ptr _ :: _, _, _, y, h => by simp [cellSets] at h
  | .fn _ _ :: _, _, _, y, h => by simp [cellSets] at h
  | [], _, _, y, h => by simp [cellSets] at h
  | .lit _ :: _, [], _, y, h => by simp [cellSets] at h
  | .sl _ :: _, [], _, y, h => by simp [cellSets] at h
theorem fd_lits {E : Nat → Prop} {r : List C} {rest : List (List C)} {us : List Value} {urest : List (List Value)} (hp : r.all plainC = true) : Found (ι := Unit) [.set E (fun w => OwnVs w (r :: rest) E (us :: urest))] (fun _ => litsOk r us) (fun _ => [.set E (fun w => OwnVs w (r :: rest) E (us :: urest))]) := fun w S h ha => by
  obtain ⟨h1, h2, h3⟩ : (∀ b, E b → b < w.heap.size ∧ ¬ S b) ∧ OwnVs w (r :: rest) E (us :: urest) ∧ _ := h (.set E (fun w => OwnVs w (r :: rest) E (us :: urest))) (by simp)
  obtain ⟨S1, S2, i1, i2, hd, k1, k2⟩ := h2
  obtain ⟨Es, hl, _⟩ := cells_of (S := S) hp k1 (fun b hb => h1 b (i1 b hb))
  exact ⟨(), hl, h, ha, fun _ h => h⟩
theorem fd_row {E : Nat → Prop} {r : List C} {rest : List (List C)} {us : List Value} {urest : List (List Value)} (hp : r.all plainC = true) : Found (ι := (Nat → Prop) × (Nat → Nat → Prop)) [.set E (fun w => OwnVs w (r :: rest) E (us :: urest))] (fun _ => True) (fun i => .set i.1 (fun w => OwnVs w rest i.1 urest) :: cellSets r us i.2) := fun w S h ha => by
  obtain ⟨h1, h2, h3⟩ : (∀ b, E b → b < w.heap.size ∧ ¬ S b) ∧ OwnVs w (r :: rest) E (us :: urest) ∧ _ := h (.set E (fun w => OwnVs w (r :: rest) E (us :: urest))) (by simp)
  obtain ⟨S1, S2, i1, i2, hd, k1, k2⟩ := h2
  obtain ⟨Es, hl, q1, q2, q3⟩ := cells_of (S := S) hp k1 (fun b hb => h1 b (i1 b hb))
  refine ⟨(S2, Es), trivial, fun x hx => ?_, ⟨fun y hy g hg hg2 => hd g (q3 g ⟨y, hy, hg2⟩) hg, q2⟩, fun g ⟨x, hx, hg⟩ => ⟨_, List.mem_cons_self, ?_⟩⟩
  · rcases List.mem_cons.1 hx with rfl | hx
    · exact ⟨fun b hb => h1 b (i2 b hb), k2, OwnVs.stable _ _ _⟩
    · exact q1 x hx
  · rcases List.mem_cons.1 hx with rfl | hx
    · exact i2 g hg
    · exact i1 g (q3 g ⟨x, hx, hg⟩)
theorem re_row {E : Nat → Prop} {done : List (List C)} {ud : List (List Value)} {cs : List C} {us : List Value} {Es : Nat → Nat → Prop} (hp : cs.all plainC = true) (hl : litsOk cs us) : Retold (.set E (fun w => OwnVs w done E ud) :: cellSets cs us Es) [.set (fun b => E b ∨ pblks (cellSets cs us Es) b) (fun w => OwnVs w (done ++ [cs]) (fun b => E b ∨ pblks (cellSets cs us Es) b) (ud ++ [us]))] := fun w S h ha => by
  have hE := h (.set E (fun w => OwnVs w done E ud)) List.mem_cons_self
  have hv := OwnVals.of_cells (w := w) (S := S) hp hl (fun x hx => h x (List.mem_cons_of_mem _ hx)) ha.2
  refine ⟨fun x hx => ?_, apart_1 _, fun g ⟨x, hx, hg⟩ => ?_⟩
  · simp only [List.mem_cons, List.not_mem_nil, or_false] at hx
    subst hx
    refine ⟨fun b hb => ?_, OwnVs.snoc hE.2.1 hv (fun _ h => .inl h) (fun _ h => .inr h) (fun b hb ⟨y, hy, hg⟩ => ha.1 y hy b hb hg), OwnVs.stable _ _ _⟩
    rcases hb with hb | ⟨y, hy, hg⟩
    · exact hE.1 b hb
    · obtain ⟨E', G', rfl⟩ := cellSets_set y hy
      exact (h _ (List.mem_cons_of_mem _ hy)).1 b hg
  · simp only [List.mem_cons, List.not_mem_nil, or_false] at hx
    subst hx
    rcases hg with hg | ⟨y, hy, hg⟩
    · exact ⟨_, List.mem_cons_self, hg⟩
    · exact ⟨y, List.mem_cons_of_mem _ hy, hg⟩
end Go.Proofs.YtofklmbljbkdaaaGreat
namespace Go.Proofs.YtofklmbljbkdaaaGreat
open Go.RowKit
theorem conP_tree {f : FuncId} {args : List D} {row : List C} (hb : hasBody e0.P f = true) (hok : row.all okCell = true)
    (h : ∀ (w : World) (S : Nat → Prop) (vs : List Value), DsRel w S args vs → Calls e0.P f vs.toArray w fun e w' => ∃ us' : List Value, e = .returned (.agg us'.toArray) ∧ OwnVals w' row (fun x => w.heap.size ≤ x ∧ x < w'.heap.size) us' ∧ Below w.heap.size w w') : ConP e0 f args [] (RTree row) := by
  refine ⟨hb, fun w S vs hS hE hG hpm ha hv => (h w S vs hv).mono ?_⟩
  rintro en w' ⟨us, h1, h2, h3⟩
  obtain ⟨E, hE1, h2⟩ : ∃ E : Nat → Prop, (∀ b, E b → w.heap.size ≤ b ∧ b < w'.heap.size) ∧ OwnVals w' row E us := ⟨_, fun _ h => h, h2⟩
  refine ⟨.agg us.toArray, [.agg (litRow us)], [.set E (fun w => OwnVals w row E us)], h1, RTree.mk h2.len (h2.cells hok), Kept.of_below h3 (fun d => d.elim), trivial, fun x hx => ?_, apart_1 _, us, rfl, RepVals_lits us⟩
  simp only [List.mem_cons, List.not_mem_nil, or_false] at hx
  subst hx
  exact ⟨⟨fun b hb => ⟨(hE1 b hb).2, fun hn => hn.2 ⟨_, List.mem_cons_self, hb⟩⟩, h2, OwnVals.stable _ _ _⟩, fun g hg => .inr (hE1 g hg).1⟩
def RTreeS (rows : List (List C)) (r : List D) (pm : List Bk) : Prop := ∃ v E, r = [.one (.lit v)] ∧ okCell (.lit v) = true ∧ pm = [.set E (fun w => Own w (.sl rows) E v)]
def isSet : Bk → Bool
  | .set _ _ => true
  | _ => false
def litC : C → Bool
  | .lit _ => true
  | _ => false
def litD : D → Bool
  | .one c => litC c
  | .agg cs => cs.all litC
  | _ => false
theorem RepVals_any {w : World} {S S' : Nat → Prop} : ∀ {cs : List C} {vs : List Value}, cs.all litC = true → RepVals w S cs vs → RepVals w S' cs vs
  | [], [], _, _ => trivial
  | .lit x :: cs, v :: vs, hl, h => by
    simp only [List.all_cons, Bool.and_eq_true] at hl
    exact ⟨h.1, RepVals_any hl.2 h.2⟩
  | .sl _ :: _, _ :: _, hl, _ => by simp [litC] at hl
  | .ptr _ :: _, _ :: _, hl, _ => by simp [litC] at hl
  | .fn _ _ :: _, _ :: _, hl, _ => by simp [litC] at hl
  | [], _ :: _, _, h => h.elim
  | _ :: _, [], _, h => h.elim
theorem DRel_any {w : World} {S S' : Nat → Prop} {x : D} {v : Value} (hl : litD x = true) (h : DRel w S x v) : DRel w S' x v := by
  cases x with
  | one c => cases c with
    | lit y => exact h
    | _ => simp [litD, litC] at hl
  | agg cs => obtain ⟨vs, h1, h2⟩ := h; exact ⟨vs, h1, RepVals_any hl h2⟩
  | clip _ => simp [litD] at hl
theorem DsRel_any {w : World} {S S' : Nat → Prop} : ∀ {r : List D} {vs : List Value}, r.all litD = true → DsRel w S r vs → DsRel w S' r vs
  | [], [], _, _ => trivial
  | x :: r, v :: vs, hl, h => by
    simp only [List.all_cons, Bool.and_eq_true] at hl
    exact ⟨DRel_any hl.1 h.1, DsRel_any hl.2 h.2⟩
  | [], _ :: _, _, h => h.elim
  | _ :: _, [], _, h => h.elim
theorem ARel_any {w : World} {S S' : Nat → Prop} {L : Lay} : ∀ {r : List D} {v : Value}, r.all litD = true → ARel w S L (retA r) v → ARel w S' L (retA r) v
  | [], _, _, h => by obtain ⟨vs, h1, h2⟩ := h; exact ⟨vs, h1, DsRel_any rfl h2⟩
  | [x], v, hl, h => by
    simp only [List.all_cons, List.all_nil, Bool.and_true] at hl
    exact DRel_any (x := x) (v := v) hl h
  | x :: y :: z, _, hl, h => by obtain ⟨vs, h1, h2⟩ := h; exact ⟨vs, h1, DsRel_any hl h2⟩
theorem con_P {e : Env} {f : FuncId} {args r : List D} (h : Con e f args r) : ConP e f args [] (fun r' pm => r' = r ∧ pm = []) := by
  refine ⟨h.1, fun w S vs hS hE hG hpm ha hv => (h.2 w S vs hS hE hG hv).mono ?_⟩
  rintro en w' ⟨v, h1, h2, h3, h4⟩
  refine ⟨v, r, [], h1, ⟨rfl, rfl⟩, ⟨h2.os, h2.tape, h2.output, h2.drawn, h2.size, fun k hk hn => h2.block k hk (fun h => hn (.inl h))⟩, h3, fun x hx => by simp at hx, trivial, ?_⟩
  exact ARel.keep (Nat.le_refl _) (fun _ _ _ => rfl) (fun b hb => ⟨hb.elim .inl (fun h => .inr (.inr h)), fun ⟨x, hx, _⟩ => by simp at hx⟩) h4
theorem pin_lt {w : World} {S : Nat → Prop} {x : Bk} (hs : isSet x = true) (h : PinRel w S x) {g : Nat} (hg : pblk x g) : g < w.heap.size ∧ ¬ S g := by
  cases x with
  | set E G => exact h.1 g hg
  | _ => simp [isSet] at hs
theorem pin_move {w w' : World} {S S' : Nat → Prop} {x : Bk} (hs : isSet x = true) (h : PinRel w S x) (hz : w.heap.size ≤ w'.heap.size) (hk : ∀ b, pblk x b → w'.heap[b]? = w.heap[b]?) (hS : ∀ b, pblk x b → ¬ S' b) : PinRel w' S' x := by
  cases x with
  | set E G => exact ⟨fun b hb => ⟨Nat.lt_of_lt_of_le (h.1 b hb).1 hz, hS b hb⟩, h.2.2 w w' hz hk h.2.1, h.2.2⟩
  | _ => simp [isSet] at hs
theorem apart_app : ∀ {a b : List Bk}, Apart a → Apart b → (∀ x ∈ a, ∀ y ∈ b, ∀ g, pblk x g → ¬ pblk y g) → Apart (a ++ b)
  | [], _, _, h, _ => h
  | x :: a, b, ⟨h1, h2⟩, h, hd => ⟨fun y hy g hx hg => (List.mem_append.1 hy).elim (fun q => h1 y q g hx hg) (fun q => hd x List.mem_cons_self y q g hx hg), apart_app h2 h (fun z hz => hd z (List.mem_cons_of_mem _ hz))⟩
theorem conP_read {e : Env} {f : FuncId} {data lits : List D} {R : List D → List Bk → Prop} (pm : List Bk) (h : ConP e f data [] R) (hset : pm.all isSet = true) (hR : ∀ r q, R r q → r.all litD = true ∧ q.all isSet = true)
    (hx : ∀ (w : World) (S : Nat → Prop) (vs : List Value), (∀ x ∈ pm, PinRel w S x) → DsRel w S lits vs → DsRel w (fun b => S b ∨ pblks pm b) data vs) : ConP e f lits pm (fun r q => ∃ q1, R r q1 ∧ q = q1 ++ pm) := by
  refine ⟨h.1, fun w S vs hS hE hG hpm ha hv => ?_⟩
  have hset' : ∀ x ∈ pm, isSet x = true := fun x hx => List.all_eq_true.1 hset x hx
  have hlt : ∀ g, pblks pm g → g < w.heap.size ∧ ¬ S g ∧ ¬ e.E g := fun g ⟨x, hxm, hg⟩ => ⟨(pin_lt (hset' x hxm) (hpm x hxm).1 hg).1, (pin_lt (hset' x hxm) (hpm x hxm).1 hg).2, (hpm x hxm).2 g hg⟩
  refine (h.2 w (fun b => S b ∨ pblks pm b) vs (fun b hb => hb.elim (hS b) (fun q => ⟨(hlt b q).1, (hlt b q).2.2⟩)) hE hG (fun x hx => by simp at hx) trivial (hx w S vs (fun x hx => (hpm x hx).1) hv)).mono ?_
  rintro en w' ⟨v, r, q1, h1, h2, h3, h4, h5, h6, h7⟩
  obtain ⟨l1, l2⟩ := hR r q1 h2
  have l2' : ∀ x ∈ q1, isSet x = true := fun x hx => List.all_eq_true.1 l2 x hx
  have hnew : ∀ x ∈ q1, ∀ g, pblk x g → w.heap.size ≤ g := fun x hx g hg => ((h5 x hx).2 g hg).elim (fun ⟨y, hy, _⟩ => by simp at hy) id
  have hnil : ∀ b, ¬ pblks [] b := fun b ⟨y, hy, _⟩ => by simp at hy
  refine ⟨v, r, q1 ++ pm, h1, ⟨q1, h2, rfl⟩, ⟨h3.os, h3.tape, h3.output, h3.drawn, h3.size, fun k hk hn => h3.block k hk (fun q => q.elim (fun q => hn (.inl q)) (fun q => hnil k q))⟩, h4, fun x hxm => ?_, apart_app h6 ha (fun x hx y hy g hg hg2 => ?_), ARel_any l1 h7⟩
  · rcases List.mem_append.1 hxm with hq | hq
    · refine ⟨pin_move (l2' x hq) (h5 x hq).1 (Nat.le_refl _) (fun _ _ => rfl) (fun b hb hn => hn.2 ⟨x, List.mem_append.2 (.inl hq), hb⟩), fun g hg => .inr (hnew x hq g hg)⟩
    · refine ⟨pin_move (hset' x hq) (hpm x hq).1 h3.size (fun b hb => h3.block b (hlt b ⟨x, hq, hb⟩).1 (fun q => q.elim (hlt b ⟨x, hq, hb⟩).2.2 (hnil b))) (fun b hb hn => hn.2 ⟨x, List.mem_append.2 (.inr hq), hb⟩), fun g hg => .inl ⟨x, hq, hg⟩⟩
  · have := hnew x hx g hg
    have := (hlt g ⟨y, hy, hg2⟩).1
    omega
end Go.Proofs.YtofklmbljbkdaaaGreat
namespace Go.Proofs.YtofklmbljbkdaaaGreat
open Go.RowKit
theorem conP_toTerm {row : List C} (hok : okRow (fieldsOf .term) row) (hb : bulkRow row ≤ 1048576) : ConP e0 29 [.agg row] [] (RTree row) :=
  conP_tree (by kernel_rfl) hok.cells fun w S vs h => by
    match vs, h with
    | [v], h =>
      obtain ⟨⟨us, rfl, hu⟩, _⟩ := h
      exact toTerm_any row S us w hok hu hb
end Go.Proofs.YtofklmbljbkdaaaGreat
namespace Go.Proofs.YtofklmbljbkdaaaGreat
open Go.RowKit
def MarkS (f : FuncId) (rows : List (List C)) : Prop := ∀ (k : Int) (E : Nat → Prop) (v : Value), 0 ≤ k → k + cntRows rows ≤ 1000000000 → ConP e0 f [.one (.lit v), .one (.lit (.int .i64 k))] [.set E (fun w => Own w (.sl rows) E v)] (fun r pm => ∃ E', r = [.one (.lit (.int .i64 (k + cntRows rows)))] ∧ pm = [.set E' (fun w => Own w (.sl (mkRows k rows)) E' v)])
theorem okRows.rowsLen {fs : List F} {rows : List (List C)} (h : okRows fs rows) : rowsLen fs.length rows := fun r hr => by
  obtain ⟨i, hi⟩ := List.getElem?_of_mem hr
  exact ⟨(h.get hi).len, (h.get hi).cells⟩
theorem mkRows_nil (k : Int) : mkRows k [] = [] := by simp only [mkRows]
theorem cnt_nil : cntRows [] = 0 := by simp only [cntRows]
theorem set_get {α : Type} {l : List α} {i : Nat} (h : i < l.length) (x : α) : (l.set i x)[i]? = some x := by simp [h]
theorem set_len {α : Type} (l : List α) (i : Nat) (x : α) : (l.set i x).length = l.length := List.length_set
theorem set_set' {α : Type} (l : List α) (i : Nat) (x y : α) : (l.set i x).set i y = l.set i y := List.set_set ..
theorem set_take {α : Type} {l : List α} {i : Nat} {x : α} (h : i < l.length) : (l.set i x).take (i + 1) = l.take i ++ [x] := by
  rw [tk_snoc (x := x) (by simp [h]), List.take_set_of_le (Nat.le_refl _)]
theorem set_drop {α : Type} (l : List α) (i : Nat) (x : α) : (l.set i x).drop (i + 1) = l.drop (i + 1) := List.drop_set_of_lt (by omega)
set_option maxHeartbeats 8000000 in
set_option maxRecDepth 100000 in
theorem mark_TermS (rows : List (List C)) (hok : okRows (fieldsOf .term) rows) (h : ∀ r ∈ rows, ∀ i0 t1 i2 r3, r = [.lit (.int .i64 i0), .lit (.string t1), .lit (.int .i64 i2), .sl r3] → MarkS 47 r3) : MarkS 47 rows := by
  intro k E v hk hb
  refine gIP (ts := [.slot 4]) [1000] 563 Tryz.func47 ?_
  (have F := @e0P; refine gG ?_; clear F)
  by_cases hne : rows = []
  · subst hne
    refine pEx [1000] [1000] fd_nil ?_
    rintro ⟨a, cap⟩ rfl
    (have F := @hk; refine gL (ι := Unit) [1, 5, 9] [] (fun x => [(5, .d (.one (.lit (.int .i64 0)))), (1, .d (.one (.lit (.int .i64 k))))]) (fun x => []) (fun x => True) (fun x => 0) (()) (trivial) (fun x hx => ?_); clear F)
    have q1 : ((0 : Int) < 0) = False := eq_false (by decide)
    have q2 : ((0 : Int) < ((0 : Nat) : Int)) = False := eq_false (by decide)
    (have F := And.intro @q1 @q2; refine gG ?_; clear F)
    have F := hk
    refine gTP (R := fun r pm => ∃ E', r = [.one (.lit (.int .i64 (k + (cntRows [] : Nat))))] ∧ pm = [.set E' (fun w => Own w (.sl (mkRows k [])) E' (.slice a 0 cap))]) [1000] ⟨E, by simp only [cntRows, Int.natCast_zero, Int.add_zero]; rfl, by simp only [mkRows]; rfl⟩
  · have hrl : rowsLen 4 rows := okRows.rowsLen hok
    refine pEx [1000] [1000, 1001] (fd_open hne hrl) ?_
    rintro ⟨a, cap, ety, uss, E1⟩ ⟨rfl, hl, hmx⟩
    simp only at hl ⊢
    unfold maxLen at hmx
    refine pE [] [1002] re_none ?_
    (have F := And.intro @mkRows_nil (And.intro @cnt_nil (And.intro @Int.add_zero @Int.natCast_zero)); refine gL (ι := Nat × List (List Value) × (Nat → Prop) × (Nat → Prop)) [1, 5, 9] [1000, 1001, 1002] (fun x => [(5, .d (.one (.lit (.int .i64 (x.1 : Int))))), (1, .d (.one (.lit (.int .i64 (k + (cntRows (rows.take x.1) : Nat))))))]) (fun x => [(1000, .buf (some (a, cap)) ety 4 (x.2.1.map litRow)), (1001, .set x.2.2.1 (fun w => OwnVs w (rows.drop x.1) x.2.2.1 (x.2.1.drop x.1))), (1002, .set x.2.2.2 (fun w => OwnVs w (mkRows k (rows.take x.1)) x.2.2.2 (x.2.1.take x.1)))]) (fun x => x.1 ≤ rows.length ∧ x.2.1.length = rows.length) (fun x => rows.length - x.1) ((0, uss, E1, fun _ => False)) (⟨Nat.zero_le _, hl⟩) (fun x hx => ?_); clear F)
    obtain ⟨i, us, E2, E3⟩ := x
    obtain ⟨hi, hn⟩ := hx
    simp only at hi hn
    dsimp only
    by_cases hlt : i < rows.length
    · obtain ⟨r, hr⟩ : ∃ r, rows[i]? = some r := ⟨_, List.getElem?_eq_getElem hlt⟩
      obtain ⟨u, hu⟩ : ∃ u, us[i]? = some u := ⟨_, List.getElem?_eq_getElem (by omega)⟩
      obtain ⟨i0, t1, i2, r3, rfl, _, _, _, g3⟩ := okRow_Term (hok.get hr)
      have hm := h _ (List.mem_of_getElem? hr) i0 t1 i2 r3 rfl
      have hc1 : cntRows (rows.take (i + 1)) = cntRows (rows.take i) + (3 + cntRows r3) := by
        rw [tk_snoc hr, cnt_snoc]; simp only [cntRow, cntC]; omega
      have hc2 := cnt_take_le rows (i + 1)
      rw [drop_get hr, drop_get hu]
      refine pEx [1001] [1001] (fd_lits rfl) ?_
      rintro ⟨⟩ hlit
      obtain ⟨u3, rfl⟩ : ∃ u3, u = [.int .i64 i0, .string t1, .int .i64 i2, u3] := by
        match u, hlit with
        | [_, _, _, u3], ⟨rfl, rfl, rfl, _⟩ => exact ⟨u3, rfl⟩
      refine pEx (f := fun (x : (Nat → Prop) × (Nat → Nat → Prop)) => [.set x.1 (fun w => OwnVs w (rows.drop (i + 1)) x.1 (us.drop (i + 1))), .set (x.2 0) (fun w => Own w (.sl r3) (x.2 0) u3)]) [1001] [1001, 1003] (fd_row rfl) ?_
      rintro ⟨E4, Es⟩ -
      dsimp only
      generalize hkk : k + (cntRows (rows.take i) : Int) = kk
      have q1 : ((i : Int) < (rows.length : Int)) = True := eq_true (by omega)
      have q2 : i < rows.length := hlt
      have hs : ∀ X : List C, ((us.map litRow).set i X)[i]? = some X := fun X => set_get (by rw [len_lits, hn]; omega) X
      have w1 : IntKind.i64.wrap (kk + 1) = kk + 1 := IntWalk.i64_in _ (by omega)
      have w2 : IntKind.i64.wrap (kk + 1 + 1) = kk + 1 + 1 := IntWalk.i64_in _ (by omega)
      have w3 : IntKind.i64.wrap (kk + 1 + 1 + 1) = kk + 1 + 1 + 1 := IntWalk.i64_in _ (by omega)
      have w4 : IntKind.i64.wrap ((i : Int) + 1) = (i : Int) + 1 := IntWalk.i64_in _ (by omega)
      (have F := And.intro @q1 (And.intro @hl (And.intro @hn (And.intro @hu (And.intro @litRow4 (And.intro @len_lits (And.intro @set_len (And.intro @hs (And.intro @w1 (And.intro @w2 (And.intro @w3 (And.intro @q2 @set_set'))))))))))); refine gG ?_; clear F)
      refine gB ?_
      (have F := @q1; refine gC (con_markText (kk + 1) (by omega) (by omega)) ?_; clear F)
      (have F := And.intro @hl (And.intro @hn (And.intro @hu (And.intro @litRow4 (And.intro @len_lits (And.intro @set_len (And.intro @hs (And.intro @q2 @set_set'))))))); refine gR ?_; clear F)
      (have F := And.intro @q1 (And.intro @hl (And.intro @hn (And.intro @hu (And.intro @litRow4 (And.intro @len_lits (And.intro @set_len (And.intro @hs (And.intro @w1 (And.intro @w2 (And.intro @w3 (And.intro @q2 @set_set'))))))))))); refine gG ?_; clear F)
      refine gB ?_
      (have F := And.intro @q1 (And.intro @hl (And.intro @hn (And.intro @hu (And.intro @litRow4 (And.intro @len_lits (And.intro @set_len (And.intro @hs (And.intro @w1 (And.intro @w2 (And.intro @w3 (And.intro @q2 @set_set'))))))))))); refine gCP [1003] [1003] (hm (kk + 1 + 1 + 1) (Es 0) u3 (by omega) (by omega)) ?_; clear F)
      rintro r pm ⟨E5, rfl, rfl⟩
      simp only [setA, retA, zipM, List.cons_append, List.nil_append]
      (have F := @q1; refine gR ?_; clear F)
      obtain ⟨E6, hre⟩ : ∃ E6, Retold [.set E3 (fun w => OwnVs w (mkRows k (rows.take i)) E3 (us.take i)), .set E5 (fun w => Own w (.sl (mkRows (kk + 1 + 1 + 1) r3)) E5 u3)] [.set E6 (fun w => OwnVs w (mkRows k (rows.take (i + 1))) E6 ((us.set i [.int .i64 kk, .string (txt (kk + 1)), .int .i64 (kk + 1 + 1), u3]).take (i + 1)))] := by
        have hz := re_row (E := E3) (done := mkRows k (rows.take i)) (ud := us.take i) (cs := [.lit (.int .i64 kk), .lit (.string (txt (kk + 1))), .lit (.int .i64 (kk + 1 + 1)), .sl (mkRows (kk + 1 + 1 + 1) r3)]) (us := [.int .i64 kk, .string (txt (kk + 1)), .int .i64 (kk + 1 + 1), u3]) (Es := fun _ => E5) rfl ⟨rfl, rfl, rfl, trivial⟩
        rw [tk_snoc hr, mkRows_snoc, hkk, set_take (by omega)]
        simp only [mkRow, mkC, mkV, cntC, Int.natCast_one]
        exact ⟨_, hz⟩
      refine pE [1002, 1003] [1002] hre ?_
      have e1 : ((us.set i [.int .i64 kk, .string (txt (kk + 1)), .int .i64 (kk + 1 + 1), u3]).map litRow) = (us.map litRow).set i [.lit (.int .i64 kk), .lit (.string (txt (kk + 1))), .lit (.int .i64 (kk + 1 + 1)), .lit u3] := by rw [List.map_set, litRow4]
      have e2 := set_drop us i [.int .i64 kk, .string (txt (kk + 1)), .int .i64 (kk + 1 + 1), u3]
      have e5 : k + (cntRows (rows.take (i + 1)) : Int) = kk + 1 + 1 + 1 + (cntRows r3 : Int) := by rw [hc1]; omega
      have hn2 : (us.set i [.int .i64 kk, .string (txt (kk + 1)), .int .i64 (kk + 1 + 1), u3]).length = rows.length := by rw [set_len, hn]
      generalize us.set i [.int .i64 kk, .string (txt (kk + 1)), .int .i64 (kk + 1 + 1), u3] = us2 at e1 e2 hn2 ⊢
      rw [← e1, ← e2]
      (have F := And.intro @w4 (And.intro @e5 @hl); refine gG ?_; exact ⟨(i + 1, us2, E4, E6), ⟨hlt, hn2⟩, gw, gw, by omega⟩)
    · obtain rfl : i = rows.length := by omega
      have q1 : ((rows.length : Int) < (rows.length : Int)) = False := eq_false (by omega)
      rw [List.take_length, List.take_of_length_le (Nat.le_of_eq hn)]
      (have F := And.intro @q1 (And.intro @hl @hn); refine gG ?_; clear F)
      obtain ⟨E6, hre⟩ : ∃ E6, Retold [.buf (some (a, cap)) ety 4 (us.map litRow), .set E3 (fun w => OwnVs w (mkRows k rows) E3 us)] [.set E6 (fun w => Own w (.sl (mkRows k rows)) E6 (.slice a uss.length cap))] := by
        rw [hl, ← hn]
        exact ⟨_, re_close (fun w h => h) (Own.stable _ _ _)⟩
      refine pE [1000, 1002] [1000] hre ?_
      have F := hk
      exact gTP (R := fun r pm => ∃ E', r = [.one (.lit (.int .i64 (k + (cntRows rows : Nat))))] ∧ pm = [.set E' (fun w => Own w (.sl (mkRows k rows)) E' (.slice a uss.length cap))]) [1000] ⟨E6, rfl, rfl⟩
theorem markTermS_n (n : Nat) : ∀ rows, nodesRows rows < n → okRows (fieldsOf .term) rows → MarkS 47 rows := by
  induction n with
  | zero => exact fun _ h => by omega
  | succ n ih =>
    intro rows hn hok
    refine mark_TermS rows hok fun r hr i0 t1 i2 r3 he => ?_
    subst he
    obtain ⟨i, hi⟩ := List.getElem?_of_mem hr
    have h1 := nodes_get hi
    obtain ⟨_, _, _, _, he, _, _, _, g3⟩ := okRow_Term (hok.get hi)
    injection he with _ he; injection he with _ he; injection he with _ he; injection he with he _; injection he with he; subst he
    simp only [nodesRow, nodesC] at h1
    exact ih _ (by omega) g3
theorem markTermS_all {rows : List (List C)} (hok : okRows (fieldsOf .term) rows) : MarkS 47 rows := markTermS_n _ rows (Nat.lt_succ_self _) hok
def mkTop : Int → List C → List C
  | _, [] => []
  | k, .sl rows :: cs => .sl (mkRows k rows) :: mkTop (k + cntRows rows) cs
  | k, c :: cs => c :: mkTop k cs
def cntTop : List C → Nat
  | [] => 0
  | .sl rows :: cs => cntRows rows + cntTop cs
  | _ :: cs => cntTop cs
def MarkV (f : FuncId) (row : List C) : Prop := ∀ (k : Int) (E : Nat → Prop) (us : List Value), us.length = row.length → (litRow us).all okCell = true → 0 ≤ k → k + cntTop row ≤ 1000000000 → ConP e0 f [.agg (litRow us), .one (.lit (.int .i64 k))] [.set E (fun w => OwnVals w row E us)] (fun r pm => ∃ E', r = [.one (.lit (.int .i64 (k + cntTop row)))] ∧ pm = [.set E' (fun w => OwnVals w (mkTop k row) E' us)])
theorem fd_vals {E : Nat → Prop} {r : List C} {us : List Value} (hp : r.all plainC = true) : Found (ι := Unit) [.set E (fun w => OwnVals w r E us)] (fun _ => litsOk r us) (fun _ => [.set E (fun w => OwnVals w r E us)]) := fun w S h ha => by
  obtain ⟨h1, h2, h3⟩ : (∀ b, E b → b < w.heap.size ∧ ¬ S b) ∧ OwnVals w r E us ∧ _ := h (.set E (fun w => OwnVals w r E us)) (by simp)
  obtain ⟨Es, hl, _⟩ := cells_of (S := S) hp h2 h1
  exact ⟨(), hl, h, ha, fun _ h => h⟩
theorem fd_cells {E : Nat → Prop} {r : List C} {us : List Value} (hp : r.all plainC = true) : Found (ι := Nat → Nat → Prop) [.set E (fun w => OwnVals w r E us)] (fun _ => True) (fun i => cellSets r us i) := fun w S h ha => by
  obtain ⟨h1, h2, h3⟩ : (∀ b, E b → b < w.heap.size ∧ ¬ S b) ∧ OwnVals w r E us ∧ _ := h (.set E (fun w => OwnVals w r E us)) (by simp)
  obtain ⟨Es, hl, q1, q2, q3⟩ := cells_of (S := S) hp h2 h1
  exact ⟨Es, trivial, q1, q2, fun g hg => ⟨_, List.mem_cons_self, q3 g hg⟩⟩
theorem re_cells {cs : List C} {us : List Value} {Es : Nat → Nat → Prop} (hp : cs.all plainC = true) (hl : litsOk cs us) : Retold (cellSets cs us Es) [.set (pblks (cellSets cs us Es)) (fun w => OwnVals w cs (pblks (cellSets cs us Es)) us)] := fun w S h ha => by
  have hv := OwnVals.of_cells (w := w) (S := S) hp hl h ha
  refine ⟨fun x hx => ?_, apart_1 _, fun g ⟨x, hx, hg⟩ => ?_⟩
  · simp only [List.mem_cons, List.not_mem_nil, or_false] at hx
    subst hx
    refine ⟨fun b ⟨y, hy, hg⟩ => ?_, hv, OwnVals.stable _ _ _⟩
    obtain ⟨E', G', rfl⟩ := cellSets_set y hy
    exact (h _ hy).1 b hg
  · simp only [List.mem_cons, List.not_mem_nil, or_false] at hx
    subst hx
    exact hg
set_option maxHeartbeats 8000000 in
theorem markTerm_all {row : List C} (hok : okRow (fieldsOf .term) row) : MarkV 36 row := by
  obtain ⟨i0, t1, i2, r3, rfl, _, _, _, g3⟩ := okRow_Term hok
  intro k E us hl hc hk hb
  obtain ⟨u0, u1, u2, u3, rfl⟩ := len4 hl
  obtain ⟨k0, k1, k2, k3⟩ := okc4 hc
  simp only [cntTop, Nat.add_zero] at hb ⊢
  rw [litRow4]
  refine gIP (ts := [.slot 4]) [1000] 23 Tryz.func36 ?_
  refine pEx [1000] [1000] (fd_vals rfl) ?_
  rintro ⟨⟩ ⟨rfl, rfl, rfl, _⟩
  refine pEx (f := fun (x : Nat → Nat → Prop) => [.set (x 0) (fun w => Own w (.sl r3) (x 0) u3)]) [1000] [1000] (fd_cells rfl) ?_
  rintro Es -
  (have F := And.intro @k0 (And.intro @k1 (And.intro @k2 @k3)); refine gG ?_; clear F)
  refine gB ?_
  (have F := And.intro @k0 (And.intro @k1 (And.intro @k2 @k3)); refine gCP [1000] [1000] (markTermS_all g3 k (Es 0) u3 hk hb) ?_; clear F)
  rintro r pm ⟨E5, rfl, rfl⟩
  simp only [setA, retA, zipM, List.cons_append, List.nil_append]
  (have F := And.intro @k0 (And.intro @k1 (And.intro @k2 @k3)); refine gR ?_; clear F)
  (have F := And.intro @k0 (And.intro @k1 (And.intro @k2 @k3)); refine gG ?_; clear F)
  obtain ⟨E6, hre⟩ : ∃ E6, Retold [.set E5 (fun w => Own w (.sl (mkRows k r3)) E5 u3)] [.set E6 (fun w => OwnVals w [.lit (.int .i64 i0), .lit (.string t1), .lit (.int .i64 i2), .sl (mkRows k r3)] E6 [.int .i64 i0, .string t1, .int .i64 i2, u3])] :=
    ⟨_, re_cells (cs := [.lit (.int .i64 i0), .lit (.string t1), .lit (.int .i64 i2), .sl (mkRows k r3)]) (us := [.int .i64 i0, .string t1, .int .i64 i2, u3]) (Es := fun _ => E5) rfl ⟨rfl, rfl, rfl, trivial⟩⟩
  refine pE [1000] [1000] hre ?_
  have F := hk
  exact gTP (R := fun r pm => ∃ E', r = [.one (.lit (.int .i64 (k + (cntRows r3 : Nat))))] ∧ pm = [.set E' (fun w => OwnVals w (mkTop k [.lit (.int .i64 i0), .lit (.string t1), .lit (.int .i64 i2), .sl r3]) E' [.int .i64 i0, .string t1, .int .i64 i2, u3])]) [1000] ⟨E6, rfl, by simp only [mkTop]; rfl⟩
end Go.Proofs.YtofklmbljbkdaaaGreat
namespace Go.Proofs.YtofklmbljbkdaaaGreat
open Go.RowKit
def HeldS (f : FuncId) (rows : List (List C)) : Prop := ∀ (k : Int), 0 ≤ k → k + cntRows rows ≤ 1000000000 → Con e0 f [.one (.sl (mkRows k rows)), .one (.lit (.int .i64 k))] [.one (.lit (.int .i64 (k + cntRows rows)))]
theorem mkRows_get : ∀ {rows : List (List C)} {i : Nat} {r : List C} (k : Int), rows[i]? = some r → (mkRows k rows)[i]? = some (mkRow (k + cntRows (rows.take i)) r)
  | q :: rows, 0, r, k, h => by simp at h; subst h; simp [mkRows, cntRows]
  | q :: rows, i + 1, r, k, h => by
    simp only [List.getElem?_cons_succ] at h
    simp only [mkRows, List.getElem?_cons_succ, List.take_succ_cons, cntRows]
    rw [mkRows_get _ h]
    congr 2
    omega
  | [], _, _, _, h => by simp at h
theorem mkV_ok {v : Value} {k : Int} (h : okCell (.lit v) = true) : okCell (.lit (mkV k v)) = true := by
  cases v <;> first | rfl | exact h
theorem mkRow_cells : ∀ (cs : List C) (k : Int), cs.all okCell = true → (mkRow k cs).all okCell = true
  | [], _, _ => by simp [mkRow]
  | c :: cs, k, h => by
    simp only [List.all_cons, Bool.and_eq_true] at h
    simp only [mkRow, List.all_cons, Bool.and_eq_true]
    refine ⟨?_, mkRow_cells cs _ h.2⟩
    cases c with
    | lit v => simp only [mkC]; exact mkV_ok h.1
    | _ => simp [mkC, okCell]
theorem rb_mk {n : Nat} : ∀ {rows : List (List C)} (k : Int), rowsLen n rows → rowsB n (mkRows k rows) = true
  | [], k, _ => by simp [mkRows, rowsB]
  | r :: rows, k, h => by
    have h1 := h r List.mem_cons_self
    have h2 := rb_mk (k + cntRow r) (fun x hx => h x (List.mem_cons_of_mem _ hx) : rowsLen n rows)
    unfold rowsB at h2 ⊢
    simp only [mkRows, List.all_cons, Bool.and_eq_true]
    exact ⟨⟨by rw [mkRow_len, h1.1]; exact beq_self_eq_true n, mkRow_cells _ _ h1.2⟩, h2⟩
set_option maxHeartbeats 8000000 in
set_option maxRecDepth 100000 in
theorem held_TermS (rows : List (List C)) (hok : okRows (fieldsOf .term) rows) (hmx : rows.length ≤ 1048576) (h : ∀ r ∈ rows, ∀ i0 t1 i2 r3, r = [.lit (.int .i64 i0), .lit (.string t1), .lit (.int .i64 i2), .sl r3] → HeldS 48 r3) : HeldS 48 rows := by
  intro k hk hb
  have hrb : rowsB 4 (mkRows k rows) = true := rb_mk k hok.rowsLen
  have hml := mkRows_len k rows
  refine gI (ts := [.slot 4]) 281612684362291 Tryz.func48 ?_
  (have F := @e0P; refine gG ?_; clear F)
  (have F := And.intro @mkRows_nil (And.intro @cnt_nil (And.intro @Int.add_zero @Int.natCast_zero)); refine gL (ι := Nat) [1, 4, 5, 9, 18, 28, 37, 48] [] (fun x => [(5, .d (.one (.lit (.int .i64 (x : Int))))), (1, .d (.one (.lit (.int .i64 (k + (cntRows (rows.take x) : Nat))))))]) (fun x => []) (fun x => x ≤ rows.length) (fun x => rows.length - x) (0) (Nat.zero_le _) (fun x hx => ?_); clear F)
  by_cases hlt : x < rows.length
  · obtain ⟨r, hr⟩ : ∃ r, rows[x]? = some r := ⟨_, List.getElem?_eq_getElem hlt⟩
    obtain ⟨i0, t1, i2, r3, rfl, _, _, _, g3⟩ := okRow_Term (hok.get hr)
    have hm := h _ (List.mem_of_getElem? hr) i0 t1 i2 r3 rfl
    have hc1 : cntRows (rows.take (x + 1)) = cntRows (rows.take x) + (3 + cntRows r3) := by
      rw [tk_snoc hr, cnt_snoc]; simp only [cntRow, cntC]; omega
    have hc2 := cnt_take_le rows (x + 1)
    have hg := mkRows_get k hr
    simp only [mkRow, mkC, mkV, cntC, Int.natCast_one] at hg
    have e5 : k + (cntRows (rows.take (x + 1)) : Int) = k + (cntRows (rows.take x) : Int) + 1 + 1 + 1 + (cntRows r3 : Int) := by rw [hc1]; omega
    have b1 : k + (cntRows (rows.take x) : Int) + 3 + cntRows r3 ≤ 1000000000 := by omega
    have b0 : 0 ≤ k + (cntRows (rows.take x) : Int) := by omega
    generalize k + (cntRows (rows.take x) : Int) = kk at hg e5 b1 b0 ⊢
    have q1 : ((x : Int) < (rows.length : Int)) = True := eq_true (by omega)
    have w1 : IntKind.i64.wrap (kk + 1) = kk + 1 := IntWalk.i64_in _ (by omega)
    have w2 : IntKind.i64.wrap (kk + 1 + 1) = kk + 1 + 1 := IntWalk.i64_in _ (by omega)
    have w3 : IntKind.i64.wrap (kk + 1 + 1 + 1) = kk + 1 + 1 + 1 := IntWalk.i64_in _ (by omega)
    have w4 : IntKind.i64.wrap ((x : Int) + 1) = (x : Int) + 1 := IntWalk.i64_in _ (by omega)
    (have F := And.intro @q1 (And.intro @hml (And.intro @hrb (And.intro @hg (And.intro @beq_self_eq_true.{0} @w1)))); refine gG ?_; clear F)
    refine gB ?_
    (have F := And.intro @q1 (And.intro @hml (And.intro @hrb @hg)); refine gC (con_markText (kk + 1) (by omega) (by omega)) ?_; clear F)
    (have F := And.intro @q1 (And.intro @hml (And.intro @hrb (And.intro @hg @beq_self_eq_true.{0}))); refine gR ?_; clear F)
    (have F := And.intro @q1 (And.intro @hml (And.intro @hrb (And.intro @hg (And.intro @beq_self_eq_true.{0} (And.intro @w1 (And.intro @w2 @w3)))))); refine gG ?_; clear F)
    refine gB ?_
    (have F := And.intro @q1 (And.intro @hml (And.intro @hrb @hg)); refine gC (hm (kk + 1 + 1 + 1) (by omega) (by omega)) ?_; clear F)
    (have F := @q1; refine gR ?_; clear F)
    have q5 : (kk + 1 + 1 + 1 + (cntRows r3 : Int) < 0) = False := eq_false (by omega)
    (have F := And.intro @q5 (And.intro @w4 @e5); refine gG ?_; exact ⟨x + 1, hlt, gw, gw, by omega⟩)
  · obtain rfl : x = rows.length := by omega
    have q1 : ((rows.length : Int) < (rows.length : Int)) = False := eq_false (by omega)
    rw [List.take_length]
    (have F := And.intro @q1 @hml; refine gG ?_; exact gTd)
theorem heldTermS_n (n : Nat) : ∀ rows, nodesRows rows < n → okRows (fieldsOf .term) rows → rows.length + bulkRows rows ≤ 1048576 → HeldS 48 rows := by
  induction n with
  | zero => exact fun _ h => by omega
  | succ n ih =>
    intro rows hn hok hB
    refine held_TermS rows hok (by omega) fun r hr i0 t1 i2 r3 he => ?_
    subst he
    obtain ⟨i, hi⟩ := List.getElem?_of_mem hr
    have h1 := nodes_get hi
    have h2 := bulk_get hi
    obtain ⟨_, _, _, _, he, _, _, _, g3⟩ := okRow_Term (hok.get hi)
    injection he with _ he; injection he with _ he; injection he with _ he; injection he with he _; injection he with he; subst he
    simp only [nodesRow, nodesC] at h1
    simp only [bulkRow, bulkC] at h2
    exact ih _ (by omega) g3 (by omega)
theorem heldTermS_all {rows : List (List C)} (hok : okRows (fieldsOf .term) rows) (hB : rows.length + bulkRows rows ≤ 1048576) : HeldS 48 rows := heldTermS_n _ rows (Nat.lt_succ_self _) hok hB
end Go.Proofs.YtofklmbljbkdaaaGreat
namespace Go.Proofs.YtofklmbljbkdaaaGreat
open Go.RowKit
theorem litRow1 (u0 : Value) : litRow [u0] = [.lit u0] := rfl
set_option maxHeartbeats 8000000 in
set_option maxRecDepth 100000 in
theorem mark_IntS {rows : List (List C)} (hok : okRows (fieldsOf .int) rows) : MarkS 37 rows := by
  intro k E v hk hb
  refine gIP (ts := [.slot 4]) [1000] 563 Tryz.func37 ?_
  (have F := @e0P; refine gG ?_; clear F)
  by_cases hne : rows = []
  · subst hne
    refine pEx [1000] [1000] fd_nil ?_
    rintro ⟨a, cap⟩ rfl
    (have F := @hk; refine gL (ι := Unit) [1, 5, 9] [] (fun x => [(5, .d (.one (.lit (.int .i64 0)))), (1, .d (.one (.lit (.int .i64 k))))]) (fun x => []) (fun x => True) (fun x => 0) (()) (trivial) (fun x hx => ?_); clear F)
    have q1 : ((0 : Int) < 0) = False := eq_false (by decide)
    have q2 : ((0 : Int) < ((0 : Nat) : Int)) = False := eq_false (by decide)
    (have F := And.intro @q1 @q2; refine gG ?_; clear F)
    have F := hk
    refine gTP (R := fun r pm => ∃ E', r = [.one (.lit (.int .i64 (k + (cntRows [] : Nat))))] ∧ pm = [.set E' (fun w => Own w (.sl (mkRows k [])) E' (.slice a 0 cap))]) [1000] ⟨E, by simp only [cntRows, Int.natCast_zero, Int.add_zero]; rfl, by simp only [mkRows]; rfl⟩
  · have hrl : rowsLen 1 rows := okRows.rowsLen hok
    refine pEx [1000] [1000, 1001] (fd_open hne hrl) ?_
    rintro ⟨a, cap, ety, uss, E1⟩ ⟨rfl, hl, hmx⟩
    simp only at hl ⊢
    unfold maxLen at hmx
    refine pE [] [1002] re_none ?_
    (have F := And.intro @mkRows_nil (And.intro @cnt_nil (And.intro @Int.add_zero @Int.natCast_zero)); refine gL (ι := Nat × List (List Value) × (Nat → Prop) × (Nat → Prop)) [1, 5, 9] [1000, 1001, 1002] (fun x => [(5, .d (.one (.lit (.int .i64 (x.1 : Int))))), (1, .d (.one (.lit (.int .i64 (k + (cntRows (rows.take x.1) : Nat))))))]) (fun x => [(1000, .buf (some (a, cap)) ety 1 (x.2.1.map litRow)), (1001, .set x.2.2.1 (fun w => OwnVs w (rows.drop x.1) x.2.2.1 (x.2.1.drop x.1))), (1002, .set x.2.2.2 (fun w => OwnVs w (mkRows k (rows.take x.1)) x.2.2.2 (x.2.1.take x.1)))]) (fun x => x.1 ≤ rows.length ∧ x.2.1.length = rows.length) (fun x => rows.length - x.1) ((0, uss, E1, fun _ => False)) (⟨Nat.zero_le _, hl⟩) (fun x hx => ?_); clear F)
    obtain ⟨i, us, E2, E3⟩ := x
    obtain ⟨hi, hn⟩ := hx
    simp only at hi hn
    dsimp only
    by_cases hlt : i < rows.length
    · obtain ⟨r, hr⟩ : ∃ r, rows[i]? = some r := ⟨_, List.getElem?_eq_getElem hlt⟩
      obtain ⟨u, hu⟩ : ∃ u, us[i]? = some u := ⟨_, List.getElem?_eq_getElem (by omega)⟩
      obtain ⟨i0, rfl, _⟩ := okRow_Int (hok.get hr)
      have hc1 : cntRows (rows.take (i + 1)) = cntRows (rows.take i) + 1 := by
        rw [tk_snoc hr, cnt_snoc]; simp only [cntRow, cntC]
      have hc2 := cnt_take_le rows (i + 1)
      rw [drop_get hr, drop_get hu]
      refine pEx [1001] [1001] (fd_lits rfl) ?_
      rintro ⟨⟩ hlit
      obtain rfl : u = [.int .i64 i0] := by
        match u, hlit with
        | [_], ⟨rfl, _⟩ => rfl
      refine pEx (f := fun (x : (Nat → Prop) × (Nat → Nat → Prop)) => [.set x.1 (fun w => OwnVs w (rows.drop (i + 1)) x.1 (us.drop (i + 1)))]) [1001] [1001] (fd_row rfl) ?_
      rintro ⟨E4, Es⟩ -
      dsimp only
      generalize hkk : k + (cntRows (rows.take i) : Int) = kk
      have q1 : ((i : Int) < (rows.length : Int)) = True := eq_true (by omega)
      have q2 : i < rows.length := hlt
      have w1 : IntKind.i64.wrap (kk + 1) = kk + 1 := IntWalk.i64_in _ (by omega)
      have w4 : IntKind.i64.wrap ((i : Int) + 1) = (i : Int) + 1 := IntWalk.i64_in _ (by omega)
      (have F := And.intro @q1 (And.intro @hl (And.intro @hn (And.intro @hu (And.intro @litRow1 (And.intro @len_lits (And.intro @set_len (And.intro @w1 @q2))))))); have NN : StopAt 3 := trivial; refine gGn ?_; clear F NN)
      obtain ⟨E6, hre⟩ : ∃ E6, Retold [.set E3 (fun w => OwnVs w (mkRows k (rows.take i)) E3 (us.take i))] [.set E6 (fun w => OwnVs w (mkRows k (rows.take (i + 1))) E6 ((us.set i [.int .i64 kk]).take (i + 1)))] := by
        have hz := re_row (E := E3) (done := mkRows k (rows.take i)) (ud := us.take i) (cs := [.lit (.int .i64 kk)]) (us := [.int .i64 kk]) (Es := fun _ _ => False) rfl ⟨rfl, trivial⟩
        rw [tk_snoc hr, mkRows_snoc, hkk, set_take (by omega)]
        simp only [mkRow, mkC, mkV]
        exact ⟨_, hz⟩
      refine pE [1002] [1002] hre ?_
      have e1 : ((us.set i [.int .i64 kk]).map litRow) = (us.map litRow).set i [.lit (.int .i64 kk)] := by rw [List.map_set, litRow1]
      have e2 := set_drop us i [.int .i64 kk]
      have e5 : k + (cntRows (rows.take (i + 1)) : Int) = kk + 1 := by rw [hc1]; omega
      have hn2 : (us.set i [.int .i64 kk]).length = rows.length := by rw [set_len, hn]
      generalize us.set i [.int .i64 kk] = us2 at e1 e2 hn2 ⊢
      rw [← e1, ← e2]
      (have F := And.intro @w4 (And.intro @e5 @hl); refine gG ?_; exact ⟨(i + 1, us2, E4, E6), ⟨hlt, hn2⟩, gw, gw, by omega⟩)
    · obtain rfl : i = rows.length := by omega
      have q1 : ((rows.length : Int) < (rows.length : Int)) = False := eq_false (by omega)
      rw [List.take_length, List.take_of_length_le (Nat.le_of_eq hn)]
      (have F := And.intro @q1 (And.intro @hl @hn); refine gG ?_; clear F)
      obtain ⟨E6, hre⟩ : ∃ E6, Retold [.buf (some (a, cap)) ety 1 (us.map litRow), .set E3 (fun w => OwnVs w (mkRows k rows) E3 us)] [.set E6 (fun w => Own w (.sl (mkRows k rows)) E6 (.slice a uss.length cap))] := by
        rw [hl, ← hn]
        exact ⟨_, re_close (fun w h => h) (Own.stable _ _ _)⟩
      refine pE [1000, 1002] [1000] hre ?_
      have F := hk
      exact gTP (R := fun r pm => ∃ E', r = [.one (.lit (.int .i64 (k + (cntRows rows : Nat))))] ∧ pm = [.set E' (fun w => Own w (.sl (mkRows k rows)) E' (.slice a uss.length cap))]) [1000] ⟨E6, rfl, rfl⟩
theorem markIntS_all {rows : List (List C)} (hok : okRows (fieldsOf .int) rows) : MarkS 37 rows := mark_IntS hok
end Go.Proofs.YtofklmbljbkdaaaGreat
namespace Go.Proofs.YtofklmbljbkdaaaGreat
open Go.RowKit
def Read1 (pm : List Bk) (l d : D) : Prop := l = d ∨ (∃ us row E, l = .agg (litRow us) ∧ d = .agg row ∧ .set E (fun w => OwnVals w row E us) ∈ pm) ∨ (∃ v rows E, l = .one (.lit v) ∧ d = .one (.sl rows) ∧ .set E (fun w => Own w (.sl rows) E v) ∈ pm)
def Reads (pm : List Bk) : List D → List D → Prop
  | [], [] => True
  | l :: ls, d :: ds => Read1 pm l d ∧ Reads pm ls ds
  | _, _ => False
theorem Read1.same {pm : List Bk} {d : D} : Read1 pm d d := .inl rfl
theorem Read1.tree {pm : List Bk} {us : List Value} {row : List C} {E : Nat → Prop} (h : .set E (fun w => OwnVals w row E us) ∈ pm) : Read1 pm (.agg (litRow us)) (.agg row) := .inr (.inl ⟨us, row, E, rfl, rfl, h⟩)
theorem Read1.treeS {pm : List Bk} {v : Value} {rows : List (List C)} {E : Nat → Prop} (h : .set E (fun w => Own w (.sl rows) E v) ∈ pm) : Read1 pm (.one (.lit v)) (.one (.sl rows)) := .inr (.inr ⟨v, rows, E, rfl, rfl, h⟩)
theorem Reads.rel {pm : List Bk} : ∀ {lits data : List D}, Reads pm lits data → ∀ (w : World) (S : Nat → Prop) (vs : List Value), (∀ x ∈ pm, PinRel w S x) → DsRel w S lits vs → DsRel w (fun b => S b ∨ pblks pm b) data vs
  | [], [], _, w, S, [], _, _ => trivial
  | [], [], _, w, S, _ :: _, _, h => h.elim
  | l :: ls, d :: ds, hr, w, S, [], _, h => h.elim
  | l :: ls, d :: ds, ⟨h1, h2⟩, w, S, v :: vs, hp, ⟨hv, hvs⟩ => by
    refine ⟨?_, Reads.rel h2 w S vs hp hvs⟩
    rcases h1 with rfl | ⟨us, row, E, rfl, rfl, hm⟩ | ⟨u, rows, E, rfl, rfl, hm⟩
    · exact DRel.keep (Nat.le_refl _) (fun _ _ _ => rfl) (fun b hb => .inl hb) hv
    · obtain ⟨vs', rfl, hr⟩ := hv
      rw [RepVals_lit hr]
      obtain ⟨_, h3, _⟩ := hp _ hm
      exact ⟨us, rfl, OwnVals.rep row E _ us (fun b hb => .inr ⟨_, hm, hb⟩) h3⟩
    · have hv : v = u := hv
      subst hv
      obtain ⟨_, h3, _⟩ := hp _ hm
      exact (Own.rep _ E v h3).mono fun b hb => .inr ⟨_, hm, hb⟩
  | [], _ :: _, h, _, _, _, _, _ => h.elim
  | _ :: _, [], h, _, _, _, _, _ => h.elim
theorem conP_rd {e : Env} {f : FuncId} {data lits : List D} {R : List D → List Bk → Prop} (pm : List Bk) (h : ConP e f data [] R) (hr : Reads pm lits data) (hset : pm.all isSet = true) (hR : ∀ r q, R r q → r.all litD = true ∧ q.all isSet = true) : ConP e f lits pm (fun r q => ∃ q1, R r q1 ∧ q = q1 ++ pm) :=
  conP_read pm h hset hR hr.rel
theorem con_rd {e : Env} {f : FuncId} {data lits r : List D} (pm : List Bk) (h : Con e f data r) (hr : Reads pm lits data) (hset : pm.all isSet = true) (hl : r.all litD = true) : ConP e f lits pm (fun r' q => r' = r ∧ q = pm) := by
  have hc := conP_rd pm (con_P h) hr hset (fun r' q ⟨h1, h2⟩ => by rw [h1, h2]; exact ⟨hl, rfl⟩)
  refine ⟨hc.1, fun w S vs h1 h2 h3 h4 h5 h6 => (hc.2 w S vs h1 h2 h3 h4 h5 h6).mono ?_⟩
  rintro en w' ⟨v, r', q, k1, ⟨q1, ⟨rfl, rfl⟩, rfl⟩, k3⟩
  exact ⟨v, r', _, k1, ⟨rfl, rfl⟩, k3⟩
theorem litRow_lits (us : List Value) : (litRow us).all litC = true := by
  induction us with
  | nil => rfl
  | cons u us ih => simp only [litRow, List.map_cons, List.all_cons, litC, Bool.true_and]; exact ih
theorem RTree.lits {row : List C} {r : List D} {q : List Bk} (h : RTree row r q) : r.all litD = true ∧ q.all isSet = true := by
  obtain ⟨us, E, rfl, _, _, rfl⟩ := h
  exact ⟨by simp only [List.all_cons, List.all_nil, litD, litRow_lits]; rfl, rfl⟩
theorem RTreeS.lits {rows : List (List C)} {r : List D} {q : List Bk} (h : RTreeS rows r q) : r.all litD = true ∧ q.all isSet = true := by
  obtain ⟨v, E, rfl, _, rfl⟩ := h
  exact ⟨rfl, rfl⟩
def RTreeF (row : List C) (b : Bool) (r : List D) (pm : List Bk) : Prop := ∃ us E, r = [.agg (litRow us), .one (.lit (.bool b))] ∧ us.length = row.length ∧ (litRow us).all okCell = true ∧ pm = [.set E (fun w => OwnVals w row E us)]
theorem RTreeF.lits {row : List C} {b : Bool} {r : List D} {q : List Bk} (h : RTreeF row b r q) : r.all litD = true ∧ q.all isSet = true := by
  obtain ⟨us, E, rfl, _, _, rfl⟩ := h
  exact ⟨by simp only [List.all_cons, List.all_nil, litD, litRow_lits]; rfl, rfl⟩
def RTreeSF (rows : List (List C)) (b : Bool) (r : List D) (pm : List Bk) : Prop := ∃ v E, r = [.one (.lit v), .one (.lit (.bool b))] ∧ okCell (.lit v) = true ∧ pm = [.set E (fun w => Own w (.sl rows) E v)]
theorem RTreeSF.lits {rows : List (List C)} {b : Bool} {r : List D} {q : List Bk} (h : RTreeSF rows b r q) : r.all litD = true ∧ q.all isSet = true := by
  obtain ⟨v, E, rfl, _, rfl⟩ := h
  exact ⟨rfl, rfl⟩
end Go.Proofs.YtofklmbljbkdaaaGreat
namespace Go.Proofs.YtofklmbljbkdaaaGreat
open Go.RowKit
set_option maxHeartbeats 16000000 in
set_option maxRecDepth 100000 in
theorem mark_StringS_of {rows : List (List C)} (hok : okRows (fieldsOf .str) rows) : MarkS 158 rows := by
  intro k E v hk hb
  refine gIP (ts := [.slot 4]) [1000] 563 Tryz.func158 ?_
  (have F := @e0P; refine gG ?_; clear F)
  by_cases hne : rows = []
  · subst hne
    refine pEx [1000] [1000] fd_nil ?_
    rintro ⟨a, cap⟩ rfl
    (have F := @hk; refine gL (ι := Unit) [1, 5, 9] [] (fun x => [(5, .d (.one (.lit (.int .i64 0)))), (1, .d (.one (.lit (.int .i64 k))))]) (fun x => []) (fun x => True) (fun x => 0) (()) (trivial) (fun x hx => ?_); clear F)
    have q1 : ((0 : Int) < 0) = False := eq_false (by decide)
    have q2 : ((0 : Int) < ((0 : Nat) : Int)) = False := eq_false (by decide)
    (have F := And.intro @q1 @q2; refine gG ?_; clear F)
    have F := hk
    refine gTP (R := fun r pm => ∃ E', r = [.one (.lit (.int .i64 (k + (cntRows [] : Nat))))] ∧ pm = [.set E' (fun w => Own w (.sl (mkRows k [])) E' (.slice a 0 cap))]) [1000] ⟨E, by simp only [cntRows, Int.natCast_zero, Int.add_zero]; rfl, by simp only [mkRows]; rfl⟩
  · have hrl : rowsLen 1 rows := okRows.rowsLen hok
    refine pEx [1000] [1000, 1001] (fd_open hne hrl) ?_
    rintro ⟨a, cap, ety, uss, E1⟩ ⟨rfl, hl, hmx⟩
    simp only at hl ⊢
    unfold maxLen at hmx
    refine pE [] [1002] re_none ?_
    (have F := And.intro @mkRows_nil (And.intro @cnt_nil (And.intro @Int.add_zero @Int.natCast_zero)); refine gL (ι := Nat × List (List Value) × (Nat → Prop) × (Nat → Prop)) [1, 5, 9] [1000, 1001, 1002] (fun x => [(5, .d (.one (.lit (.int .i64 (x.1 : Int))))), (1, .d (.one (.lit (.int .i64 (k + (cntRows (rows.take x.1) : Nat))))))]) (fun x => [(1000, .buf (some (a, cap)) ety 1 (x.2.1.map litRow)), (1001, .set x.2.2.1 (fun w => OwnVs w (rows.drop x.1) x.2.2.1 (x.2.1.drop x.1))), (1002, .set x.2.2.2 (fun w => OwnVs w (mkRows k (rows.take x.1)) x.2.2.2 (x.2.1.take x.1)))]) (fun x => x.1 ≤ rows.length ∧ x.2.1.length = rows.length) (fun x => rows.length - x.1) ((0, uss, E1, fun _ => False)) (⟨Nat.zero_le _, hl⟩) (fun x hx => ?_); clear F)
    obtain ⟨i, us, E2, E3⟩ := x
    obtain ⟨hi, hn⟩ := hx
    simp only at hi hn
    dsimp only
    by_cases hlt : i < rows.length
    · obtain ⟨r, hr⟩ : ∃ r, rows[i]? = some r := ⟨_, List.getElem?_eq_getElem hlt⟩
      obtain ⟨u, hu⟩ : ∃ u, us[i]? = some u := ⟨_, List.getElem?_eq_getElem (by omega)⟩
      obtain ⟨t0, rfl, g0⟩ := okRow_String (hok.get hr)
      have hc1 : cntRows (rows.take (i + 1)) = cntRows (rows.take i) + (1) := by
        rw [tk_snoc hr, cnt_snoc]; simp only [cntRow, cntC]; try omega
      have hc2 := cnt_take_le rows (i + 1)
      rw [drop_get hr, drop_get hu]
      refine pEx [1001] [1001] (fd_lits rfl) ?_
      rintro ⟨⟩ hlit
      obtain rfl : u = [.string t0] := by
        match u, hlit with
        | [_], ⟨rfl, _⟩ => rfl
      refine pEx (f := fun (x : (Nat → Prop) × (Nat → Nat → Prop)) => [.set x.1 (fun w => OwnVs w (rows.drop (i + 1)) x.1 (us.drop (i + 1)))]) [1001] [1001] (fd_row rfl) ?_
      rintro ⟨E4, Es⟩ -
      dsimp only
      have hkk0 : 0 ≤ k + (cntRows (rows.take i) : Int) := by omega
      have hkk1 : k + (cntRows (rows.take i) : Int) + ((1 : Nat) : Int) ≤ 1000000000 := by omega
      generalize hkk : k + (cntRows (rows.take i) : Int) = kk at hkk0 hkk1 ⊢
      have q1 : ((i : Int) < (rows.length : Int)) = True := eq_true (by omega)
      have q2 : i < rows.length := hlt
      have hs : ∀ X : List C, ((us.map litRow).set i X)[i]? = some X := fun X => set_get (by rw [len_lits, hn]; omega) X
      have lr : litRow [.string t0] = [.lit (.string t0)] := rfl
      have w0 : IntKind.i64.wrap (kk + 1) = kk + 1 := IntWalk.i64_in _ (by omega)
      have wi : IntKind.i64.wrap ((i : Int) + 1) = (i : Int) + 1 := IntWalk.i64_in _ (by omega)
      (have F := And.intro @q1 (And.intro @hl (And.intro @hn (And.intro @hu (And.intro @lr (And.intro @len_lits (And.intro @set_len (And.intro @hs (And.intro @w0 (And.intro @q2 @set_set'))))))))); refine gG ?_; clear F)
      refine gB ?_
      (have F := And.intro @q1 (And.intro @hl (And.intro @hn (And.intro @hu (And.intro @lr (And.intro @len_lits (And.intro @set_len (And.intro @hs (And.intro @w0 (And.intro @q2 @set_set'))))))))); refine gC (con_markText (kk) (by omega) (by omega)) ?_; clear F)
      (have F := And.intro @q1 (And.intro @hl (And.intro @hn (And.intro @hu (And.intro @lr (And.intro @len_lits (And.intro @set_len (And.intro @hs (And.intro @w0 (And.intro @q2 @set_set'))))))))); refine gR ?_; clear F)
      obtain ⟨E6, hre⟩ : ∃ E6, Retold [.set E3 (fun w => OwnVs w (mkRows k (rows.take i)) E3 (us.take i))] [.set E6 (fun w => OwnVs w (mkRows k (rows.take (i + 1))) E6 ((us.set i [.string (txt (kk))]).take (i + 1)))] := by
        have hz := re_row (E := E3) (done := mkRows k (rows.take i)) (ud := us.take i) (cs := [.lit (.string (txt (kk)))]) (us := [.string (txt (kk))]) (Es := fun _ _ => False) rfl ⟨rfl, trivial⟩
        rw [tk_snoc hr, mkRows_snoc, hkk, set_take (by omega)]
        simp only [mkRow, mkC, mkV, cntC, Int.natCast_one]
        exact ⟨_, hz⟩
      refine pE [1002] [1002] hre ?_
      have e1 : ((us.set i [.string (txt (kk))]).map litRow) = (us.map litRow).set i [.lit (.string (txt (kk)))] := by rw [List.map_set]; rfl
      have e2 := set_drop us i [.string (txt (kk))]
      have e5 : k + (cntRows (rows.take (i + 1)) : Int) = kk + 1 := by rw [hc1]; omega
      have hn2 : (us.set i [.string (txt (kk))]).length = rows.length := by rw [set_len, hn]
      generalize us.set i [.string (txt (kk))] = us2 at e1 e2 hn2 ⊢
      rw [← e1, ← e2]
      (have F := And.intro @wi (And.intro @e5 (And.intro @hl (And.intro @w0 @hn))); refine gG ?_; exact ⟨(i + 1, us2, E4, E6), ⟨hlt, hn2⟩, gw, gw, by omega⟩)
    · obtain rfl : i = rows.length := by omega
      have q1 : ((rows.length : Int) < (rows.length : Int)) = False := eq_false (by omega)
      rw [List.take_length, List.take_of_length_le (Nat.le_of_eq hn)]
      (have F := And.intro @q1 (And.intro @hl @hn); refine gG ?_; clear F)
      obtain ⟨E6, hre⟩ : ∃ E6, Retold [.buf (some (a, cap)) ety 1 (us.map litRow), .set E3 (fun w => OwnVs w (mkRows k rows) E3 us)] [.set E6 (fun w => Own w (.sl (mkRows k rows)) E6 (.slice a uss.length cap))] := by
        rw [hl, ← hn]
        exact ⟨_, re_close (fun w h => h) (Own.stable _ _ _)⟩
      refine pE [1000, 1002] [1000] hre ?_
      have F := hk
      exact gTP (R := fun r pm => ∃ E', r = [.one (.lit (.int .i64 (k + (cntRows rows : Nat))))] ∧ pm = [.set E' (fun w => Own w (.sl (mkRows k rows)) E' (.slice a uss.length cap))]) [1000] ⟨E6, rfl, rfl⟩
theorem markStringS_all {rows : List (List C)} (hok : okRows (fieldsOf .str) rows) : MarkS 158 rows := mark_StringS_of hok
end Go.Proofs.YtofklmbljbkdaaaGreat
namespace Go.Proofs.YtofklmbljbkdaaaGreat
open Go.RowKit
set_option maxHeartbeats 16000000 in
set_option maxRecDepth 100000 in
theorem mark_SubS_of {rows : List (List C)} (hok : okRows (fieldsOf .sub) rows) : MarkS 159 rows := by
  intro k E v hk hb
  refine gIP (ts := [.slot 4]) [1000] 563 Tryz.func159 ?_
  (have F := @e0P; refine gG ?_; clear F)
  by_cases hne : rows = []
  · subst hne
    refine pEx [1000] [1000] fd_nil ?_
    rintro ⟨a, cap⟩ rfl
    (have F := @hk; refine gL (ι := Unit) [1, 5, 9] [] (fun x => [(5, .d (.one (.lit (.int .i64 0)))), (1, .d (.one (.lit (.int .i64 k))))]) (fun x => []) (fun x => True) (fun x => 0) (()) (trivial) (fun x hx => ?_); clear F)
    have q1 : ((0 : Int) < 0) = False := eq_false (by decide)
    have q2 : ((0 : Int) < ((0 : Nat) : Int)) = False := eq_false (by decide)
    (have F := And.intro @q1 @q2; refine gG ?_; clear F)
    have F := hk
    refine gTP (R := fun r pm => ∃ E', r = [.one (.lit (.int .i64 (k + (cntRows [] : Nat))))] ∧ pm = [.set E' (fun w => Own w (.sl (mkRows k [])) E' (.slice a 0 cap))]) [1000] ⟨E, by simp only [cntRows, Int.natCast_zero, Int.add_zero]; rfl, by simp only [mkRows]; rfl⟩
  · have hrl : rowsLen 2 rows := okRows.rowsLen hok
    refine pEx [1000] [1000, 1001] (fd_open hne hrl) ?_
    rintro ⟨a, cap, ety, uss, E1⟩ ⟨rfl, hl, hmx⟩
    simp only at hl ⊢
    unfold maxLen at hmx
    refine pE [] [1002] re_none ?_
    (have F := And.intro @mkRows_nil (And.intro @cnt_nil (And.intro @Int.add_zero @Int.natCast_zero)); refine gL (ι := Nat × List (List Value) × (Nat → Prop) × (Nat → Prop)) [1, 5, 9] [1000, 1001, 1002] (fun x => [(5, .d (.one (.lit (.int .i64 (x.1 : Int))))), (1, .d (.one (.lit (.int .i64 (k + (cntRows (rows.take x.1) : Nat))))))]) (fun x => [(1000, .buf (some (a, cap)) ety 2 (x.2.1.map litRow)), (1001, .set x.2.2.1 (fun w => OwnVs w (rows.drop x.1) x.2.2.1 (x.2.1.drop x.1))), (1002, .set x.2.2.2 (fun w => OwnVs w (mkRows k (rows.take x.1)) x.2.2.2 (x.2.1.take x.1)))]) (fun x => x.1 ≤ rows.length ∧ x.2.1.length = rows.length) (fun x => rows.length - x.1) ((0, uss, E1, fun _ => False)) (⟨Nat.zero_le _, hl⟩) (fun x hx => ?_); clear F)
    obtain ⟨i, us, E2, E3⟩ := x
    obtain ⟨hi, hn⟩ := hx
    simp only at hi hn
    dsimp only
    by_cases hlt : i < rows.length
    · obtain ⟨r, hr⟩ : ∃ r, rows[i]? = some r := ⟨_, List.getElem?_eq_getElem hlt⟩
      obtain ⟨u, hu⟩ : ∃ u, us[i]? = some u := ⟨_, List.getElem?_eq_getElem (by omega)⟩
      obtain ⟨i0, i1, rfl, g0, g1⟩ := okRow_Sub (hok.get hr)
      have hc1 : cntRows (rows.take (i + 1)) = cntRows (rows.take i) + (2) := by
        rw [tk_snoc hr, cnt_snoc]; simp only [cntRow, cntC]; try omega
      have hc2 := cnt_take_le rows (i + 1)
      rw [drop_get hr, drop_get hu]
      refine pEx [1001] [1001] (fd_lits rfl) ?_
      rintro ⟨⟩ hlit
      obtain rfl : u = [.int .i64 i0, .int .i64 i1] := by
        match u, hlit with
        | [_, _], ⟨rfl, rfl, _⟩ => rfl
      refine pEx (f := fun (x : (Nat → Prop) × (Nat → Nat → Prop)) => [.set x.1 (fun w => OwnVs w (rows.drop (i + 1)) x.1 (us.drop (i + 1)))]) [1001] [1001] (fd_row rfl) ?_
      rintro ⟨E4, Es⟩ -
      dsimp only
      have hkk0 : 0 ≤ k + (cntRows (rows.take i) : Int) := by omega
      have hkk1 : k + (cntRows (rows.take i) : Int) + ((2 : Nat) : Int) ≤ 1000000000 := by omega
      generalize hkk : k + (cntRows (rows.take i) : Int) = kk at hkk0 hkk1 ⊢
      have q1 : ((i : Int) < (rows.length : Int)) = True := eq_true (by omega)
      have q2 : i < rows.length := hlt
      have hs : ∀ X : List C, ((us.map litRow).set i X)[i]? = some X := fun X => set_get (by rw [len_lits, hn]; omega) X
      have lr : litRow [.int .i64 i0, .int .i64 i1] = [.lit (.int .i64 i0), .lit (.int .i64 i1)] := rfl
      have w0 : IntKind.i64.wrap (kk + 1) = kk + 1 := IntWalk.i64_in _ (by omega)
      have w1 : IntKind.i64.wrap (kk + 1 + 1) = kk + 1 + 1 := IntWalk.i64_in _ (by omega)
      have wi : IntKind.i64.wrap ((i : Int) + 1) = (i : Int) + 1 := IntWalk.i64_in _ (by omega)
      (have F := And.intro @q1 (And.intro @hl (And.intro @hn (And.intro @hu (And.intro @lr (And.intro @len_lits (And.intro @set_len (And.intro @hs (And.intro @w0 (And.intro @w1 (And.intro @q2 @set_set')))))))))); have NN : StopAt 3 := trivial; refine gGn ?_; clear F NN)
      obtain ⟨E6, hre⟩ : ∃ E6, Retold [.set E3 (fun w => OwnVs w (mkRows k (rows.take i)) E3 (us.take i))] [.set E6 (fun w => OwnVs w (mkRows k (rows.take (i + 1))) E6 ((us.set i [.int .i64 (kk), .int .i64 (kk + 1)]).take (i + 1)))] := by
        have hz := re_row (E := E3) (done := mkRows k (rows.take i)) (ud := us.take i) (cs := [.lit (.int .i64 (kk)), .lit (.int .i64 (kk + 1))]) (us := [.int .i64 (kk), .int .i64 (kk + 1)]) (Es := fun _ _ => False) rfl ⟨rfl, rfl, trivial⟩
        rw [tk_snoc hr, mkRows_snoc, hkk, set_take (by omega)]
        simp only [mkRow, mkC, mkV, cntC, Int.natCast_one]
        exact ⟨_, hz⟩
      refine pE [1002] [1002] hre ?_
      have e1 : ((us.set i [.int .i64 (kk), .int .i64 (kk + 1)]).map litRow) = (us.map litRow).set i [.lit (.int .i64 (kk)), .lit (.int .i64 (kk + 1))] := by rw [List.map_set]; rfl
      have e2 := set_drop us i [.int .i64 (kk), .int .i64 (kk + 1)]
      have e5 : k + (cntRows (rows.take (i + 1)) : Int) = kk + 1 + 1 := by rw [hc1]; omega
      have hn2 : (us.set i [.int .i64 (kk), .int .i64 (kk + 1)]).length = rows.length := by rw [set_len, hn]
      generalize us.set i [.int .i64 (kk), .int .i64 (kk + 1)] = us2 at e1 e2 hn2 ⊢
      rw [← e1, ← e2]
      (have F := And.intro @wi (And.intro @e5 (And.intro @hl (And.intro @w0 (And.intro @w1 @hn)))); refine gG ?_; exact ⟨(i + 1, us2, E4, E6), ⟨hlt, hn2⟩, gw, gw, by omega⟩)
    · obtain rfl : i = rows.length := by omega
      have q1 : ((rows.length : Int) < (rows.length : Int)) = False := eq_false (by omega)
      rw [List.take_length, List.take_of_length_le (Nat.le_of_eq hn)]
      (have F := And.intro @q1 (And.intro @hl @hn); refine gG ?_; clear F)
      obtain ⟨E6, hre⟩ : ∃ E6, Retold [.buf (some (a, cap)) ety 2 (us.map litRow), .set E3 (fun w => OwnVs w (mkRows k rows) E3 us)] [.set E6 (fun w => Own w (.sl (mkRows k rows)) E6 (.slice a uss.length cap))] := by
        rw [hl, ← hn]
        exact ⟨_, re_close (fun w h => h) (Own.stable _ _ _)⟩
      refine pE [1000, 1002] [1000] hre ?_
      have F := hk
      exact gTP (R := fun r pm => ∃ E', r = [.one (.lit (.int .i64 (k + (cntRows rows : Nat))))] ∧ pm = [.set E' (fun w => Own w (.sl (mkRows k rows)) E' (.slice a uss.length cap))]) [1000] ⟨E6, rfl, rfl⟩
theorem markSubS_all {rows : List (List C)} (hok : okRows (fieldsOf .sub) rows) : MarkS 159 rows := mark_SubS_of hok
end Go.Proofs.YtofklmbljbkdaaaGreat
namespace Go.Proofs.YtofklmbljbkdaaaGreat
open Go.RowKit
set_option maxHeartbeats 16000000 in
set_option maxRecDepth 100000 in
theorem markSorts_all {row : List C} (hok : okRow (sortsF) row) : MarkV 93 row := by
  obtain ⟨r0, r1, rfl, g0, g1⟩ := okRow_Sorts hok
  intro kk E us hl hc hk hb
  obtain ⟨u0, u1, rfl⟩ := len2 hl
  have kc : okCell (.lit u0) = true ∧ okCell (.lit u1) = true := by simpa [litRow, Bool.and_eq_true, and_assoc] using hc
  obtain ⟨k0, k1⟩ := kc
  simp only [cntTop, Nat.add_zero] at hb ⊢
  have lr : litRow [u0, u1] = [.lit u0, .lit u1] := rfl
  rw [lr]
  refine gIP (ts := [.slot 4]) [1000] 23 Tryz.func93 ?_
  refine pEx (f := fun (x : Nat → Nat → Prop) => [.set (x 0) (fun w => Own w (.sl r0) (x 0) u0), .set (x 1) (fun w => Own w (.sl r1) (x 1) u1)]) [1000] [1003, 1004] (fd_cells rfl) ?_
  rintro Es -
  try dsimp only
  (have F := And.intro @lr (And.intro @k0 @k1); refine gG ?_; clear F)
  refine gB ?_
  (have F := And.intro @lr (And.intro @k0 @k1); refine gCP [1003] [1003] (markStringS_all g0 (kk) (Es 0) u0 (by omega) (by omega)) ?_; clear F)
  rintro r pm ⟨F0, rfl, rfl⟩
  simp only [setA, retA, zipM, List.cons_append, List.nil_append]
  (have F := And.intro @lr (And.intro @k0 @k1); refine gR ?_; clear F)
  (have F := And.intro @lr (And.intro @k0 @k1); refine gG ?_; clear F)
  refine gB ?_
  (have F := And.intro @lr (And.intro @k0 @k1); refine gCP [1004] [1004] (markSubS_all g1 (kk + (cntRows r0 : Int)) (Es 1) u1 (by omega) (by omega)) ?_; clear F)
  rintro r pm ⟨F1, rfl, rfl⟩
  simp only [setA, retA, zipM, List.cons_append, List.nil_append]
  (have F := And.intro @lr (And.intro @k0 @k1); refine gR ?_; clear F)
  (have F := And.intro @lr (And.intro @k0 @k1); refine gG ?_; clear F)
  obtain ⟨E6, hre⟩ : ∃ E6, Retold [.set F0 (fun w => Own w (.sl (mkRows (kk) r0)) F0 u0), .set F1 (fun w => Own w (.sl (mkRows (kk + (cntRows r0 : Int)) r1)) F1 u1)] [.set E6 (fun w => OwnVals w [.sl (mkRows (kk) r0), .sl (mkRows (kk + (cntRows r0 : Int)) r1)] E6 [u0, u1])] := ⟨_, re_cells (cs := [.sl (mkRows (kk) r0), .sl (mkRows (kk + (cntRows r0 : Int)) r1)]) (us := [u0, u1]) (Es := fun k => match k with | 0 => F0 | _ => F1) rfl trivial⟩
  refine pE [1003, 1004] [1000] hre ?_
  have F := hk
  have ee : kk + (cntRows r0 : Int) + (cntRows r1 : Int) = kk + ((cntRows r0 + (cntRows r1) : Nat) : Int) := by omega
  rw [ee]
  exact gTP (R := fun r pm => ∃ E', r = [.one (.lit (.int .i64 (kk + ((cntRows r0 + (cntRows r1) : Nat) : Int))))] ∧ pm = [.set E' (fun w => OwnVals w (mkTop kk [.sl r0, .sl r1]) E' [u0, u1])]) [1000] ⟨E6, rfl, by simp only [mkTop]; rfl⟩
end Go.Proofs.YtofklmbljbkdaaaGreat
namespace Go.Proofs.YtofklmbljbkdaaaGreat
open Go.RowKit
set_option maxHeartbeats 16000000 in
set_option maxRecDepth 100000 in
theorem mark_DeclS_of {rows : List (List C)} (hok : okRows (fieldsOf .decl) rows) : MarkS 160 rows := by
  intro k E v hk hb
  refine gIP (ts := [.slot 4]) [1000] 563 Tryz.func160 ?_
  (have F := @e0P; refine gG ?_; clear F)
  by_cases hne : rows = []
  · subst hne
    refine pEx [1000] [1000] fd_nil ?_
    rintro ⟨a, cap⟩ rfl
    (have F := @hk; refine gL (ι := Unit) [1, 5, 9] [] (fun x => [(5, .d (.one (.lit (.int .i64 0)))), (1, .d (.one (.lit (.int .i64 k))))]) (fun x => []) (fun x => True) (fun x => 0) (()) (trivial) (fun x hx => ?_); clear F)
    have q1 : ((0 : Int) < 0) = False := eq_false (by decide)
    have q2 : ((0 : Int) < ((0 : Nat) : Int)) = False := eq_false (by decide)
    (have F := And.intro @q1 @q2; refine gG ?_; clear F)
    have F := hk
    refine gTP (R := fun r pm => ∃ E', r = [.one (.lit (.int .i64 (k + (cntRows [] : Nat))))] ∧ pm = [.set E' (fun w => Own w (.sl (mkRows k [])) E' (.slice a 0 cap))]) [1000] ⟨E, by simp only [cntRows, Int.natCast_zero, Int.add_zero]; rfl, by simp only [mkRows]; rfl⟩
  · have hrl : rowsLen 2 rows := okRows.rowsLen hok
    refine pEx [1000] [1000, 1001] (fd_open hne hrl) ?_
    rintro ⟨a, cap, ety, uss, E1⟩ ⟨rfl, hl, hmx⟩
    simp only at hl ⊢
    unfold maxLen at hmx
    refine pE [] [1002] re_none ?_
    (have F := And.intro @mkRows_nil (And.intro @cnt_nil (And.intro @Int.add_zero @Int.natCast_zero)); refine gL (ι := Nat × List (List Value) × (Nat → Prop) × (Nat → Prop)) [1, 5, 9] [1000, 1001, 1002] (fun x => [(5, .d (.one (.lit (.int .i64 (x.1 : Int))))), (1, .d (.one (.lit (.int .i64 (k + (cntRows (rows.take x.1) : Nat))))))]) (fun x => [(1000, .buf (some (a, cap)) ety 2 (x.2.1.map litRow)), (1001, .set x.2.2.1 (fun w => OwnVs w (rows.drop x.1) x.2.2.1 (x.2.1.drop x.1))), (1002, .set x.2.2.2 (fun w => OwnVs w (mkRows k (rows.take x.1)) x.2.2.2 (x.2.1.take x.1)))]) (fun x => x.1 ≤ rows.length ∧ x.2.1.length = rows.length) (fun x => rows.length - x.1) ((0, uss, E1, fun _ => False)) (⟨Nat.zero_le _, hl⟩) (fun x hx => ?_); clear F)
    obtain ⟨i, us, E2, E3⟩ := x
    obtain ⟨hi, hn⟩ := hx
    simp only at hi hn
    dsimp only
    by_cases hlt : i < rows.length
    · obtain ⟨r, hr⟩ : ∃ r, rows[i]? = some r := ⟨_, List.getElem?_eq_getElem hlt⟩
      obtain ⟨u, hu⟩ : ∃ u, us[i]? = some u := ⟨_, List.getElem?_eq_getElem (by omega)⟩
      obtain ⟨r0, i1, rfl, g0, g1⟩ := okRow_Decl (hok.get hr)
      have hm0 := markIntS_all g0
      have hc1 : cntRows (rows.take (i + 1)) = cntRows (rows.take i) + (1 + cntRows r0) := by
        rw [tk_snoc hr, cnt_snoc]; simp only [cntRow, cntC]; try omega
      have hc2 := cnt_take_le rows (i + 1)
      rw [drop_get hr, drop_get hu]
      refine pEx [1001] [1001] (fd_lits rfl) ?_
      rintro ⟨⟩ hlit
      obtain ⟨u0, rfl⟩ : ∃ u0, u = [u0, .int .i64 i1] := by
        match u, hlit with
        | [u0, _], ⟨rfl, _⟩ => exact ⟨u0, rfl⟩
      refine pEx (f := fun (x : (Nat → Prop) × (Nat → Nat → Prop)) => [.set x.1 (fun w => OwnVs w (rows.drop (i + 1)) x.1 (us.drop (i + 1))), .set (x.2 0) (fun w => Own w (.sl r0) (x.2 0) u0)]) [1001] [1001, 1003] (fd_row rfl) ?_
      rintro ⟨E4, Es⟩ -
      dsimp only
      have hkk0 : 0 ≤ k + (cntRows (rows.take i) : Int) := by omega
      have hkk1 : k + (cntRows (rows.take i) : Int) + ((1 + cntRows r0 : Nat) : Int) ≤ 1000000000 := by omega
      generalize hkk : k + (cntRows (rows.take i) : Int) = kk at hkk0 hkk1 ⊢
      have q1 : ((i : Int) < (rows.length : Int)) = True := eq_true (by omega)
      have q2 : i < rows.length := hlt
      have hs : ∀ X : List C, ((us.map litRow).set i X)[i]? = some X := fun X => set_get (by rw [len_lits, hn]; omega) X
      have lr : litRow [u0, .int .i64 i1] = [.lit (u0), .lit (.int .i64 i1)] := rfl
      have w1 : IntKind.i64.wrap (kk + (cntRows r0 : Int) + 1) = kk + (cntRows r0 : Int) + 1 := IntWalk.i64_in _ (by omega)
      have wi : IntKind.i64.wrap ((i : Int) + 1) = (i : Int) + 1 := IntWalk.i64_in _ (by omega)
      (have F := And.intro @q1 (And.intro @hl (And.intro @hn (And.intro @hu (And.intro @lr (And.intro @len_lits (And.intro @set_len (And.intro @hs (And.intro @w1 (And.intro @q2 @set_set'))))))))); refine gG ?_; clear F)
      refine gB ?_
      (have F := And.intro @q1 (And.intro @hl (And.intro @hn (And.intro @hu (And.intro @lr (And.intro @len_lits (And.intro @set_len (And.intro @hs (And.intro @w1 (And.intro @q2 @set_set'))))))))); refine gCP [1003] [1003] (hm0 (kk) (Es 0) u0 (by omega) (by omega)) ?_; clear F)
      rintro r pm ⟨F0, rfl, rfl⟩
      simp only [setA, retA, zipM, List.cons_append, List.nil_append]
      (have F := And.intro @q1 (And.intro @hl (And.intro @hn (And.intro @hu (And.intro @lr (And.intro @len_lits (And.intro @set_len (And.intro @hs (And.intro @w1 (And.intro @q2 @set_set'))))))))); refine gR ?_; clear F)
      (have F := And.intro @q1 (And.intro @hl (And.intro @hn (And.intro @hu (And.intro @lr (And.intro @len_lits (And.intro @set_len (And.intro @hs (And.intro @w1 (And.intro @q2 @set_set'))))))))); have NN : StopAt 3 := trivial; refine gGn ?_; clear F NN)
      obtain ⟨E6, hre⟩ : ∃ E6, Retold [.set E3 (fun w => OwnVs w (mkRows k (rows.take i)) E3 (us.take i)), .set F0 (fun w => Own w (.sl (mkRows (kk) r0)) F0 u0)] [.set E6 (fun w => OwnVs w (mkRows k (rows.take (i + 1))) E6 ((us.set i [u0, .int .i64 (kk + (cntRows r0 : Int))]).take (i + 1)))] := by
        have hz := re_row (E := E3) (done := mkRows k (rows.take i)) (ud := us.take i) (cs := [.sl (mkRows (kk) r0), .lit (.int .i64 (kk + (cntRows r0 : Int)))]) (us := [u0, .int .i64 (kk + (cntRows r0 : Int))]) (Es := fun _ => F0) rfl ⟨rfl, trivial⟩
        rw [tk_snoc hr, mkRows_snoc, hkk, set_take (by omega)]
        simp only [mkRow, mkC, mkV, cntC, Int.natCast_one]
        exact ⟨_, hz⟩
      refine pE [1002, 1003] [1002] hre ?_
      have e1 : ((us.set i [u0, .int .i64 (kk + (cntRows r0 : Int))]).map litRow) = (us.map litRow).set i [.lit (u0), .lit (.int .i64 (kk + (cntRows r0 : Int)))] := by rw [List.map_set]; rfl
      have e2 := set_drop us i [u0, .int .i64 (kk + (cntRows r0 : Int))]
      have e5 : k + (cntRows (rows.take (i + 1)) : Int) = kk + (cntRows r0 : Int) + 1 := by rw [hc1]; omega
      have hn2 : (us.set i [u0, .int .i64 (kk + (cntRows r0 : Int))]).length = rows.length := by rw [set_len, hn]
      generalize us.set i [u0, .int .i64 (kk + (cntRows r0 : Int))] = us2 at e1 e2 hn2 ⊢
      rw [← e1, ← e2]
      (have F := And.intro @wi (And.intro @e5 (And.intro @hl (And.intro @w1 @hn))); refine gG ?_; exact ⟨(i + 1, us2, E4, E6), ⟨hlt, hn2⟩, gw, gw, by omega⟩)
    · obtain rfl : i = rows.length := by omega
      have q1 : ((rows.length : Int) < (rows.length : Int)) = False := eq_false (by omega)
      rw [List.take_length, List.take_of_length_le (Nat.le_of_eq hn)]
      (have F := And.intro @q1 (And.intro @hl @hn); refine gG ?_; clear F)
      obtain ⟨E6, hre⟩ : ∃ E6, Retold [.buf (some (a, cap)) ety 2 (us.map litRow), .set E3 (fun w => OwnVs w (mkRows k rows) E3 us)] [.set E6 (fun w => Own w (.sl (mkRows k rows)) E6 (.slice a uss.length cap))] := by
        rw [hl, ← hn]
        exact ⟨_, re_close (fun w h => h) (Own.stable _ _ _)⟩
      refine pE [1000, 1002] [1000] hre ?_
      have F := hk
      exact gTP (R := fun r pm => ∃ E', r = [.one (.lit (.int .i64 (k + (cntRows rows : Nat))))] ∧ pm = [.set E' (fun w => Own w (.sl (mkRows k rows)) E' (.slice a uss.length cap))]) [1000] ⟨E6, rfl, rfl⟩
theorem markDeclS_all {rows : List (List C)} (hok : okRows (fieldsOf .decl) rows) : MarkS 160 rows := mark_DeclS_of hok
end Go.Proofs.YtofklmbljbkdaaaGreat
namespace Go.Proofs.YtofklmbljbkdaaaGreat
open Go.RowKit
theorem tmod3Op {k : Int} (h : 0 ≤ k) : decide (k.tmod 3 = 0) = (k % 3 == 0) := by rw [Int.tmod_eq_emod_of_nonneg h, Bool.eq_iff_iff]; simp
set_option maxHeartbeats 16000000 in
set_option maxRecDepth 100000 in
theorem mark_OpS_of {rows : List (List C)} (hok : okRows (fieldsOf .op) rows) : MarkS 94 rows := by
  intro k E v hk hb
  refine gIP (ts := [.slot 4]) [1000] 563 Tryz.func94 ?_
  (have F := @e0P; refine gG ?_; clear F)
  by_cases hne : rows = []
  · subst hne
    refine pEx [1000] [1000] fd_nil ?_
    rintro ⟨a, cap⟩ rfl
    (have F := @hk; refine gL (ι := Unit) [1, 5, 9] [] (fun x => [(5, .d (.one (.lit (.int .i64 0)))), (1, .d (.one (.lit (.int .i64 k))))]) (fun x => []) (fun x => True) (fun x => 0) (()) (trivial) (fun x hx => ?_); clear F)
    have q1 : ((0 : Int) < 0) = False := eq_false (by decide)
    have q2 : ((0 : Int) < ((0 : Nat) : Int)) = False := eq_false (by decide)
    (have F := And.intro @q1 @q2; refine gG ?_; clear F)
    have F := hk
    refine gTP (R := fun r pm => ∃ E', r = [.one (.lit (.int .i64 (k + (cntRows [] : Nat))))] ∧ pm = [.set E' (fun w => Own w (.sl (mkRows k [])) E' (.slice a 0 cap))]) [1000] ⟨E, by simp only [cntRows, Int.natCast_zero, Int.add_zero]; rfl, by simp only [mkRows]; rfl⟩
  · have hrl : rowsLen 5 rows := okRows.rowsLen hok
    refine pEx [1000] [1000, 1001] (fd_open hne hrl) ?_
    rintro ⟨a, cap, ety, uss, E1⟩ ⟨rfl, hl, hmx⟩
    simp only at hl ⊢
    unfold maxLen at hmx
    refine pE [] [1002] re_none ?_
    (have F := And.intro @mkRows_nil (And.intro @cnt_nil (And.intro @Int.add_zero @Int.natCast_zero)); refine gL (ι := Nat × List (List Value) × (Nat → Prop) × (Nat → Prop)) [1, 5, 9] [1000, 1001, 1002] (fun x => [(5, .d (.one (.lit (.int .i64 (x.1 : Int))))), (1, .d (.one (.lit (.int .i64 (k + (cntRows (rows.take x.1) : Nat))))))]) (fun x => [(1000, .buf (some (a, cap)) ety 5 (x.2.1.map litRow)), (1001, .set x.2.2.1 (fun w => OwnVs w (rows.drop x.1) x.2.2.1 (x.2.1.drop x.1))), (1002, .set x.2.2.2 (fun w => OwnVs w (mkRows k (rows.take x.1)) x.2.2.2 (x.2.1.take x.1)))]) (fun x => x.1 ≤ rows.length ∧ x.2.1.length = rows.length) (fun x => rows.length - x.1) ((0, uss, E1, fun _ => False)) (⟨Nat.zero_le _, hl⟩) (fun x hx => ?_); clear F)
    obtain ⟨i, us, E2, E3⟩ := x
    obtain ⟨hi, hn⟩ := hx
    simp only at hi hn
    dsimp only
    by_cases hlt : i < rows.length
    · obtain ⟨r, hr⟩ : ∃ r, rows[i]? = some r := ⟨_, List.getElem?_eq_getElem hlt⟩
      obtain ⟨u, hu⟩ : ∃ u, us[i]? = some u := ⟨_, List.getElem?_eq_getElem (by omega)⟩
      obtain ⟨t0, r1, p2, p3, i4, rfl, g0, g1, g2, g3, g4⟩ := okRow_Op (hok.get hr)
      have hm1 := markDeclS_all g1
      have hc1 : cntRows (rows.take (i + 1)) = cntRows (rows.take i) + (4 + cntRows r1) := by
        rw [tk_snoc hr, cnt_snoc]; simp only [cntRow, cntC]; try omega
      have hc2 := cnt_take_le rows (i + 1)
      rw [drop_get hr, drop_get hu]
      refine pEx [1001] [1001] (fd_lits rfl) ?_
      rintro ⟨⟩ hlit
      obtain ⟨u1, rfl⟩ : ∃ u1, u = [.string t0, u1, .bool p2, .bool p3, .int .i64 i4] := by
        match u, hlit with
        | [_, u1, _, _, _], ⟨rfl, rfl, rfl, rfl, _⟩ => exact ⟨u1, rfl⟩
      refine pEx (f := fun (x : (Nat → Prop) × (Nat → Nat → Prop)) => [.set x.1 (fun w => OwnVs w (rows.drop (i + 1)) x.1 (us.drop (i + 1))), .set (x.2 0) (fun w => Own w (.sl r1) (x.2 0) u1)]) [1001] [1001, 1003] (fd_row rfl) ?_
      rintro ⟨E4, Es⟩ -
      dsimp only
      have hkk0 : 0 ≤ k + (cntRows (rows.take i) : Int) := by omega
      have hkk1 : k + (cntRows (rows.take i) : Int) + ((4 + cntRows r1 : Nat) : Int) ≤ 1000000000 := by omega
      generalize hkk : k + (cntRows (rows.take i) : Int) = kk at hkk0 hkk1 ⊢
      have q1 : ((i : Int) < (rows.length : Int)) = True := eq_true (by omega)
      have q2 : i < rows.length := hlt
      have hs : ∀ X : List C, ((us.map litRow).set i X)[i]? = some X := fun X => set_get (by rw [len_lits, hn]; omega) X
      have lr : litRow [.string t0, u1, .bool p2, .bool p3, .int .i64 i4] = [.lit (.string t0), .lit (u1), .lit (.bool p2), .lit (.bool p3), .lit (.int .i64 i4)] := rfl
      have w0 : IntKind.i64.wrap (kk + 1) = kk + 1 := IntWalk.i64_in _ (by omega)
      have w2 : IntKind.i64.wrap (kk + 1 + (cntRows r1 : Int) + 1) = kk + 1 + (cntRows r1 : Int) + 1 := IntWalk.i64_in _ (by omega)
      have b2 : decide (((kk + 1 + (cntRows r1 : Int)).tmod 3) = 0) = ((kk + 1 + (cntRows r1 : Int)) % 3 == 0) := tmod3Op (by omega)
      have w3 : IntKind.i64.wrap (kk + 1 + (cntRows r1 : Int) + 1 + 1) = kk + 1 + (cntRows r1 : Int) + 1 + 1 := IntWalk.i64_in _ (by omega)
      have b3 : decide (((kk + 1 + (cntRows r1 : Int) + 1).tmod 3) = 0) = ((kk + 1 + (cntRows r1 : Int) + 1) % 3 == 0) := tmod3Op (by omega)
      have w4 : IntKind.i64.wrap (kk + 1 + (cntRows r1 : Int) + 1 + 1 + 1) = kk + 1 + (cntRows r1 : Int) + 1 + 1 + 1 := IntWalk.i64_in _ (by omega)
      have wi : IntKind.i64.wrap ((i : Int) + 1) = (i : Int) + 1 := IntWalk.i64_in _ (by omega)
      (have F := And.intro @q1 (And.intro @hl (And.intro @hn (And.intro @hu (And.intro @lr (And.intro @len_lits (And.intro @set_len (And.intro @hs (And.intro @w0 (And.intro @w2 (And.intro @b2 (And.intro @w3 (And.intro @b3 (And.intro @w4 (And.intro @q2 @set_set')))))))))))))); refine gG ?_; clear F)
      refine gB ?_
      (have F := And.intro @q1 (And.intro @hl (And.intro @hn (And.intro @hu (And.intro @lr (And.intro @len_lits (And.intro @set_len (And.intro @hs (And.intro @w0 (And.intro @w2 (And.intro @b2 (And.intro @w3 (And.intro @b3 (And.intro @w4 (And.intro @q2 @set_set')))))))))))))); refine gC (con_markText (kk) (by omega) (by omega)) ?_; clear F)
      (have F := And.intro @q1 (And.intro @hl (And.intro @hn (And.intro @hu (And.intro @lr (And.intro @len_lits (And.intro @set_len (And.intro @hs (And.intro @w0 (And.intro @w2 (And.intro @b2 (And.intro @w3 (And.intro @b3 (And.intro @w4 (And.intro @q2 @set_set')))))))))))))); refine gR ?_; clear F)
      (have F := And.intro @q1 (And.intro @hl (And.intro @hn (And.intro @hu (And.intro @lr (And.intro @len_lits (And.intro @set_len (And.intro @hs (And.intro @w0 (And.intro @w2 (And.intro @b2 (And.intro @w3 (And.intro @b3 (And.intro @w4 (And.intro @q2 @set_set')))))))))))))); refine gG ?_; clear F)
      refine gB ?_
      (have F := And.intro @q1 (And.intro @hl (And.intro @hn (And.intro @hu (And.intro @lr (And.intro @len_lits (And.intro @set_len (And.intro @hs (And.intro @w0 (And.intro @w2 (And.intro @b2 (And.intro @w3 (And.intro @b3 (And.intro @w4 (And.intro @q2 @set_set')))))))))))))); refine gCP [1003] [1003] (hm1 (kk + 1) (Es 0) u1 (by omega) (by omega)) ?_; clear F)
      rintro r pm ⟨F1, rfl, rfl⟩
      simp only [setA, retA, zipM, List.cons_append, List.nil_append]
      (have F := And.intro @q1 (And.intro @hl (And.intro @hn (And.intro @hu (And.intro @lr (And.intro @len_lits (And.intro @set_len (And.intro @hs (And.intro @w0 (And.intro @w2 (And.intro @b2 (And.intro @w3 (And.intro @b3 (And.intro @w4 (And.intro @q2 @set_set')))))))))))))); refine gR ?_; clear F)
      (have F := And.intro @q1 (And.intro @hl (And.intro @hn (And.intro @hu (And.intro @lr (And.intro @len_lits (And.intro @set_len (And.intro @hs (And.intro @w0 (And.intro @w2 (And.intro @b2 (And.intro @w3 (And.intro @b3 (And.intro @w4 (And.intro @q2 @set_set')))))))))))))); have NN : StopAt 3 := trivial; refine gGn ?_; clear F NN)
      obtain ⟨E6, hre⟩ : ∃ E6, Retold [.set E3 (fun w => OwnVs w (mkRows k (rows.take i)) E3 (us.take i)), .set F1 (fun w => Own w (.sl (mkRows (kk + 1) r1)) F1 u1)] [.set E6 (fun w => OwnVs w (mkRows k (rows.take (i + 1))) E6 ((us.set i [.string (txt (kk)), u1, .bool ((kk + 1 + (cntRows r1 : Int)) % 3 == 0), .bool ((kk + 1 + (cntRows r1 : Int) + 1) % 3 == 0), .int .i64 (kk + 1 + (cntRows r1 : Int) + 1 + 1)]).take (i + 1)))] := by
        have hz := re_row (E := E3) (done := mkRows k (rows.take i)) (ud := us.take i) (cs := [.lit (.string (txt (kk))), .sl (mkRows (kk + 1) r1), .lit (.bool ((kk + 1 + (cntRows r1 : Int)) % 3 == 0)), .lit (.bool ((kk + 1 + (cntRows r1 : Int) + 1) % 3 == 0)), .lit (.int .i64 (kk + 1 + (cntRows r1 : Int) + 1 + 1))]) (us := [.string (txt (kk)), u1, .bool ((kk + 1 + (cntRows r1 : Int)) % 3 == 0), .bool ((kk + 1 + (cntRows r1 : Int) + 1) % 3 == 0), .int .i64 (kk + 1 + (cntRows r1 : Int) + 1 + 1)]) (Es := fun _ => F1) rfl ⟨rfl, rfl, rfl, rfl, trivial⟩
        rw [tk_snoc hr, mkRows_snoc, hkk, set_take (by omega)]
        simp only [mkRow, mkC, mkV, cntC, Int.natCast_one]
        exact ⟨_, hz⟩
      refine pE [1002, 1003] [1002] hre ?_
      have e1 : ((us.set i [.string (txt (kk)), u1, .bool ((kk + 1 + (cntRows r1 : Int)) % 3 == 0), .bool ((kk + 1 + (cntRows r1 : Int) + 1) % 3 == 0), .int .i64 (kk + 1 + (cntRows r1 : Int) + 1 + 1)]).map litRow) = (us.map litRow).set i [.lit (.string (txt (kk))), .lit (u1), .lit (.bool ((kk + 1 + (cntRows r1 : Int)) % 3 == 0)), .lit (.bool ((kk + 1 + (cntRows r1 : Int) + 1) % 3 == 0)), .lit (.int .i64 (kk + 1 + (cntRows r1 : Int) + 1 + 1))] := by rw [List.map_set]; rfl
      have e2 := set_drop us i [.string (txt (kk)), u1, .bool ((kk + 1 + (cntRows r1 : Int)) % 3 == 0), .bool ((kk + 1 + (cntRows r1 : Int) + 1) % 3 == 0), .int .i64 (kk + 1 + (cntRows r1 : Int) + 1 + 1)]
      have e5 : k + (cntRows (rows.take (i + 1)) : Int) = kk + 1 + (cntRows r1 : Int) + 1 + 1 + 1 := by rw [hc1]; omega
      have hn2 : (us.set i [.string (txt (kk)), u1, .bool ((kk + 1 + (cntRows r1 : Int)) % 3 == 0), .bool ((kk + 1 + (cntRows r1 : Int) + 1) % 3 == 0), .int .i64 (kk + 1 + (cntRows r1 : Int) + 1 + 1)]).length = rows.length := by rw [set_len, hn]
      generalize us.set i [.string (txt (kk)), u1, .bool ((kk + 1 + (cntRows r1 : Int)) % 3 == 0), .bool ((kk + 1 + (cntRows r1 : Int) + 1) % 3 == 0), .int .i64 (kk + 1 + (cntRows r1 : Int) + 1 + 1)] = us2 at e1 e2 hn2 ⊢
      rw [← e1, ← e2]
      (have F := And.intro @wi (And.intro @e5 (And.intro @hl (And.intro @w0 (And.intro @w2 (And.intro @b2 (And.intro @w3 (And.intro @b3 (And.intro @w4 @hn)))))))); refine gG ?_; exact ⟨(i + 1, us2, E4, E6), ⟨hlt, hn2⟩, gw, gw, by omega⟩)
    · obtain rfl : i = rows.length := by omega
      have q1 : ((rows.length : Int) < (rows.length : Int)) = False := eq_false (by omega)
      rw [List.take_length, List.take_of_length_le (Nat.le_of_eq hn)]
      (have F := And.intro @q1 (And.intro @hl @hn); refine gG ?_; clear F)
      obtain ⟨E6, hre⟩ : ∃ E6, Retold [.buf (some (a, cap)) ety 5 (us.map litRow), .set E3 (fun w => OwnVs w (mkRows k rows) E3 us)] [.set E6 (fun w => Own w (.sl (mkRows k rows)) E6 (.slice a uss.length cap))] := by
        rw [hl, ← hn]
        exact ⟨_, re_close (fun w h => h) (Own.stable _ _ _)⟩
      refine pE [1000, 1002] [1000] hre ?_
      have F := hk
      exact gTP (R := fun r pm => ∃ E', r = [.one (.lit (.int .i64 (k + (cntRows rows : Nat))))] ∧ pm = [.set E' (fun w => Own w (.sl (mkRows k rows)) E' (.slice a uss.length cap))]) [1000] ⟨E6, rfl, rfl⟩
theorem markOpS_all {rows : List (List C)} (hok : okRows (fieldsOf .op) rows) : MarkS 94 rows := mark_OpS_of hok
end Go.Proofs.YtofklmbljbkdaaaGreat
namespace Go.Proofs.YtofklmbljbkdaaaGreat
open Go.RowKit
set_option maxHeartbeats 16000000 in
set_option maxRecDepth 100000 in
theorem markSignature_all {row : List C} (hok : okRow (sigF) row) : MarkV 34 row := by
  obtain ⟨r0, r1, r2, rfl, g0, g1, g2⟩ := okRow_Signature hok
  intro kk E us hl hc hk hb
  obtain ⟨u0, u1, u2, rfl⟩ := len3 hl
  have kc : okCell (.lit u0) = true ∧ okCell (.lit u1) = true ∧ okCell (.lit u2) = true := by simpa [litRow, Bool.and_eq_true, and_assoc] using hc
  obtain ⟨k0, k1, k2⟩ := kc
  simp only [cntTop, Nat.add_zero] at hb ⊢
  have lr : litRow [u0, u1, u2] = [.lit u0, .lit u1, .lit u2] := rfl
  rw [lr]
  refine gIP (ts := [.slot 4]) [1000] 23 Tryz.func34 ?_
  refine pEx (f := fun (x : Nat → Nat → Prop) => [.set (x 0) (fun w => Own w (.sl r0) (x 0) u0), .set (x 1) (fun w => Own w (.sl r1) (x 1) u1), .set (x 2) (fun w => Own w (.sl r2) (x 2) u2)]) [1000] [1003, 1004, 1005] (fd_cells rfl) ?_
  rintro Es -
  try dsimp only
  obtain ⟨G0, hre0⟩ : ∃ G, Retold [.set (Es 0) (fun w => Own w (.sl r0) (Es 0) u0), .set (Es 1) (fun w => Own w (.sl r1) (Es 1) u1)] [.set G (fun w => OwnVals w [.sl r0, .sl r1] G [u0, u1])] := ⟨_, re_cells (cs := [.sl r0, .sl r1]) (us := [u0, u1]) (Es := fun k => Es (k + 0)) rfl trivial⟩
  refine pE [1003, 1004] [1003] hre0 ?_
  have lr0 : litRow [u0, u1] = [.lit u0, .lit u1] := rfl
  have hm0 := markSorts_all (row := [.sl r0, .sl r1]) (mkRow_Sorts g0 g1) (kk) G0 [u0, u1] rfl (by rw [lr0]; simp only [List.all_cons, List.all_nil, k0, k1, Bool.and_self]) (by omega) (by simp only [cntTop]; omega)
  rw [lr0] at hm0
  simp only [cntTop, mkTop, Nat.add_zero, Int.natCast_add, ← Int.add_assoc] at hm0
  (have F := And.intro @lr (And.intro @k0 (And.intro @k1 @k2)); refine gG ?_; clear F)
  refine gB ?_
  (have F := And.intro @lr (And.intro @k0 (And.intro @k1 @k2)); refine gCP [1003] [1003] (hm0) ?_; clear F)
  rintro r pm ⟨G0', rfl, rfl⟩
  simp only [setA, retA, zipM, List.cons_append, List.nil_append]
  (have F := And.intro @lr (And.intro @k0 (And.intro @k1 @k2)); refine gR ?_; clear F)
  refine pEx (f := fun (x : Nat → Nat → Prop) => [.set (x 0) (fun w => Own w (.sl (mkRows (kk) r0)) (x 0) u0), .set (x 1) (fun w => Own w (.sl (mkRows (kk + (cntRows r0 : Int)) r1)) (x 1) u1)]) [1003] [1003, 1004] (fd_cells (r := [.sl (mkRows (kk) r0), .sl (mkRows (kk + (cntRows r0 : Int)) r1)]) rfl) ?_
  rintro Fs0 -
  try dsimp only
  (have F := And.intro @lr (And.intro @k0 (And.intro @k1 @k2)); refine gG ?_; clear F)
  refine gB ?_
  (have F := And.intro @lr (And.intro @k0 (And.intro @k1 @k2)); refine gCP [1005] [1005] (markOpS_all g2 (kk + (cntRows r0 : Int) + (cntRows r1 : Int)) (Es 2) u2 (by omega) (by omega)) ?_; clear F)
  rintro r pm ⟨F2, rfl, rfl⟩
  simp only [setA, retA, zipM, List.cons_append, List.nil_append]
  (have F := And.intro @lr (And.intro @k0 (And.intro @k1 @k2)); refine gR ?_; clear F)
  (have F := And.intro @lr (And.intro @k0 (And.intro @k1 @k2)); refine gG ?_; clear F)
  obtain ⟨E6, hre⟩ : ∃ E6, Retold [.set (Fs0 0) (fun w => Own w (.sl (mkRows (kk) r0)) (Fs0 0) u0), .set (Fs0 1) (fun w => Own w (.sl (mkRows (kk + (cntRows r0 : Int)) r1)) (Fs0 1) u1), .set F2 (fun w => Own w (.sl (mkRows (kk + (cntRows r0 : Int) + (cntRows r1 : Int)) r2)) F2 u2)] [.set E6 (fun w => OwnVals w [.sl (mkRows (kk) r0), .sl (mkRows (kk + (cntRows r0 : Int)) r1), .sl (mkRows (kk + (cntRows r0 : Int) + (cntRows r1 : Int)) r2)] E6 [u0, u1, u2])] := ⟨_, re_cells (cs := [.sl (mkRows (kk) r0), .sl (mkRows (kk + (cntRows r0 : Int)) r1), .sl (mkRows (kk + (cntRows r0 : Int) + (cntRows r1 : Int)) r2)]) (us := [u0, u1, u2]) (Es := fun k => match k with | 0 => Fs0 0 | 1 => Fs0 1 | _ => F2) rfl trivial⟩
  refine pE [1003, 1004, 1005] [1000] hre ?_
  have F := hk
  have ee : kk + (cntRows r0 : Int) + (cntRows r1 : Int) + (cntRows r2 : Int) = kk + ((cntRows r0 + (cntRows r1 + (cntRows r2)) : Nat) : Int) := by omega
  rw [ee]
  exact gTP (R := fun r pm => ∃ E', r = [.one (.lit (.int .i64 (kk + ((cntRows r0 + (cntRows r1 + (cntRows r2)) : Nat) : Int))))] ∧ pm = [.set E' (fun w => OwnVals w (mkTop kk [.sl r0, .sl r1, .sl r2]) E' [u0, u1, u2])]) [1000] ⟨E6, rfl, by simp only [mkTop]; rfl⟩
end Go.Proofs.YtofklmbljbkdaaaGreat
namespace Go.Proofs.YtofklmbljbkdaaaGreat
open Go.RowKit
theorem fields_le (t : TN) : (fieldsOf t).length ≤ 16 := by cases t <;> decide
mutual
theorem cnt_okC : ∀ (f : F) (c : C), okC f c → cntC c ≤ 1 + 16 * bulkC c
  | f, .lit v, _ => by simp only [cntC]; omega
  | .sl t, .sl rows, h => by
    have := cnt_okRows (fieldsOf t) rows (fields_le t) (by simpa [okC] using h)
    simp only [cntC, bulkC]
    omega
  | .int, .sl _, h => by simp [okC] at h
  | .str, .sl _, h => by simp [okC] at h
  | .bool, .sl _, h => by simp [okC] at h
  | f, .ptr _, _ => by simp [cntC]
  | f, .fn _ _, _ => by simp [cntC]
theorem cnt_okRows : ∀ (fs : List F) (rows : List (List C)), fs.length ≤ 16 → okRows fs rows → cntRows rows ≤ 16 * (rows.length + bulkRows rows)
  | fs, [], _, _ => by simp [cntRows]
  | fs, r :: rs, hl, h => by
    simp only [okRows] at h
    have h1 := cnt_okRow fs r h.1
    have h2 := cnt_okRows fs rs hl h.2
    simp only [cntRows, bulkRows, List.length_cons]
    omega
theorem cnt_okRow : ∀ (fs : List F) (cs : List C), okRow fs cs → cntRow cs ≤ fs.length + 16 * bulkRow cs
  | [], [], _ => by simp [cntRow]
  | f :: fs, c :: cs, h => by
    simp only [okRow] at h
    have h1 := cnt_okC f c h.1
    have h2 := cnt_okRow fs cs h.2
    simp only [cntRow, bulkRow, List.length_cons]
    omega
  | [], _ :: _, h => by simp [okRow] at h
  | _ :: _, [], h => by simp [okRow] at h
end
theorem cntTop_ok : ∀ (fs : List F) (cs : List C), okRow fs cs → cntTop cs ≤ 16 * bulkRow cs
  | [], [], _ => by simp [cntTop]
  | f :: fs, c :: cs, h => by
    simp only [okRow] at h
    have h2 := cntTop_ok fs cs h.2
    cases c with
    | lit v => simp only [cntTop, bulkRow]; omega
    | sl rows =>
      cases f with
      | sl t =>
        have := cnt_okRows (fieldsOf t) rows (fields_le t) (by simpa [okC] using h.1)
        simp only [cntTop, bulkRow, bulkC]
        omega
      | _ => simp [okC] at h
    | ptr _ => simp only [cntTop, bulkRow]; omega
    | fn _ _ => simp only [cntTop, bulkRow]; omega
  | [], _ :: _, h => by simp [okRow] at h
  | _ :: _, [], h => by simp [okRow] at h
theorem lits_len {us : List Value} {n : Nat} (h : us.length = n) : (litRow us).length = n ∧ (litRow us).take n = litRow us ∧ (litRow us).drop n = [] := by
  have hl : (litRow us).length = n := by unfold litRow; rw [List.length_map]; exact h
  exact ⟨hl, List.take_of_length_le (Nat.le_of_eq hl), List.drop_of_length_le (Nat.le_of_eq hl)⟩
end Go.Proofs.YtofklmbljbkdaaaGreat
namespace Go.Proofs.YtofklmbljbkdaaaGreat
open Go.RowKit
theorem con_szSignature {row : List C} (hok : okRow (sigF) row) {left : Int} (h0 : 0 ≤ left) (h1 : left ≤ 1048576) : Con e0 25 [.agg row, .one (.lit (.int .i64 left))] [.one (.lit (.int .i64 (sub left (bulkRow row))))] := by
  refine con_below e0_ok (by kernel_rfl) fun w S vs h => ?_
  match vs, h with
  | [v, u], h =>
    obtain ⟨⟨us, rfl, hu⟩, h2, _⟩ := h
    have h2 : u = .int .i64 left := by simpa [DRel, Rep] using h2
    subst h2
    exact (szSignature_any row S us left w hok hu h0 h1).mono fun e w' ⟨h1, h2⟩ => ⟨_, h1, h2, by simp [retA, ARel, DRel, Rep]⟩
theorem con_toSignature {row : List C} (hok : okRow (sigF) row) (hb : bulkRow row ≤ 1048576) : Con e0 28 [.agg row] [.agg row] := by
  refine con_below e0_ok (by kernel_rfl) fun w S vs h => ?_
  match vs, h with
  | [v], h =>
    obtain ⟨⟨us, rfl, hu⟩, _⟩ := h
    exact (toSignature_any row S us w hok hu hb).mono fun e w' ⟨us', h1, h2, h3⟩ => ⟨_, h1, h3, us', rfl, OwnVals.rep row _ _ us' (fun x hx => .inr hx) h2⟩
theorem con_eqSignature {row : List C} (hok : okRow (sigF) row) : Con e0 32 [.agg row, .agg row] [.one (.lit (.bool true))] := by
  refine con_below e0_ok (by kernel_rfl) fun w S vs h => ?_
  match vs, h with
  | [v, u], h =>
    obtain ⟨⟨us, rfl, hu⟩, ⟨us', rfl, hu'⟩, _⟩ := h
    exact (eqSignature_any row S S us us' w hok hu hu').mono fun e w' ⟨h1, h2⟩ => ⟨_, h1, h2, by simp [retA, ARel, DRel, Rep]⟩
end Go.Proofs.YtofklmbljbkdaaaGreat
namespace Go.Proofs.YtofklmbljbkdaaaGreat
open Go.RowKit
theorem con_szTerm {row : List C} (hok : okRow (fieldsOf .term) row) {left : Int} (h0 : 0 ≤ left) (h1 : left ≤ 1048576) : Con e0 26 [.agg row, .one (.lit (.int .i64 left))] [.one (.lit (.int .i64 (sub left (bulkRow row))))] := by
  refine con_below e0_ok (by kernel_rfl) fun w S vs h => ?_
  match vs, h with
  | [v, u], h =>
    obtain ⟨⟨us, rfl, hu⟩, h2, _⟩ := h
    have h2 : u = .int .i64 left := by simpa [DRel, Rep] using h2
    subst h2
    exact (szTerm_any row S us left w hok hu h0 h1).mono fun e w' ⟨h1, h2⟩ => ⟨_, h1, h2, by simp [retA, ARel, DRel, Rep]⟩
theorem con_toTerm {row : List C} (hok : okRow (fieldsOf .term) row) (hb : bulkRow row ≤ 1048576) : Con e0 29 [.agg row] [.agg row] := by
  refine con_below e0_ok (by kernel_rfl) fun w S vs h => ?_
  match vs, h with
  | [v], h =>
    obtain ⟨⟨us, rfl, hu⟩, _⟩ := h
    exact (toTerm_any row S us w hok hu hb).mono fun e w' ⟨us', h1, h2, h3⟩ => ⟨_, h1, h3, us', rfl, OwnVals.rep row _ _ us' (fun x hx => .inr hx) h2⟩
theorem con_eqTerm {row : List C} (hok : okRow (fieldsOf .term) row) : Con e0 33 [.agg row, .agg row] [.one (.lit (.bool true))] := by
  refine con_below e0_ok (by kernel_rfl) fun w S vs h => ?_
  match vs, h with
  | [v, u], h =>
    obtain ⟨⟨us, rfl, hu⟩, ⟨us', rfl, hu'⟩, _⟩ := h
    exact (eqTerm_any row S S us us' w hok hu hu').mono fun e w' ⟨h1, h2⟩ => ⟨_, h1, h2, by simp [retA, ARel, DRel, Rep]⟩
end Go.Proofs.YtofklmbljbkdaaaGreat
namespace Go.Proofs.YtofklmbljbkdaaaGreat
open Go.RowKit
theorem con_eqTermS {rows : List (List C)} (hok : okRows (fieldsOf .term) rows) : Con e0 46 [.one (.sl rows), .one (.sl rows)] [.one (.lit (.bool true))] := by
  refine con_below e0_ok (by kernel_rfl) fun w S vs h => ?_
  match vs, h with
  | [v, u], h =>
    obtain ⟨hv, hu, _⟩ := h
    exact (eqTermS_any rows S S v u w hok hv hu).mono fun e w' ⟨h1, h2⟩ => ⟨_, h1, h2, by simp [retA, ARel, DRel, Rep]⟩
end Go.Proofs.YtofklmbljbkdaaaGreat
