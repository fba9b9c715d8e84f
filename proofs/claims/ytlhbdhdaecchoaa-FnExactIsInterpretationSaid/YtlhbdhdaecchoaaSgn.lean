/-
  Valid signatures: the program's IsSignature (walked).
-/
import Derived.Test.YtlhbdhdaecchoaaAxioms
set_option linter.unusedSimpArgs false
set_option linter.unusedVariables false
namespace Go.Proofs.Ytlhbdhdaecchoaa
open Go.RowKit Go.Sort

def opNames (l : List Opr) : List ByteArray := l.map (·.name)
structure SgnOk (g : Sgn) : Prop where
  sorts : SortsOk g.sorts
  len : g.ops.length ≤ 14
  names : ∀ (i : Nat) (o : Opr), g.ops[i]? = some o → isName o.name = true ∧ hasStr (opNames (g.ops.take i)) o.name = false
  decls : ∀ o ∈ g.ops, DeclsOk g.sorts o
  axs : ∀ o ∈ g.ops, AxOk g o
open Classical in
noncomputable def isSgn (g : Sgn) : Bool := decide (SgnOk g)
theorem isSgn_true {g : Sgn} (h : SgnOk g) : isSgn g = true := by simp [isSgn, h]
theorem isSgn_false {g : Sgn} (h : ¬ SgnOk g) : isSgn g = false := by simp [isSgn, h]
theorem isSgn_iff {g : Sgn} : isSgn g = true ↔ SgnOk g := by simp [isSgn]
def sgnC (f : FuncId) : Prop := ∀ (g : Sgn) (S : Nat → Prop) (us : List Value) (w : World), okSgn g → RepVals w S (encSgn g) us →
  Calls Try.prog f #[.agg us.toArray] w fun e w' => e = .returned (.bool (isSgn g)) ∧ Below w.heap.size w w'
theorem info_Op' : (Try.prog.info? 64).map (fun i => (i.zero, i.size, i.bytes)) = some (some (.agg #[.string ⟨#[]⟩, .slice none 0 0, .bool false, .bool false, .int .i64 0]), 5, 56) := by kernel_rfl
theorem opNames_snoc {l : List Opr} {k : Nat} {o : Opr} (h : l[k]? = some o) : opNames (l.take (k + 1)) = opNames (l.take k) ++ [o.name] := by
  rw [take_snoc h]; simp [opNames]
theorem Rep.opAt {w : World} {S : Nat → Prop} {l : List Opr} {A : Option Addr} {m cap k : Nat} {o : Opr} (hl : ∀ x ∈ l, okOpr x) (h : Rep w S (.sl (l.map encOpr)) (.slice A m cap)) (ho : l[k]? = some o) :
    ∃ b off vd, A = some ⟨b, off, none⟩ ∧ b < w.heap.size ∧ w.cell? ⟨b, off + k * 5, none⟩ = some (.string o.name) ∧ w.cell? ⟨b, off + k * 5 + 1, none⟩ = some vd ∧ w.cell? ⟨b, off + k * 5 + 2, none⟩ = some (.bool o.assoc) ∧ w.cell? ⟨b, off + k * 5 + 3, none⟩ = some (.bool o.comm) ∧ w.cell? ⟨b, off + k * 5 + 4, none⟩ = some (.int .i64 o.unit) ∧ Rep w S (.sl (o.decls.map encDcl)) vd := by
  obtain ⟨b, off, rfl, _, hb, hr⟩ := Rep.at okOprR hl h ho
  simp only [encOpr, RepRow, and_true, fieldsOf, List.length_cons, List.length_nil, Nat.reduceAdd, Nat.add_assoc, Rep.lit_iff] at hr
  obtain ⟨⟨_, c0, rfl⟩, ⟨vd, c1, r1⟩, ⟨_, c2, rfl⟩, ⟨_, c3, rfl⟩, ⟨_, c4, rfl⟩⟩ := hr
  exact ⟨b, off, vd, rfl, hb, c0, by rw [Nat.add_assoc]; exact c1, by rw [Nat.add_assoc]; exact c2, by rw [Nat.add_assoc]; exact c3, by rw [Nat.add_assoc]; exact c4, r1⟩

set_option maxHeartbeats 20000000 in
set_option maxRecDepth 100000 in
theorem implIsSignature : sgnC 31 := by
  intro g S us w hok hv
  replace hv := hv.mono (S' := fun _ => True) (fun _ _ => trivial)
  obtain ⟨s, ops⟩ := g
  have hv0 := hv
  obtain ⟨g0, g1, g2, rfl, f0, f1, f2⟩ := repVals_Signature hv
  obtain ⟨Ag0, cg0, rfl, _, _⟩ := f0.shape
  obtain ⟨Ag1, cg1, rfl, _, _⟩ := f1.shape
  obtain ⟨Ag2, cg2, rfl, hcg2, hmg2⟩ := f2.shape
  have HSR : Hid (RepVals w (fun _ => True) (encSrt s) [.slice Ag0 s.names.length cg0, .slice Ag1 s.subs.length cg1]) := by show RepVals _ _ _ _; simp only [encSrt, RepVals, and_true]; exact ⟨f0, f1⟩
  obtain ⟨io, hoi, _, hos, _⟩ := info_parts info_order
  obtain ⟨ip, hpi, _, hps, _⟩ := info_parts info_Op'
  have HOK := Lib.hid hok
  have HV := Lib.hid hv0
  have F2 := Lib.hid f2
  clear hv hv0 f0 f1 f2 hok
  simp only at HSR HV F2 hcg2 hmg2
  simp only
  generalize hln : s.names.length = n at *
  generalize s.subs.length = ls at *
  have HLN := Lib.hid hln
  clear hln
  generalize hM : ops.length = m at *
  have HM := Lib.hid hM
  clear hM
  unfold maxLen at hmg2
  by_cases hs : SortsOk s
  rotate_left
  · have HF : Hid (isSgn ⟨s, ops⟩ = false) := isSgn_false fun h => hs h.sorts
    have HNO := Lib.hid (fun W h => implNewOrder_not s (fun _ => True) [.slice Ag0 n cg0, .slice Ag1 ls cg1] W HOK.out.1 h hs)
    clear hs
    go_enter Try.func31, Try.ntmps31
    go_wp2_with fail
    refine (HNO.out _ (HSR.out.below (belowA _ _))).mono ?_
    rintro e w2 ⟨rfl, hb2⟩
    go_wp2_with ((with_reducible refine atStore 96 (.tmp 3) (.tmp 14) rfl ?_); refine wpList_store_new rfl 96 _ _ rfl _ _ _ rfl _ rfl (by simp) [.slice none 0 0, .slice none 0 0, .slice none 0 0] rfl io hoi hos rfl (by simp [Value.oneCell']) ?_)
    go_ret
    exact ⟨ret_bool HF.out.symm, ((belowA _ _).trans (hb2.mono (belowA _ _).size)).trans ((belowA _ _).mono ((belowA _ _).trans (hb2.mono (belowA _ _).size)).size)⟩
  have HNO := Lib.hid (fun W h => implNewOrder_ok s (fun _ => True) [.slice Ag0 n cg0, .slice Ag1 ls cg1] W HOK.out.1 h hs)
  have HSO := Lib.hid hs
  have h8 : n ≤ 8 := by have := hs.n8; rw [HLN.out] at this; exact this
  have HK : Hid (KOk n (kinds s)) := by have := kinds_ok (SortsOk.subsIn hs.subs); rw [HLN.out] at this; exact this
  have HU : Hid (UpOk n (up s)) := by have := up_ok (SortsOk.subsIn hs.subs); rw [HLN.out] at this; exact this
  have HDN : Hid (UpOk n (down s)) := by have := down_ok (SortsOk.subsIn hs.subs); rw [HLN.out] at this; exact this
  clear hs
  go_enter Try.func31, Try.ntmps31
  go_wp2_with fail
  generalize hW : w.alloc _ = W0
  have hb0 : Below w.heap.size w W0 := by rw [← hW]; exact belowA _ _
  have p0 : W0.cell? ⟨w.heap.size, 0, none⟩ = some (.slice Ag0 n cg0) := (by rw [← hW]; repeat' (first | (simp; done) | exact keepNew (by simp) rfl | refine keepA _ ?_))
  have p1 : W0.cell? ⟨w.heap.size, 1, none⟩ = some (.slice Ag1 ls cg1) := (by rw [← hW]; repeat' (first | (simp; done) | exact keepNew (by simp) rfl | refine keepA _ ?_))
  have p2 : W0.cell? ⟨w.heap.size, 2, none⟩ = some (.slice Ag2 m cg2) := (by rw [← hW]; repeat' (first | (simp; done) | exact keepNew (by simp) rfl | refine keepA _ ?_))
  clear hW
  refine (HNO.out _ (HSR.out.below hb0)).mono ?_
  rintro e w2 ⟨va, vb, vk, rfl, hIa, hIb, hIk, hb2⟩
  obtain ⟨Aa, ca, rfl, hca, hma, _⟩ := hIa.form
  obtain ⟨Ab, cb, rfl, hcb, hmb, _⟩ := hIb.form
  obtain ⟨Ak, ck, rfl, hck, hmk, _⟩ := hIk.form
  have hla : (casts (up s)).length = n := by rw [casts_len]; exact HU.out.1
  have hlb : (casts (down s)).length = n := by rw [casts_len]; exact HDN.out.1
  have hlk : (casts (kinds s)).length = n := by rw [casts_len]; exact HK.out.1
  have RK := Lib.hid (hIk.rep.mono (S' := fun _ => True) (fun _ _ => trivial))
  rw [hlk] at RK hck
  rw [hla] at hca
  rw [hla, hlb, hlk]
  clear hla hlb hlk hIa hIb hIk
  have q2 := keepB hb2 p2
  have z2 : w.heap.size < w2.heap.size := World.block_lt_of_cell? _ _ q2
  by_cases h14 : 14 < m
  · have HF : Hid (isSgn ⟨s, ops⟩ = false) := isSgn_false fun h => by have := h.len; have := HM.out; simp only at *; omega
    go_wp2_with ((with_reducible refine atStore 96 (.tmp 3) (.tmp 14) rfl ?_); refine wpList_store_new rfl 96 _ _ rfl _ _ _ rfl _ rfl (by simp) [.slice Aa n ca, .slice Ab n cb, .slice Ak n ck] rfl io hoi hos rfl (by simp [Value.oneCell']) ?_)
    go_ret
    exact ⟨ret_bool HF.out.symm, (hb0.trans (hb2.mono hb0.size)).trans ((belowA _ _).mono (hb0.trans (hb2.mono hb0.size)).size)⟩
  have hmm := @run_makeMap Try.prog
  go_wp2_with ((with_reducible refine atStore 96 (.tmp 3) (.tmp 14) rfl ?_); refine wpList_store_new rfl 96 _ _ rfl _ _ _ rfl _ rfl (by simp) [.slice Aa n ca, .slice Ab n cb, .slice Ak n ck] rfl io hoi hos rfl (by simp [Value.oneCell']) ?_)
  clear hmm
  generalize hW : w2.alloc (.cells #[.slice Aa n ca, .slice Ab n cb, .slice Ak n ck] _) = W
  have hbW2 : Below w2.heap.size w2 W := by rw [← hW]; exact belowA _ _
  have p3 : W.cell? ⟨w2.heap.size, 0, none⟩ = some (.slice Aa n ca) := (by rw [← hW]; repeat' (first | (simp; done) | exact keepNew (by simp) rfl | refine keepA _ ?_))
  have p4 : W.cell? ⟨w2.heap.size, 1, none⟩ = some (.slice Ab n cb) := (by rw [← hW]; repeat' (first | (simp; done) | exact keepNew (by simp) rfl | refine keepA _ ?_))
  have p5 : W.cell? ⟨w2.heap.size, 2, none⟩ = some (.slice Ak n ck) := (by rw [← hW]; repeat' (first | (simp; done) | exact keepNew (by simp) rfl | refine keepA _ ?_))
  have zW : w2.heap.size + 1 = W.heap.size := by rw [← hW]; simp
  clear hW
  rw [zW]
  have hb02 := hb0.trans (hb2.mono hb0.size)
  have hbW : Below w.heap.size w W := hb02.trans (hbW2.mono hb02.size)
  have r0 := keepB hbW2 (keepB hb2 p0)
  have r1 := keepB hbW2 (keepB hb2 p1)
  have r2 := keepB hbW2 q2
  have F2W := Lib.hid (F2.out.below hbW)
  have RKW := Lib.hid (RK.out.below hbW2)
  have HVW := Lib.hid (HV.out.below hbW)
  clear p0 p1 p2 q2 F2 RK HV HNO HSR zW hb0 hb2 hbW2 hb02 z2
  generalize w2.heap.size = g3 at *
  go_loopw [28] (fun i wr => ∃ k : Nat, k ≤ m ∧ i = .int .i64 k ∧ (∀ (j : Nat) (o : Opr), j < k → ops[j]? = some o → (isName o.name = true ∧ hasStr (opNames (ops.take j)) o.name = false) ∧ DeclsOk s o) ∧ Seen wr W.heap.size (opNames (ops.take k)) ∧ Below W.heap.size W wr) (fun i _ => m - (intOf i).toNat)
  case atStart => exact ⟨0, Nat.zero_le _, rfl, fun j o h => by omega, Seen.made W, (Below.refl _ _).alloc (Nat.le_refl _) _⟩
  case round =>
    obtain ⟨k, hk, rfl, hall, hseen, hb⟩ := hrel
    have HALL := Lib.hid hall
    have HSN := Lib.hid hseen
    clear hall hseen
    by_cases hkn : k < m
    · obtain ⟨o, ho⟩ : ∃ o, ops[k]? = some o := ⟨_, List.getElem?_eq_getElem (by have := HM.out; omega)⟩
      have HOO := Lib.hid (HOK.out.2 o (List.mem_of_getElem? ho))
      obtain ⟨b, off, vd, rfl, hbz, c0, c1, c2, c3, c4, rd⟩ := Rep.opAt HOK.out.2 (F2W.out.below hb) ho
      have HO := Lib.hid ho
      obtain ⟨name, decls, ac, cm, un⟩ := o
      simp only at c0 c2 c3 c4 rd
      have hrv : RepVals wr (fun _ => True) (encOpr ⟨name, decls, ac, cm, un⟩) [.string name, vd, .bool ac, .bool cm, .int .i64 un] := by simp only [encOpr, RepVals, Rep.lit_iff, and_true, true_and]; exact rd
      obtain ⟨Ad, capd, rfl, _, _⟩ := rd.shape
      have HRV := Lib.hid hrv
      clear ho rd hrv
      generalize decls.length = ld at *
      go_upto_region 8 with ((with_reducible refine atStore 64 (.tmp 7) (.tmp 31) rfl ?_); refine wpList_store_new rfl 64 _ _ rfl _ _ _ rfl _ rfl (by simp) [.string name, .slice Ad ld capd, .bool ac, .bool cm, .int .i64 un] rfl ip hpi hps rfl (by simp [Value.oneCell']) ?_)
      simp only [Act.put]
      generalize hW7 : wr.alloc _ = W7
      have hb7 : Below wr.heap.size wr W7 := by rw [← hW7]; exact belowA _ _
      have y0 : W7.cell? ⟨wr.heap.size, 0, none⟩ = some (.string name) := (by rw [← hW7]; repeat' (first | (simp; done) | exact keepNew (by simp) rfl | refine keepA _ ?_))
      have y1 : W7.cell? ⟨wr.heap.size, 1, none⟩ = some (.slice Ad ld capd) := (by rw [← hW7]; repeat' (first | (simp; done) | exact keepNew (by simp) rfl | refine keepA _ ?_))
      have y2 : W7.cell? ⟨wr.heap.size, 2, none⟩ = some (.bool ac) := (by rw [← hW7]; repeat' (first | (simp; done) | exact keepNew (by simp) rfl | refine keepA _ ?_))
      have y3 : W7.cell? ⟨wr.heap.size, 3, none⟩ = some (.bool cm) := (by rw [← hW7]; repeat' (first | (simp; done) | exact keepNew (by simp) rfl | refine keepA _ ?_))
      have y4 : W7.cell? ⟨wr.heap.size, 4, none⟩ = some (.int .i64 un) := (by rw [← hW7]; repeat' (first | (simp; done) | exact keepNew (by simp) rfl | refine keepA _ ?_))
      have hbW7 : Below W.heap.size W W7 := hb.trans (hb7.mono hb.size)
      have q3 := keepB hbW7 p3
      have q4 := keepB hbW7 p4
      have q5 := keepB hbW7 p5
      have HRV7 := Lib.hid (HRV.out.below hb7)
      have HSN7 := Lib.hid (HSN.out.below hb7)
      clear hW7 c0 c1 c2 c3 c4 HRV HSN hb7 hb hbz
      generalize wr.heap.size = g7 at *
      have hlk := run_seen HSN7.out Try.underlying99 Try.underlying9 (zero_bool W7) name
      have HNM := Lib.hid (fun w => implIsName name HOO.out.1 w)
      cases hh : hasStr (opNames (ops.take k)) name
      rotate_left
      · have HF : Hid (isSgn ⟨s, ops⟩ = false) := isSgn_false fun h => by have := (h.names k _ HO.out).2; simp only at this; rw [hh] at this; cases this
        rw [hh] at hlk
        clear hh
        go_wp2
        go_ret
        exact ⟨ret_bool HF.out.symm, hbW.trans (hbW7.mono hbW.size)⟩
      rw [hh] at hlk
      have HH := Lib.hid hh
      clear hh
      cases hin : isName name
      · have HF : Hid (isSgn ⟨s, ops⟩ = false) := isSgn_false fun h => by have := (h.names k _ HO.out).1; simp only at this; rw [hin] at this; cases this
        rw [hin] at HNM
        clear hin
        go_wp2_with (go_at_call 53; refine (HNM.out _).mono ?_; rintro e w3 ⟨rfl, rfl⟩)
        go_ret
        exact ⟨ret_bool HF.out.symm, hbW.trans (hbW7.mono hbW.size)⟩
      rw [hin] at HNM
      have HIN := Lib.hid hin
      clear hin
      have HDC := Lib.hid (implDeclsOK s ⟨name, decls, ac, cm, un⟩ (fun _ => True) Aa Ak n ca ck (.slice Ab n cb) [.string name, .slice Ad ld capd, .bool ac, .bool cm, .int .i64 un] W7 HLN.out h8 HK.out HOO.out HRV7.out rfl hma hca (RKW.out.below hbW7))
      cases hde : declsOk s ⟨name, decls, ac, cm, un⟩
      · have HF : Hid (isSgn ⟨s, ops⟩ = false) := isSgn_false fun h => by have := declsOk_true (h.decls _ (List.mem_of_getElem? HO.out)); simp only at this; rw [hde] at this; cases this
        rw [hde] at HDC
        clear hde
        go_wp2_with (first | (go_at_call 53; refine (HNM.out _).mono ?_; rintro e w3 ⟨rfl, rfl⟩) | (go_at_call 54; refine HDC.out.mono ?_; rintro e w3 ⟨rfl, hb3⟩))
        go_ret
        exact ⟨ret_bool HF.out.symm, hbW.trans ((hbW7.trans (hb3.mono hbW7.size)).mono hbW.size)⟩
      rw [hde] at HDC
      have HDE := Lib.hid (declsOk_iff.1 hde)
      clear hde
      go_wp2_with (go_at_call 53; refine (HNM.out _).mono ?_; rintro e w3 ⟨rfl, rfl⟩)
      refine HDC.out.mono ?_
      rintro e W8 ⟨rfl, hb8⟩
      have hbW8 : Below W.heap.size W W8 := hbW7.trans (hb8.mono hbW7.size)
      obtain ⟨w', hup, hseen', hbel, hsz, hoth⟩ := run_see (HSN7.out.below hb8) Try.underlying99 Try.underlying9 HH.out
      have HS' := Lib.hid hseen'
      have x0 := keepB hb8 y0
      clear hseen' hoth hlk y0 y1 y2 y3 y4 q3 q4 q5
      go_wp2
      go_roundw
      case rel =>
        refine ⟨k + 1, by omega, by go_num, fun j p hj hp => ?_, by rw [opNames_snoc HO.out]; exact HS'.out, hbW8.trans hbel⟩
        by_cases hjk : j = k
        · subst hjk
          rw [HO.out] at hp
          injection hp with hp
          rw [← hp]
          exact ⟨⟨HIN.out, HH.out⟩, HDE.out⟩
        · exact HALL.out j p (by omega) hp
      case measure => simp [intOf]; omega
    · obtain rfl : m = k := by omega
      have HDA : Hid (∀ o ∈ ops, DeclsOk s o) := fun o ho => by
        obtain ⟨i, hi⟩ := List.mem_iff_getElem?.1 ho
        exact (HALL.out i o (by have hil : i < ops.length := (List.getElem?_eq_some_iff.1 hi).1; have := HM.out; omega) hi).2
      have q2 := keepB hb r2
      go_wp2
      clear q2 HSN
      have hb4 := hb
      clear hb
      obtain ⟨wo, rfl⟩ : ∃ x : World, x = wr := ⟨_, rfl⟩
      go_loopw [55] (fun i wr => ∃ k : Nat, k ≤ m ∧ i = .int .i64 k ∧ (∀ (j : Nat) (o : Opr), j < k → ops[j]? = some o → AxOk ⟨s, ops⟩ o) ∧ Below W.heap.size W wr) (fun i _ => m - (intOf i).toNat)
      case atStart => exact ⟨0, Nat.zero_le _, rfl, fun j o h => by omega, hb4⟩
      case round =>
        obtain ⟨k, hk, rfl, hall, hb⟩ := hrel
        have HAX := Lib.hid hall
        clear hall
        by_cases hkn' : k < m
        · obtain ⟨o, ho⟩ : ∃ o, ops[k]? = some o := ⟨_, List.getElem?_eq_getElem (by have := HM.out; omega)⟩
          have HOO := Lib.hid (HOK.out.2 o (List.mem_of_getElem? ho))
          obtain ⟨b, off, vd, rfl, hbz, c0, c1, c2, c3, c4, rd⟩ := Rep.opAt HOK.out.2 (F2W.out.below hb) ho
          have HO := Lib.hid ho
          obtain ⟨name, decls, ac, cm, un⟩ := o
          simp only at c0 c2 c3 c4 rd
          have hrv : RepVals wr (fun _ => True) (encOpr ⟨name, decls, ac, cm, un⟩) [.string name, vd, .bool ac, .bool cm, .int .i64 un] := by simp only [encOpr, RepVals, Rep.lit_iff, and_true, true_and]; exact rd
          obtain ⟨Ad, capd, rfl, _, _⟩ := rd.shape
          have HRV := Lib.hid hrv
          clear ho rd hrv
          generalize decls.length = ld at *
          go_upto_region 15 with ((with_reducible refine atStore 64 (.tmp 9) (.tmp 58) rfl ?_); refine wpList_store_new rfl 64 _ _ rfl _ _ _ rfl _ rfl (by simp) [.string name, .slice Ad ld capd, .bool ac, .bool cm, .int .i64 un] rfl ip hpi hps rfl (by simp [Value.oneCell']) ?_)
          simp only [Act.put]
          generalize hW7 : wr.alloc _ = W7
          have hb7 : Below wr.heap.size wr W7 := by rw [← hW7]; exact belowA _ _
          have y0 : W7.cell? ⟨wr.heap.size, 0, none⟩ = some (.string name) := (by rw [← hW7]; repeat' (first | (simp; done) | exact keepNew (by simp) rfl | refine keepA _ ?_))
          have y1 : W7.cell? ⟨wr.heap.size, 1, none⟩ = some (.slice Ad ld capd) := (by rw [← hW7]; repeat' (first | (simp; done) | exact keepNew (by simp) rfl | refine keepA _ ?_))
          have y2 : W7.cell? ⟨wr.heap.size, 2, none⟩ = some (.bool ac) := (by rw [← hW7]; repeat' (first | (simp; done) | exact keepNew (by simp) rfl | refine keepA _ ?_))
          have y3 : W7.cell? ⟨wr.heap.size, 3, none⟩ = some (.bool cm) := (by rw [← hW7]; repeat' (first | (simp; done) | exact keepNew (by simp) rfl | refine keepA _ ?_))
          have y4 : W7.cell? ⟨wr.heap.size, 4, none⟩ = some (.int .i64 un) := (by rw [← hW7]; repeat' (first | (simp; done) | exact keepNew (by simp) rfl | refine keepA _ ?_))
          have hbW7 : Below W.heap.size W W7 := hb.trans (hb7.mono hb.size)
          have q0 := keepB hbW7 r0
          have q1 := keepB hbW7 r1
          have q2 := keepB hbW7 r2
          have q3 := keepB hbW7 p3
          have q4 := keepB hbW7 p4
          have q5 := keepB hbW7 p5
          have HCA := Lib.hid (implAxiomsOK ⟨s, ops⟩ ⟨name, decls, ac, cm, un⟩ (fun _ => True) Aa Ak n ca ck (.slice Ab n cb) [.slice Ag0 n cg0, .slice Ag1 ls cg1, .slice (some ⟨b, off, none⟩) m cg2] [.string name, .slice Ad ld capd, .bool ac, .bool cm, .int .i64 un] W7 HLN.out h8 HK.out HOK.out HOO.out (HVW.out.below hbW7) (HRV.out.below hb7) (HDA.out _ (List.mem_of_getElem? HO.out)) HDA.out rfl (RKW.out.below hbW7))
          clear hW7 c0 c1 c2 c3 c4 HRV hb7 hb hbz
          generalize wr.heap.size = g7 at *
          cases hax : axOk ⟨s, ops⟩ ⟨name, decls, ac, cm, un⟩
          · have HF : Hid (isSgn ⟨s, ops⟩ = false) := isSgn_false fun h => by have := axOk_true (h.axs _ (List.mem_of_getElem? HO.out)); rw [hax] at this; cases this
            rw [hax] at HCA
            clear hax
            go_wp2_with (go_at_call 55; refine HCA.out.mono ?_; rintro e w3 ⟨rfl, hb3⟩)
            go_ret
            exact ⟨ret_bool HF.out.symm, hbW.trans ((hbW7.trans (hb3.mono hbW7.size)).mono hbW.size)⟩
          · have HAO := Lib.hid (axOk_iff.1 hax)
            rw [hax] at HCA
            clear hax
            go_wp2_with (go_at_call 55; refine HCA.out.mono ?_; rintro e w3 ⟨rfl, hb3⟩)
            go_roundw
            case rel =>
              refine ⟨k + 1, by omega, by go_num, fun j p hj hp => ?_, hbW7.trans (hb3.mono hbW7.size)⟩
              by_cases hjk : j = k
              · subst hjk
                rw [HO.out] at hp
                injection hp with hp
                rw [← hp]
                exact HAO.out
              · exact HAX.out j p (by omega) hp
            case measure => simp [intOf]; omega
        · obtain rfl : m = k := by omega
          have HF : Hid (isSgn ⟨s, ops⟩ = true) := isSgn_true ⟨HSO.out, by have := HM.out; simp only; omega, fun i o hi => (HALL.out i o (by have hil : i < ops.length := (List.getElem?_eq_some_iff.1 hi).1; have := HM.out; omega) hi).1, HDA.out, fun o ho => by
            obtain ⟨i, hi⟩ := List.mem_iff_getElem?.1 ho
            exact HAX.out i o (by have hil : i < ops.length := (List.getElem?_eq_some_iff.1 hi).1; have := HM.out; omega) hi⟩
          go_wp2
          go_ret
          exact ⟨ret_bool HF.out.symm, hbW.trans (hb.mono hbW.size)⟩
end Go.Proofs.Ytlhbdhdaecchoaa
