/-
  Part 0 of a proof: Open2, Alg, Tw, Axioms2, Sgn2, Th, Tk, Va, Ti, Tj, Cf, Rg, Alg1, Alg2, QcSignature, QcAlgebra, QcTerm, QcIntS.
-/
import Derived.Test.YtpbikjkjfojjiaaGreatBIsEquation0
import Derived.Test.YtpbikjkjfojjiaaGreatBIsEquation1
import Derived.Test.YtpbikjkjfojjiaaGreatBIsEquation2
import Derived.Test.YtpbikjkjfojjiaaGreatBIsEquation3
set_option linter.unusedSimpArgs false
set_option linter.unusedVariables false
namespace Go.Proofs.YtpbikjkjfojjiaaGreat
open Go.ChangeShapes Go.WideShapes Go.ChangeAt Go.RowKit Go.Deep

theorem okWide_one {P : Program} {w : World} {r : Reach} {base : Nat} {t e : TypeId} {v : Value} (ht : P.underlying t = some (.slice e)) (h : Value.okWide P w r base t v) : v.cells.toList = [v] := by
  simp only [Value.okWide, ht] at h
  cases v <;> first
    | rfl
    | (exfalso; simp [Cell.okWide, ht, Cell.ok] at h)
theorem open_sl {w : World} {tn : TN} {row : List C} {v : Value} (hok : okRow [.sl tn] row) (h : RepVals w (fun _ => True) row [v]) : ∃ rows, okRows (fieldsOf tn) rows ∧ Rep w (fun _ => True) (.sl rows) v := by
  match row, hok, h with
  | [c], hok, h =>
    simp only [okRow] at hok
    obtain ⟨rows, rfl, hr⟩ := okC_sl hok.1
    simp only [RepVals] at h
    exact ⟨rows, hr, h.1⟩
end Go.Proofs.YtpbikjkjfojjiaaGreat

namespace Go.Proofs.YtpbikjkjfojjiaaGreat
open Go.RowKit Go.Sort

structure TabOk (z : Int) (n : Nat) (t : List Int) : Prop where
  len : t.length = z.toNat ^ n
  all : ∀ x ∈ t, 0 ≤ x ∧ x < z
structure AlgOk (g : Sgn) (a : Alg) : Prop where
  sgn : SgnOk g
  lo : 1 ≤ a.size
  hi : a.size ≤ 4
  len : a.tables.length = g.ops.length
  tab : ∀ (i : Nat) (o : Opr) (d : Dcl) (t : List Int), g.ops[i]? = some o → o.decls[0]? = some d → a.tables[i]? = some t → TabOk a.size d.args.length t
open Classical in
noncomputable def isAlg (g : Sgn) (a : Alg) : Bool := decide (AlgOk g a)
theorem isAlg_true {g : Sgn} {a : Alg} (h : AlgOk g a) : isAlg g a = true := by simp [isAlg, h]
theorem isAlg_false {g : Sgn} {a : Alg} (h : ¬ AlgOk g a) : isAlg g a = false := by simp [isAlg, h]
theorem isAlg_iff {g : Sgn} {a : Alg} : isAlg g a = true ↔ AlgOk g a := by simp [isAlg]
def algC (f : FuncId) : Prop := ∀ (g : Sgn) (a : Alg) (S : Nat → Prop) (vs us : List Value) (w : World), okSgn g → okAlg a → RepVals w S (encSgn g) vs → RepVals w S (encAlg a) us →
  Calls Tryz.prog f #[.agg vs.toArray, .agg us.toArray] w fun e w' => e = .returned (.bool (isAlg g a)) ∧ Below w.heap.size w w'
theorem pow_le64 {z j : Nat} (hz : z ≤ 4) (hj : j ≤ 3) : z ^ j ≤ 64 := Nat.le_trans (Nat.pow_le_pow_left hz j) (Nat.le_trans (Nat.pow_le_pow_right (by omega) hj) (by decide))
theorem wrap_mul {p z : Nat} (hp : p ≤ 64) (hz : z ≤ 4) : wrap64 ((p : Int) * (z : Int)) = ((p * z : Nat) : Int) ∧ IntKind.i64.wrap ((p : Int) * (z : Int)) = ((p * z : Nat) : Int) := by
  have h : p * z ≤ 64 * 4 := Nat.mul_le_mul hp hz
  have e : (p : Int) * (z : Int) = ((p * z : Nat) : Int) := by rw [Int.natCast_mul]
  rw [e]
  generalize p * z = q at *
  constructor
  · exact IntWalk.wrap64_in _ (by omega)
  · exact IntWalk.i64_in _ (by omega)
end Go.Proofs.YtpbikjkjfojjiaaGreat

namespace Go.Proofs.YtpbikjkjfojjiaaGreat
open Go.RowKit

/-- What a table of two arguments gives. -/
def tw2 (a : Alg) (i : Nat) (x y : Int) : Int := (a.tables.getD i []).getD (x * a.size + y).toNat 0
def Inz (a : Alg) (x : Int) : Prop := 0 ≤ x ∧ x < a.size
/-- A table for two arguments. -/
structure Tab2 (a : Alg) (i : Nat) : Prop where
  lo : 1 ≤ a.size
  hi : a.size ≤ 4
  tab : ∃ l, a.tables[i]? = some l ∧ l.length = a.size.toNat * a.size.toNat ∧ ∀ x ∈ l, Inz a x
theorem Tab2.get {a : Alg} {i : Nat} (h : Tab2 a i) {x y : Int} (hx : Inz a x) (hy : Inz a y) : ∃ l, a.tables[i]? = some l ∧ IntKind.i64.wrap (x * a.size) = x * a.size ∧ IntKind.i64.wrap (x * a.size + y) = x * a.size + y ∧ 0 ≤ x * a.size + y ∧ l[(x * a.size + y).toNat]? = some (tw2 a i x y) ∧ Inz a (tw2 a i x y) := by
  obtain ⟨l, h1, h2, h3⟩ := h.tab
  have hlo := h.lo
  have hhi := h.hi
  obtain ⟨x0, x1⟩ := hx
  obtain ⟨y0, y1⟩ := hy
  have m0 : 0 ≤ x * a.size := Int.mul_nonneg x0 (by omega)
  have m1 : x * a.size + a.size ≤ a.size * a.size := by
    have : (x + 1) * a.size ≤ a.size * a.size := Int.mul_le_mul_of_nonneg_right (by omega) (by omega)
    rw [Int.add_mul] at this; omega
  have m2 : a.size * a.size ≤ 16 := by
    have := Int.mul_le_mul hhi hhi (by omega) (by omega)
    omega
  have hl : (x * a.size + y).toNat < l.length := by
    rw [h2]
    have e : ((a.size.toNat * a.size.toNat : Nat) : Int) = a.size * a.size := by rw [Int.natCast_mul, Int.toNat_of_nonneg (by omega)]
    omega
  have e1 : tw2 a i x y = l[(x * a.size + y).toNat] := by
    unfold tw2
    simp [List.getD_eq_getElem?_getD, h1, List.getElem?_eq_getElem hl]
  refine ⟨l, h1, wrapN rfl (by omega) (by omega), wrapN rfl (by omega) (by omega), by omega, ?_, ?_⟩
  · rw [e1]; exact List.getElem?_eq_getElem hl
  · rw [e1]; exact h3 _ (List.getElem_mem hl)
set_option maxHeartbeats 4000000 in
set_option maxRecDepth 100000 in
theorem con_l22Two {a : Alg} {i : Nat} {x y : Int} (ht : Tab2 a i) (hx : Inz a x) (hy : Inz a y) : Con e0 116 [.agg (encAlg a), .one (.lit (.int .i64 i)), .one (.lit (.int .i64 x)), .one (.lit (.int .i64 y))] [.one (.lit (.int .i64 (tw2 a i x y)))] := by
  obtain ⟨l, h, hw, hw2, h0, hv, _⟩ := ht.get hx hy
  refine gI 287 Tryz.func116 ?_
  (have F := And.intro @encAlg_u (And.intro @encInts_u (And.intro @encInt_u (And.intro @h (And.intro @hw (And.intro @hw2 (And.intro @h0 @hv)))))); refine gG ?_; exact gT)
end Go.Proofs.YtpbikjkjfojjiaaGreat

namespace Go.Proofs.YtpbikjkjfojjiaaGreat
open Go.RowKit Go.Sort

set_option maxRecDepth 100000 in
theorem specArity (o : Opr) (d : Dcl) (S : Nat → Prop) (us : List Value) (w : World) (hok : okOpr o) (hv : RepVals w S (encOpr o) us) (hd : o.decls[0]? = some d) :
    Calls Tryz.prog 115 #[.agg us.toArray] w fun e w' => e = .returned (.int .i64 d.args.length) ∧ Below w.heap.size w w' := by
  obtain ⟨name, decls, ac, cm, un⟩ := o
  simp only [encOpr] at hv
  simp only at hd
  obtain ⟨v1, rfl, e1⟩ := repVals_Op hv
  obtain ⟨A1, cap1, rfl, hc1, hm1⟩ := e1.shape
  obtain ⟨b1, o1, rfl, _, hz1, hrow⟩ := Rep.at okDclR hok.2.1 e1 hd
  obtain ⟨dargs, dres⟩ := d
  simp only [encDcl, RepRow, and_true, fieldsOf, List.length_cons, List.length_nil, Nat.reduceAdd, Nat.zero_mul, Nat.add_zero, Rep.lit_iff] at hrow
  obtain ⟨⟨u0, c0, r0⟩, ⟨_, c1, rfl⟩⟩ := hrow
  obtain ⟨Ad, capd, rfl, hcd, hmd⟩ := r0.shape
  have hl : 0 < decls.length := (List.getElem?_eq_some_iff.1 hd).1
  clear hv e1 r0 hd hok
  unfold maxLen at hm1 hmd
  simp only
  generalize decls.length = m at *
  generalize dargs.length = ld at *
  go_enter Tryz.func115, Tryz.ntmps115
  go_wp2
  go_ret
  exact ⟨rfl, belowA _ _⟩

theorem info_OpR : (Tryz.prog.info? 153).map (fun i => (i.zero, i.size, i.bytes)) = some (some (.agg #[.string ⟨#[]⟩, .slice none 0 0, .bool false, .bool false, .int .i64 0]), 5, 56) := by kernel_rfl
set_option maxHeartbeats 20000000 in
set_option maxRecDepth 100000 in
theorem specAxioms (g : Sgn) (o : Opr) (k : Nat) (S : Nat → Prop) (vs : List Value) (w : World) (hs : SortsOk g.sorts) (hokg : okSgn g) (hvg : RepVals w S (encSgn g) vs) (ho : g.ops[k]? = some o) (hall : ∀ p ∈ g.ops, DeclsOk g.sorts p) :
    Calls Tryz.prog 95 #[.agg vs.toArray, .int .i64 k] w fun e w' => e = .returned (.bool (axOk g o)) ∧ Below w.heap.size w w' := by
  obtain ⟨s, ops⟩ := g
  simp only at ho hall hs
  obtain ⟨n, hN⟩ : ∃ n, s.names.length = n := ⟨_, rfl⟩
  have hK := kinds_ok (SortsOk.subsIn hs.subs)
  have h8 := hs.n8
  rw [hN] at hK h8
  obtain ⟨g0, g1, g2, rfl, f0, f1, f2⟩ := repVals_Signature hvg
  obtain ⟨Ag0, cg0, rfl, _, _⟩ := f0.shape
  obtain ⟨Ag1, cg1, rfl, _, _⟩ := f1.shape
  obtain ⟨Ag2, cg2, rfl, hcg2, hmg2⟩ := f2.shape
  have HSR : Hid (RepVals w S (encSrt s) [.slice Ag0 s.names.length cg0, .slice Ag1 s.subs.length cg1]) := by show RepVals _ _ _ _; simp only [encSrt, RepVals, and_true]; exact ⟨f0, f1⟩
  have HKI := Lib.hid (fun W h => specKinds s S [.slice Ag0 s.names.length cg0, .slice Ag1 s.subs.length cg1] W hokg.1 h hs.n1 hs.n8 hs.subs)
  obtain ⟨ic, hci, _, hcs, _⟩ := info_parts info_Decl'
  obtain ⟨ip, hpi, _, hps, _⟩ := info_parts info_OpR
  have hko : k < ops.length := (List.getElem?_eq_some_iff.1 ho).1
  obtain ⟨bo, oo, rfl, _, hzo, hrow⟩ := Rep.at okOprR hokg.2 f2 ho
  have hok := hokg.2 o (List.mem_of_getElem? ho)
  obtain ⟨d, hd, hdd⟩ := (hall o (List.mem_of_getElem? ho)).first
  have HO := Lib.hid ho
  obtain ⟨name, decls, ac, cm, un⟩ := o
  simp only [encOpr, RepRow, and_true, fieldsOf, List.length_cons, List.length_nil, Nat.reduceAdd, Rep.lit_iff] at hrow
  obtain ⟨⟨_, d0, rfl⟩, ⟨vd, d1, rd⟩, ⟨_, d2, rfl⟩, ⟨_, d3, rfl⟩, ⟨_, d4, rfl⟩⟩ := hrow
  obtain ⟨A1, cap1, rfl, hc1, hm1⟩ := rd.shape
  simp only at hd hdd
  have hrv : RepVals w S (encOpr ⟨name, decls, ac, cm, un⟩) [.string name, .slice A1 decls.length cap1, .bool ac, .bool cm, .int .i64 un] := by simp only [encOpr, RepVals, Rep.lit_iff, and_true, true_and]; exact rd
  have HAR := Lib.hid (fun W h => specArity ⟨name, decls, ac, cm, un⟩ d S [.string name, .slice A1 decls.length cap1, .bool ac, .bool cm, .int .i64 un] W hok h hd)
  obtain ⟨b1, o1, rfl, _, hz1, hrow⟩ := Rep.at okDclR hok.2.1 rd hd
  have HDOK := Lib.hid (hok.2.1 d (List.mem_of_getElem? hd))
  obtain ⟨dargs, dres⟩ := d
  simp only [encDcl, RepRow, and_true, fieldsOf, List.length_cons, List.length_nil, Nat.reduceAdd, Nat.zero_mul, Nat.add_zero, Rep.lit_iff] at hrow
  obtain ⟨⟨u0, c0, r0⟩, ⟨_, c1, rfl⟩⟩ := hrow
  obtain ⟨Ad, capd, rfl, hcd, hmd⟩ := r0.shape
  have hun : I64 un := hok.2.2
  have HD0 := Lib.hid hd
  have HDD := Lib.hid hdd
  have HALL := Lib.hid hall
  have HN := Lib.hid hN
  have HK := Lib.hid hK
  have RD := Lib.hid r0
  have F2 := Lib.hid f2
  have HOKG := Lib.hid hokg
  have HRV := Lib.hid hrv
  have hml : 0 < decls.length := (List.getElem?_eq_some_iff.1 hd).1
  clear hvg rd hok hd hdd hall hK r0 f0 f1 f2 hokg hs ho hrv
  unfold maxLen at hm1 hmd hmg2
  unfold I64 at hun
  rw [hN] at HSR HKI
  simp only
  rw [hN]
  clear hN
  generalize s.subs.length = ls at *
  simp only at hcg2 hmg2 HAR HRV F2
  generalize hM : ops.length = m at *
  have HM := Lib.hid hM
  generalize decls.length = md at *
  generalize hLD : dargs.length = ld at *
  have HLD := Lib.hid hLD
  clear hM hLD
  go_enter Tryz.func95, Tryz.ntmps95
  go_upto_region 2 with ((with_reducible refine atStore 153 (.tmp 5) (.tmp 16) rfl ?_); refine wpList_store_new rfl 153 _ _ rfl _ _ _ rfl _ rfl (by simp) [.string name, .slice (some ⟨b1, o1, none⟩) md cap1, .bool ac, .bool cm, .int .i64 un] rfl ip hpi hps rfl (by simp [Value.oneCell']) ?_)
  generalize hW : (w.alloc _).alloc _ = W1
  have hb1 : Below w.heap.size w W1 := by rw [← hW]; exact (by repeat' (first | exact Below.refl _ _ | refine below_drewN ?_ _ | refine Below.alloc ?_ (by first | exact Nat.le_refl _ | (simp; done) | (simp; omega)) _))
  have p0 : W1.cell? ⟨w.heap.size, 0, none⟩ = some (.slice Ag0 n cg0) := (by rw [← hW]; repeat' (first | (simp; done) | exact keepNew (by simp) rfl | refine keepA _ ?_))
  have p1 : W1.cell? ⟨w.heap.size, 1, none⟩ = some (.slice Ag1 ls cg1) := (by rw [← hW]; repeat' (first | (simp; done) | exact keepNew (by simp) rfl | refine keepA _ ?_))
  have p2 : W1.cell? ⟨w.heap.size, 2, none⟩ = some (.slice (some ⟨bo, oo, none⟩) m cg2) := (by rw [← hW]; repeat' (first | (simp; done) | exact keepNew (by simp) rfl | refine keepA _ ?_))
  have s0 : W1.cell? ⟨w.heap.size + 1, 0, none⟩ = some (.string name) := (by rw [← hW]; repeat' (first | (simp; done) | exact keepNew (by simp) rfl | refine keepA _ ?_))
  have s1 : W1.cell? ⟨w.heap.size + 1, 1, none⟩ = some (.slice (some ⟨b1, o1, none⟩) md cap1) := (by rw [← hW]; repeat' (first | (simp; done) | exact keepNew (by simp) rfl | refine keepA _ ?_))
  have s2 : W1.cell? ⟨w.heap.size + 1, 2, none⟩ = some (.bool ac) := (by rw [← hW]; repeat' (first | (simp; done) | exact keepNew (by simp) rfl | refine keepA _ ?_))
  have s3 : W1.cell? ⟨w.heap.size + 1, 3, none⟩ = some (.bool cm) := (by rw [← hW]; repeat' (first | (simp; done) | exact keepNew (by simp) rfl | refine keepA _ ?_))
  have s4 : W1.cell? ⟨w.heap.size + 1, 4, none⟩ = some (.int .i64 un) := (by rw [← hW]; repeat' (first | (simp; done) | exact keepNew (by simp) rfl | refine keepA _ ?_))
  clear hW d0 d1 d2 d3 d4
  generalize w.heap.size + 1 = g5 at *
  by_cases u2 : ac = false ∧ cm = false ∧ un = 0
  · obtain ⟨rfl, rfl, rfl⟩ := u2
    have HF : Hid (axOk ⟨s, ops⟩ ⟨name, decls, false, false, 0⟩ = true) := axOk_true ⟨by simp, by simp, fun h => by simp at h⟩
    go_wp2
    go_ret
    exact ⟨ret_bool HF.out.symm, hb1⟩
  have HU2 : Hid (ac = true ∨ cm = true ∨ un ≠ 0) := by
    show _ ∨ _
    cases ac <;> cases cm <;> simp at u2 ⊢ <;> omega
  simp only [Act.put]
  go_cut [29] (fun v wx => v = .bool false ∧ W1 = wx)
  case first =>
    cases ac
    · cases cm
      · have n1 : (un == 0) = false := by simpa using u2
        clear u2
        go_wp2
        all_goals (go_meet; exact ⟨rfl, rfl⟩)
      · clear u2
        go_wp2
        all_goals (go_meet; exact ⟨rfl, rfl⟩)
    · clear u2
      go_wp2
      all_goals (go_meet; exact ⟨rfl, rfl⟩)
  case rest =>
    obtain ⟨rfl, rfl⟩ := hcut
    clear u2
    have HAR1 := Lib.hid (HAR.out _ (HRV.out.below hb1))
    have HIN := Lib.hid (fun w => specIn un 0 m w)
    by_cases u3 : ld = 2
    rotate_left
    · have HF : Hid (axOk ⟨s, ops⟩ ⟨name, decls, ac, cm, un⟩ = false) := axOk_false fun h => u3 (by have := (h.two HU2.out _ HD0.out).1; have := HLD.out; simp only at *; omega)
      have n1 : (ld == 2) = false := by simp [u3]
      have n2 : ((ld : Int) == 2) = false := by simp; omega
      have n3 : ((ld : Int) != 2) = true := by simp; omega
      go_wp2_with (go_at_call 115; refine HAR1.out.mono ?_; rintro e w3 ⟨rfl, hb3⟩)
      go_ret
      exact ⟨ret_bool HF.out.symm, hb1.trans (hb3.mono hb1.size)⟩
    subst u3
    by_cases u4 : 0 ≤ un ∧ un ≤ m
    rotate_left
    · have HF : Hid (axOk ⟨s, ops⟩ ⟨name, decls, ac, cm, un⟩ = false) := axOk_false fun h => u4 (by have h1 := h.lo; have h2 := h.hi; have := HM.out; simp only at *; omega)
      rw [decide_eq_false u4] at HIN
      clear u4
      go_wp2_with fail
      refine HAR1.out.mono ?_
      rintro e w3 ⟨rfl, hb3⟩
      have t2 := keepB hb3 p2
      have t4 := keepB hb3 s4
      go_wp2_with (go_at_call 64; refine (HIN.out _).mono ?_; rintro e w4 ⟨rfl, rfl⟩)
      go_ret
      exact ⟨ret_bool HF.out.symm, hb1.trans (hb3.mono hb1.size)⟩
    rw [decide_eq_true u4] at HIN
    go_wp2_with fail
    refine HAR1.out.mono ?_
    rintro e w3 ⟨rfl, hb3⟩
    have t0 := keepB hb3 p0
    have t1 := keepB hb3 p1
    have t2 := keepB hb3 p2
    have t4 := keepB hb3 s4
    go_wp2_with (go_at_call 64; refine (HIN.out _).mono ?_; rintro e w4 ⟨rfl, rfl⟩)
    have hb13 := hb1.trans (hb3.mono hb1.size)
    refine (HKI.out _ (HSR.out.below hb13)).mono ?_
    rintro e W2 ⟨vk, rfl, hI, hbk⟩
    obtain ⟨Ak, ck, rfl, hck, hmk, hA⟩ := hI.form
    have hkl : (casts (kinds s)).length = n := by rw [casts_len]; exact HK.out.1
    have hI' := hI.rep
    rw [hkl] at hI' hck
    rw [hkl]
    clear hkl hA
    unfold maxLen at hmk
    have VK1 := Lib.hid hI'
    clear hI hI' t0 t1 t2 t4
    have hb2 : Below W1.heap.size W1 W2 := hb3.trans (hbk.mono hb3.size)
    have hbw := hb1.trans (hb2.mono hb1.size)
    have t1 := keepB hb2 s1
    have e0 := keepB hbw c0
    have e1 := keepB hbw c1
    go_wp2_with ((with_reducible refine atStore 181 (.tmp 7) (.tmp 48) rfl ?_); refine wpList_store_new rfl 181 _ _ rfl _ _ _ rfl _ rfl (by simp) [.slice Ad 2 capd, .int .i64 dres] rfl ic hci hcs rfl (by simp [Value.oneCell']) ?_)
    generalize hW : W2.alloc _ = W
    have hb4 : Below W2.heap.size W2 W := by rw [← hW]; exact belowA _ _
    have x0 : W.cell? ⟨W2.heap.size, 0, none⟩ = some (.slice Ad 2 capd) := (by rw [← hW]; repeat' (first | (simp; done) | exact keepNew (by simp) rfl | refine keepA _ ?_))
    have x1 : W.cell? ⟨W2.heap.size, 1, none⟩ = some (.int .i64 dres) := (by rw [← hW]; repeat' (first | (simp; done) | exact keepNew (by simp) rfl | refine keepA _ ?_))
    have hb1W : Below W1.heap.size W1 W := hb2.trans (hb4.mono hb2.size)
    have hbW : Below w.heap.size w W := hb1.trans (hb1W.mono hb1.size)
    have VK := Lib.hid (VK1.out.below hb4)
    clear hW t1 e0 e1 VK1
    generalize W2.heap.size = g7 at *
    have t1 := keepB hb1W s1
    have t2 := keepB hb1W s2
    have t4 := keepB hb1W s4
    have t5 := keepB hb1W p2
    clear hb2 hb4 hbk hbw hb13 hb3
    obtain ⟨a, b, rfl⟩ := two_of HLD.out
    obtain ⟨ba, oa, rfl, hza, ca0⟩ := Rep.int HDOK.out.1 (RD.out.below hbW) (k := 0) (x := a) rfl
    obtain ⟨_, _, hA, _, ca1⟩ := Rep.int HDOK.out.1 (RD.out.below hbW) (k := 1) (x := b) rfl
    injection hA with hA
    injection hA with hA hA'
    subst hA hA'
    simp only [Nat.add_zero] at ca0
    have ha := HDD.out.args a (by simp)
    have hb := HDD.out.args b (by simp)
    have hr := HDD.out.res
    simp only at hr
    rw [HN.out] at ha hb hr
    obtain ⟨a, rfl⟩ := Int.eq_ofNat_of_zero_le ha.1
    obtain ⟨b, rfl⟩ := Int.eq_ofNat_of_zero_le hb.1
    obtain ⟨r, rfl⟩ := Int.eq_ofNat_of_zero_le hr.1
    obtain ⟨bk, ok, rfl, hzk, ka⟩ := kd_cell (by rw [HN.out]; exact HK.out) (by rw [HN.out]; exact h8) VK.out (k := a) (by rw [HN.out]; omega)
    obtain ⟨_, _, hA, _, kb⟩ := kd_cell (by rw [HN.out]; exact HK.out) (by rw [HN.out]; exact h8) VK.out (k := b) (by rw [HN.out]; omega)
    injection hA with hA
    injection hA with hA hA'
    subst hA hA'
    obtain ⟨_, _, hA, _, kr⟩ := kd_cell (by rw [HN.out]; exact HK.out) (by rw [HN.out]; exact h8) VK.out (k := r) (by rw [HN.out]; omega)
    injection hA with hA
    injection hA with hA hA'
    subst hA hA'
    clear HDD
    generalize hka : kd s a = ka' at *
    generalize hkb : kd s b = kb' at *
    generalize hkr : kd s r = kr' at *
    have HKA := Lib.hid hka
    have HKB := Lib.hid hkb
    have HKC := Lib.hid hkr
    clear hka hkb hkr
    go_quiet (fail)
    have VKq := Lib.hid (VK.out.below (belowN W nq))
    have hb1q := below_drewN hb1W nq
    have hbWq := below_drewN hbW nq
    have HF2 := Lib.hid (F2.out.below hbWq)
    replace x0 := keepN (n := nq) x0
    replace x1 := keepN (n := nq) x1
    replace t1 := keepN (n := nq) t1
    replace t2 := keepN (n := nq) t2
    replace t4 := keepN (n := nq) t4
    replace t5 := keepN (n := nq) t5
    clear ka kb kr ca0 ca1 VK hb1W hbW hza hzk
    generalize W.drewN nq = Wq at *
    by_cases u5 : ka' = kb'
    rotate_left
    · have HF : Hid (axOk ⟨s, ops⟩ ⟨name, decls, ac, cm, un⟩ = false) := axOk_false fun h => u5 (by have := ((h.two HU2.out _ HD0.out).2 _ _ rfl rfl).1; simp only [HKA.out, HKB.out] at this; exact this)
      have n1 : (ka' == kb') = false := by simp [u5]
      have n2 : ((ka' : Int) == (kb' : Int)) = false := by simp; omega
      have n3 : ((ka' : Int) != (kb' : Int)) = true := by simp; omega
      go_wp2
      go_ret
      exact ⟨ret_bool HF.out.symm, hbWq⟩
    subst u5
    by_cases u6 : (ac = true ∨ un ≠ 0) ∧ ka' ≠ kr'
    · have HF : Hid (axOk ⟨s, ops⟩ ⟨name, decls, ac, cm, un⟩ = false) := axOk_false fun h => u6.2 (by have := ((h.two HU2.out _ HD0.out).2 _ _ rfl rfl).2.1 u6.1; simp only [HKA.out, HKC.out] at this; exact this)
      obtain ⟨u7, u8⟩ := u6
      have n1 : (ka' == kr') = false := by simp [u8]
      have n2 : ((ka' : Int) == (kr' : Int)) = false := by simp; omega
      have n3 : ((ka' : Int) != (kr' : Int)) = true := by simp; omega
      cases ac
      · have u9 : 0 < un := by simp at u7; omega
        clear u7
        go_wp2
        go_ret
        exact ⟨ret_bool HF.out.symm, hbWq⟩
      · clear u7
        go_wp2
        go_ret
        exact ⟨ret_bool HF.out.symm, hbWq⟩
    have HU5 : Hid ((ac = true ∨ un ≠ 0) → ka' = kr') := fun h => Decidable.byContradiction fun h' => u6 ⟨h, h'⟩
    clear u6
    by_cases u7 : un = 0
    · subst u7
      have HF : Hid (axOk ⟨s, ops⟩ ⟨name, decls, ac, cm, 0⟩ = true) := axOk_true ⟨by simp, by simp, fun _ d hd => by
        have hd' : decls[0]? = some d := hd
        rw [HD0.out] at hd'
        injection hd' with hd'
        subst hd'
        refine ⟨rfl, fun x y hx hy => ?_⟩
        have hx : (a : Int) = x := by simpa using hx
        have hy : (b : Int) = y := by simpa using hy
        subst hx hy
        exact ⟨by rw [HKA.out, HKB.out], fun h => by show kd s a = kd s r; rw [HKA.out, HKC.out]; exact HU5.out h, fun h => absurd rfl h⟩⟩
      cases ac
      · go_wp2
        go_ret
        exact ⟨ret_bool HF.out.symm, hbWq⟩
      · have u8 := HU5.out (Or.inl rfl)
        subst u8
        go_wp2
        go_ret
        exact ⟨ret_bool HF.out.symm, hbWq⟩
    have u8 : ka' = kr' := HU5.out (.inr u7)
    subst u8
    obtain ⟨q, hq⟩ : ∃ q : Nat, un = (q : Int) + 1 := ⟨(un - 1).toNat, by omega⟩
    subst hq
    obtain ⟨p, hp⟩ : ∃ p, ops[q]? = some p := ⟨_, List.getElem?_eq_getElem (by have := HM.out; omega)⟩
    obtain ⟨_, _, hA, _, hzo2, hrow⟩ := Rep.at okOprR HOKG.out.2 HF2.out hp
    injection hA with hA
    injection hA with hA hA'
    subst hA hA'
    obtain ⟨u, hu, huu⟩ := (HALL.out p (List.mem_of_getElem? hp)).first
    have HPOK := Lib.hid (HOKG.out.2 p (List.mem_of_getElem? hp))
    have HP := Lib.hid hp
    have HUU := Lib.hid hu
    obtain ⟨pname, pdecls, pac, pcm, pun⟩ := p
    simp only [encOpr, RepRow, and_true, fieldsOf, List.length_cons, List.length_nil, Nat.reduceAdd, Rep.lit_iff] at hrow
    obtain ⟨⟨_, d0, rfl⟩, ⟨vd, d1, rd⟩, ⟨_, d2, rfl⟩, ⟨_, d3, rfl⟩, ⟨_, d4, rfl⟩⟩ := hrow
    obtain ⟨Au, capu, rfl, hcu, hmu⟩ := rd.shape
    simp only at hu huu
    have hrvp : RepVals Wq S (encOpr ⟨pname, pdecls, pac, pcm, pun⟩) [.string pname, .slice Au pdecls.length capu, .bool pac, .bool pcm, .int .i64 pun] := by simp only [encOpr, RepVals, Rep.lit_iff, and_true, true_and]; exact rd
    have HRP := Lib.hid hrvp
    have HARP := Lib.hid (fun W h => specArity ⟨pname, pdecls, pac, pcm, pun⟩ u S [.string pname, .slice Au pdecls.length capu, .bool pac, .bool pcm, .int .i64 pun] W HPOK.out h hu)
    obtain ⟨bu, ou, rfl, _, hzu, hrow⟩ := Rep.at okDclR HPOK.out.2.1 rd hu
    obtain ⟨uargs, ures⟩ := u
    simp only [encDcl, RepRow, and_true, fieldsOf, List.length_cons, List.length_nil, Nat.reduceAdd, Nat.zero_mul, Nat.add_zero, Rep.lit_iff] at hrow
    obtain ⟨⟨x5, x6, x7⟩, ⟨_, x8, rfl⟩⟩ := hrow
    obtain ⟨Av, capv, rfl, hcv, hmv⟩ := x7.shape
    have hur := huu.res
    simp only at hur
    rw [HN.out] at hur
    obtain ⟨ur, rfl⟩ := Int.eq_ofNat_of_zero_le hur.1
    have hpl : 0 < pdecls.length := (List.getElem?_eq_some_iff.1 hu).1
    unfold maxLen at hmu hmv
    clear hp hu huu x7 rd hrvp
    simp only at HARP
    generalize hku : kd s ur = ku' at *
    have HKU := Lib.hid hku
    generalize hLU : uargs.length = lu at *
    have HLU := Lib.hid hLU
    generalize pdecls.length = pl at *
    clear hku hLU
    have HIF : Hid (axOk ⟨s, ops⟩ ⟨name, decls, ac, cm, (q : Int) + 1⟩ = (lu == 0 && ku' == ka')) := by
      show _ = _
      by_cases hh : lu = 0 ∧ ku' = ka'
      · rw [axOk_true]
        · simp [hh.1, hh.2]
        · refine ⟨by simp; omega, by simp; have := HM.out; omega, fun _ d hd => ?_⟩
          have hd' : decls[0]? = some d := hd
          rw [HD0.out] at hd'
          injection hd' with hd'
          subst hd'
          refine ⟨rfl, fun x y hx hy => ?_⟩
          have hx : (a : Int) = x := by simpa using hx
          have hy : (b : Int) = y := by simpa using hy
          subst hx hy
          refine ⟨by rw [HKA.out, HKB.out], fun h => by show kd s a = kd s r; rw [HKA.out, HKC.out], fun _ p u hp hu => ?_⟩
          have hp' : ops[q]? = some p := by
            have : ops[((q : Int) + 1).toNat - 1]? = some p := hp
            rwa [show ((q : Int) + 1).toNat - 1 = q by omega] at this
          rw [HP.out] at hp'
          injection hp' with hp'
          subst hp'
          rw [HUU.out] at hu
          injection hu with hu
          subst hu
          exact ⟨by show uargs.length = 0; rw [HLU.out]; exact hh.1, by show kd s ur = kd s r; rw [HKU.out, HKC.out]; exact hh.2⟩
      · rw [axOk_false]
        · symm
          rw [Bool.eq_false_iff]
          intro h
          simp only [Bool.and_eq_true, beq_iff_eq] at h
          exact hh h
        · intro h
          have := ((h.two HU2.out _ HD0.out).2 _ _ rfl rfl).2.2 (by simp; omega) _ _ (by rw [show ((q : Int) + 1).toNat - 1 = q by omega]; exact HP.out) HUU.out
          simp only [HKU.out, HKC.out, HLU.out] at this
          exact hh this
    have hq0 : ((q : Int) + 1 == 0) = false := by simp; omega
    have hq1 : (0 : Int) < (q : Int) + 1 := by omega
    clear u7
    go_upto_region 14 with ((with_reducible refine atStore 153 (.tmp 11) (.tmp 94) rfl ?_); refine wpList_store_new rfl 153 _ _ rfl _ _ _ rfl _ rfl (by simp) [.string pname, .slice (some ⟨bu, ou, none⟩) pl capu, .bool pac, .bool pcm, .int .i64 pun] rfl ip hpi hps rfl (by simp [Value.oneCell']) ?_)
    all_goals
      simp only [Act.put]
      generalize hW : Wq.alloc _ = W11
      have hb11 : Below Wq.heap.size Wq W11 := by rw [← hW]; exact belowA _ _
      have y0 : W11.cell? ⟨Wq.heap.size, 0, none⟩ = some (.string pname) := (by rw [← hW]; repeat' (first | (simp; done) | exact keepNew (by simp) rfl | refine keepA _ ?_))
      have y1 : W11.cell? ⟨Wq.heap.size, 1, none⟩ = some (.slice (some ⟨bu, ou, none⟩) pl capu) := (by rw [← hW]; repeat' (first | (simp; done) | exact keepNew (by simp) rfl | refine keepA _ ?_))
      have y2 : W11.cell? ⟨Wq.heap.size, 2, none⟩ = some (.bool pac) := (by rw [← hW]; repeat' (first | (simp; done) | exact keepNew (by simp) rfl | refine keepA _ ?_))
      have y3 : W11.cell? ⟨Wq.heap.size, 3, none⟩ = some (.bool pcm) := (by rw [← hW]; repeat' (first | (simp; done) | exact keepNew (by simp) rfl | refine keepA _ ?_))
      have y4 : W11.cell? ⟨Wq.heap.size, 4, none⟩ = some (.int .i64 pun) := (by rw [← hW]; repeat' (first | (simp; done) | exact keepNew (by simp) rfl | refine keepA _ ?_))
      clear hW
      go_wp2_with fail
      refine (HARP.out _ (HRP.out.below hb11)).mono ?_
      rintro e W12 ⟨rfl, hb12⟩
      have hb112 := hb11.trans (hb12.mono hb11.size)
      have z1 := keepB hb12 y1
      have z6 := keepB hb112 x6
      have z8 := keepB hb112 x8
      obtain ⟨_, _, hA, _, ku⟩ := kd_cell (by rw [HN.out]; exact HK.out) (by rw [HN.out]; exact h8) (VKq.out.below hb112) (k := ur) (by rw [HN.out]; omega)
      injection hA with hA
      injection hA with hA hA'
      subst hA hA'
      rw [HKU.out] at ku
      have hbend := hbWq.trans (hb112.mono hbWq.size)
      by_cases v1 : lu = 0
      · subst v1
        by_cases v2 : ku' = ka'
        · subst v2
          rw [beq_self_eq_true, beq_self_eq_true, Bool.and_true] at HIF
          go_wp2
          go_ret
          exact ⟨ret_bool HIF.out.symm, hbend⟩
        · have n1 : (ku' == ka') = false := by simp [v2]
          have n2 : ((ku' : Int) == (ka' : Int)) = false := by simp; omega
          have n3 : ((ku' : Int) != (ka' : Int)) = true := by simp; omega
          rw [n1, Bool.and_false] at HIF
          go_wp2
          go_ret
          exact ⟨ret_bool HIF.out.symm, hbend⟩
      · have n1 : (lu == 0) = false := by simp [v1]
        have n2 : ((lu : Int) == 0) = false := by simp; omega
        have n3 : ((lu : Int) != 0) = true := by simp; omega
        rw [n1, Bool.false_and] at HIF
        go_wp2
        go_ret
        exact ⟨ret_bool HIF.out.symm, hbend⟩
end Go.Proofs.YtpbikjkjfojjiaaGreat

namespace Go.Proofs.YtpbikjkjfojjiaaGreat
open Go.RowKit Go.Sort

theorem hasStr_snoc (l : List ByteArray) (t s : ByteArray) : hasStr (l ++ [t]) s = (hasStr l s || (s.toList == t.toList)) := by simp [hasStr, List.any_append]
set_option maxHeartbeats 20000000 in
set_option maxRecDepth 100000 in
theorem specIsSignature : sgnC 44 := by
  intro g S us w hok hv
  obtain ⟨s, ops⟩ := g
  have hv0 := hv
  obtain ⟨g0, g1, g2, rfl, f0, f1, f2⟩ := repVals_Signature hv
  obtain ⟨Ag0, cg0, rfl, _, _⟩ := f0.shape
  obtain ⟨Ag1, cg1, rfl, _, _⟩ := f1.shape
  obtain ⟨Ag2, cg2, rfl, hcg2, hmg2⟩ := f2.shape
  have HSR : Hid (RepVals w S (encSrt s) [.slice Ag0 s.names.length cg0, .slice Ag1 s.subs.length cg1]) := by show RepVals _ _ _ _; simp only [encSrt, RepVals, and_true]; exact ⟨f0, f1⟩
  have HOK := Lib.hid hok
  have HV := Lib.hid hv0
  have F2 := Lib.hid f2
  clear hv hv0 f0 f1 f2 hok
  simp only at HSR HV F2 hcg2 hmg2
  simp only
  generalize hln : s.names.length = n at *
  generalize s.subs.length = ls at *
  have HLN := Lib.hid hln
  clear hln
  generalize hM : ops.length = m at *
  have HM := Lib.hid hM
  clear hM
  unfold maxLen at hmg2
  have HIS := Lib.hid (fun W h => specIsSorts s S [.slice Ag0 n cg0, .slice Ag1 ls cg1] W HOK.out.1 h)
  by_cases hs : SortsOk s
  rotate_left
  · have HF : Hid (isSgn ⟨s, ops⟩ = false) := isSgn_false fun h => hs h.sorts
    rw [isSorts_false hs] at HIS
    clear hs
    go_enter Tryz.func44, Tryz.ntmps44
    go_wp2_with fail
    refine (HIS.out _ (HSR.out.below (belowA _ _))).mono ?_
    rintro e w2 ⟨rfl, hb2⟩
    go_wp2
    go_ret
    exact ⟨ret_bool HF.out.symm, (belowA _ _).trans (hb2.mono (belowA _ _).size)⟩
  rw [isSorts_true hs] at HIS
  have HSO := Lib.hid hs
  clear hs
  go_enter Tryz.func44, Tryz.ntmps44
  go_wp2_with fail
  generalize hW : w.alloc _ = W0
  have hb0 : Below w.heap.size w W0 := by rw [← hW]; exact belowA _ _
  have p0 : W0.cell? ⟨w.heap.size, 0, none⟩ = some (.slice Ag0 n cg0) := (by rw [← hW]; repeat' (first | (simp; done) | exact keepNew (by simp) rfl | refine keepA _ ?_))
  have p1 : W0.cell? ⟨w.heap.size, 1, none⟩ = some (.slice Ag1 ls cg1) := (by rw [← hW]; repeat' (first | (simp; done) | exact keepNew (by simp) rfl | refine keepA _ ?_))
  have p2 : W0.cell? ⟨w.heap.size, 2, none⟩ = some (.slice Ag2 m cg2) := (by rw [← hW]; repeat' (first | (simp; done) | exact keepNew (by simp) rfl | refine keepA _ ?_))
  clear hW
  refine (HIS.out _ (HSR.out.below hb0)).mono ?_
  rintro e W ⟨rfl, hb2⟩
  have hbW : Below w.heap.size w W := hb0.trans (hb2.mono hb0.size)
  have r0 := keepB hb2 p0
  have r1 := keepB hb2 p1
  have r2 := keepB hb2 p2
  have F2W := Lib.hid (F2.out.below hbW)
  have HVW := Lib.hid (HV.out.below hbW)
  clear p0 p1 p2 F2 HV HSR HIS hb0 hb2
  by_cases h14 : 14 < m
  · have HF : Hid (isSgn ⟨s, ops⟩ = false) := isSgn_false fun h => by have := h.len; have := HM.out; simp only at *; omega
    go_wp2
    go_ret
    exact ⟨ret_bool HF.out.symm, hbW⟩
  go_wp2
  go_loopw [3] (fun i wr => ∃ k : Nat, k ≤ m ∧ i = .int .i64 k ∧ (∀ (j : Nat) (o : Opr), j < k → ops[j]? = some o → (isName o.name = true ∧ hasStr (opNames (ops.take j)) o.name = false) ∧ DeclsOk s o) ∧ Below W.heap.size W wr) (fun i _ => m - (intOf i).toNat)
  case atStart => exact ⟨0, Nat.zero_le _, rfl, fun j o h => by omega, Below.refl _ _⟩
  case round =>
    obtain ⟨k, hk, rfl, hall, hb⟩ := hrel
    have HALL := Lib.hid hall
    clear hall
    have q0 := keepB hb r0
    have q1 := keepB hb r1
    have q2 := keepB hb r2
    by_cases hkn : k < m
    · obtain ⟨o, ho⟩ : ∃ o, ops[k]? = some o := ⟨_, List.getElem?_eq_getElem (by have := HM.out; omega)⟩
      have HOO := Lib.hid (HOK.out.2 o (List.mem_of_getElem? ho))
      obtain ⟨b, off, vd, rfl, hbz, c0, c1, c2, c3, c4, rd⟩ := Rep.opAt HOK.out.2 (F2W.out.below hb) ho
      have HO := Lib.hid ho
      obtain ⟨name, decls, ac, cm, un⟩ := o
      simp only at c0 c2 c3 c4 rd
      have hrv : RepVals wr S (encOpr ⟨name, decls, ac, cm, un⟩) [.string name, vd, .bool ac, .bool cm, .int .i64 un] := by simp only [encOpr, RepVals, Rep.lit_iff, and_true, true_and]; exact rd
      obtain ⟨Ad, capd, rfl, _, _⟩ := rd.shape
      have HRV := Lib.hid hrv
      clear ho rd hrv
      generalize decls.length = ld at *
      have k0 := cell_regrown q0
      have k1 := cell_regrown q1
      have k2 := cell_regrown q2
      have y0 := cell_regrown c0
      have y1 := cell_regrown c1
      have y2 := cell_regrown c2
      have y3 := cell_regrown c3
      have y4 := cell_regrown c4
      have HNM := Lib.hid (fun w => specIsName name HOO.out.1 w)
      cases hin : isName name
      · have HF : Hid (isSgn ⟨s, ops⟩ = false) := isSgn_false fun h => by have := (h.names k _ HO.out).1; rw [hin] at this; cases this
        rw [hin] at HNM
        clear hin
        have HCn : Hid (∀ d os, Calls Tryz.prog 93 #[.string name] (grow (redrawn wr d) os) fun e w'' => e = .returned (.bool false) ∧ ∃ p : Regrown, w'' = grow (redrawn wr p.d) p.os) := fun d os => Calls.regrown_of ((HNM.out _).mono fun e w' h => ⟨h.1, by rw [← h.2]; exact Below.refl _ _⟩)
        go_wp2_with fail
        (refine wp_region_quiet_below (by kernel_rfl) (by kernel_rfl) ?_
         repeat (first | go_big_quiet_step (first | (go_at_call 93; exact HCn.out _ _)) | quiet_step (first | (go_at_call 93; exact HCn.out _ _)))
         refine wpQuiet_nil ?_
         intro _ hw'
         obtain ⟨⟨dq, osq⟩, hw''⟩ := hw'
         subst hw'')
        go_wp2
        go_ret
        exact ⟨ret_bool HF.out.symm, hbW.trans ((hb.trans ((below_regrown wr dq osq).mono hb.size)).mono hbW.size)⟩
      rw [hin] at HNM
      have HIN := Lib.hid hin
      clear hin
      have HCn : Hid (∀ d os, Calls Tryz.prog 93 #[.string name] (grow (redrawn wr d) os) fun e w'' => e = .returned (.bool true) ∧ ∃ p : Regrown, w'' = grow (redrawn wr p.d) p.os) := fun d os => Calls.regrown_of ((HNM.out _).mono fun e w' h => ⟨h.1, by rw [← h.2]; exact Below.refl _ _⟩)
      have HCd : Hid (∀ d os, Calls Tryz.prog 94 #[.agg #[.slice Ag0 n cg0, .slice Ag1 ls cg1, .slice (some ⟨b, off, none⟩) m cg2], .agg #[.string name, .slice Ad ld capd, .bool ac, .bool cm, .int .i64 un]] (grow (redrawn wr d) os) fun e w'' => e = .returned (.bool (declsOk s ⟨name, decls, ac, cm, un⟩)) ∧ ∃ p : Regrown, w'' = grow (redrawn wr p.d) p.os) := fun d os =>
        Calls.regrown_of (specDecls ⟨s, ops⟩ ⟨name, decls, ac, cm, un⟩ S [.slice Ag0 n cg0, .slice Ag1 ls cg1, .slice (some ⟨b, off, none⟩) m cg2] [.string name, .slice Ad ld capd, .bool ac, .bool cm, .int .i64 un] _ HSO.out HOK.out HOO.out ((HVW.out.below hb).below (below_regrown wr d os)) (HRV.out.below (below_regrown wr d os)))
      cases hde : declsOk s ⟨name, decls, ac, cm, un⟩
      · have HF : Hid (isSgn ⟨s, ops⟩ = false) := isSgn_false fun h => by have := declsOk_true (h.decls _ (List.mem_of_getElem? HO.out)); simp only at this; rw [hde] at this; cases this
        rw [hde] at HCd
        clear hde
        go_wp2_with fail
        (refine wp_region_quiet_below (by kernel_rfl) (by kernel_rfl) ?_
         repeat (first | go_big_quiet_step (first | (go_at_call 93; exact HCn.out _ _) | (go_at_call 94; exact HCd.out _ _)) | quiet_step (first | (go_at_call 93; exact HCn.out _ _) | (go_at_call 94; exact HCd.out _ _)))
         refine wpQuiet_nil ?_
         intro _ hw'
         obtain ⟨⟨dq, osq⟩, hw''⟩ := hw'
         subst hw'')
        go_wp2
        go_ret
        exact ⟨ret_bool HF.out.symm, hbW.trans ((hb.trans ((below_regrown wr dq osq).mono hb.size)).mono hbW.size)⟩
      rw [hde] at HCd
      have HDE := Lib.hid (declsOk_iff.1 hde)
      clear hde
      go_wp2_with fail
      (refine wp_region_quiet_below (by kernel_rfl) (by kernel_rfl) ?_
       repeat (first | go_big_quiet_step (first | (go_at_call 93; exact HCn.out _ _) | (go_at_call 94; exact HCd.out _ _)) | quiet_step (first | (go_at_call 93; exact HCn.out _ _) | (go_at_call 94; exact HCd.out _ _)))
       refine wpQuiet_nil ?_
       intro _ hw'
       obtain ⟨⟨dq, osq⟩, hw''⟩ := hw'
       subst hw'')
      have hb5 : Below W.heap.size W (grow (redrawn wr dq) osq) := hb.trans ((below_regrown wr dq osq).mono hb.size)
      clear k0 k1 k2 y0 y1 y2 y3 y4 q0 q1 q2 c0 c1 c2 c3 c4 HCn HCd HRV hb hbz
      generalize grow (redrawn wr dq) osq = W5 at *
      go_wp2
      obtain ⟨wo, rfl⟩ : ∃ x : World, x = wr := ⟨_, rfl⟩
      go_loopw [4] (fun i wr => ∃ j : Nat, j ≤ k ∧ i = .int .i64 j ∧ hasStr (opNames (ops.take j)) name = false ∧ Below W5.heap.size W5 wr) (fun i _ => k - (intOf i).toNat)
      case atStart => exact ⟨0, Nat.zero_le _, rfl, by simp [opNames, hasStr], Below.refl _ _⟩
      case round =>
        obtain ⟨j, hj, rfl, hno, hbr⟩ := hrel
        have HNO := Lib.hid hno
        clear hno
        have hb6 : Below W.heap.size W wr := hb5.trans (hbr.mono hb5.size)
        by_cases hjk : j < k
        · obtain ⟨p, hp⟩ : ∃ p, ops[j]? = some p := ⟨_, List.getElem?_eq_getElem (by have := HM.out; omega)⟩
          obtain ⟨_, _, _, hA, hbz, d0, _⟩ := Rep.opAt HOK.out.2 (F2W.out.below hb6) hp
          injection hA with hA
          injection hA with hA hA'
          subst hA hA'
          obtain ⟨_, _, _, hA, hbz, c0, _⟩ := Rep.opAt HOK.out.2 (F2W.out.below hb6) HO.out
          injection hA with hA
          injection hA with hA hA'
          subst hA hA'
          simp only at c0
          have q2 := keepB hb6 r2
          have HP := Lib.hid (opNames_snoc hp)
          clear hp
          generalize p.name = pn at *
          cases he : (name.toList == pn.toList)
          · have e1 : (pn.toList == name.toList) = false := by rw [← he]; exact BEq.comm
            have HE := Lib.hid he
            clear he
            go_wp2_with fail
            go_quiet (fail)
            go_wp2
            go_roundw
            case rel => exact ⟨j + 1, by omega, by go_num, by rw [HP.out, hasStr_snoc, HNO.out, HE.out]; rfl, below_drewN hbr _⟩
            case measure => simp [intOf]; omega
          · have e1 : (pn.toList == name.toList) = true := by rw [← he]; exact BEq.comm
            have HF : Hid (isSgn ⟨s, ops⟩ = false) := isSgn_false fun h => by
              have h1 := (h.names k _ HO.out).2
              have h2 : hasStr (opNames (ops.take (j + 1))) name = true := by rw [HP.out, hasStr_snoc, he]; simp
              have h3 : hasStr (opNames (ops.take k)) name = true := by
                unfold hasStr at h2 ⊢
                obtain ⟨t, ht, hte⟩ := List.any_eq_true.1 h2
                refine List.any_eq_true.2 ⟨t, ?_, hte⟩
                obtain ⟨q, hq, rfl⟩ := List.mem_map.1 ht
                refine List.mem_map.2 ⟨q, ?_, rfl⟩
                have : ops.take (j + 1) = (ops.take k).take (j + 1) := by rw [List.take_take]; congr 1; omega
                rw [this] at hq
                exact List.mem_of_mem_take hq
              simp only at h1
              rw [h1] at h3
              cases h3
            clear he
            go_wp2_with fail
            go_quiet (fail)
            go_wp2
            go_ret
            exact ⟨ret_bool HF.out.symm, hbW.trans (below_drewN (hb6.mono hbW.size) _)⟩
        · obtain rfl : k = j := by omega
          go_wp2
          go_roundw
          case rel =>
            refine ⟨k + 1, by omega, by go_num, fun j o hj ho => ?_, hb6⟩
            by_cases hjk' : j = k
            · subst hjk'
              rw [HO.out] at ho
              injection ho with ho
              rw [← ho]
              exact ⟨⟨HIN.out, HNO.out⟩, HDE.out⟩
            · exact HALL.out j o (by omega) ho
          case measure => simp [intOf]; omega
    · obtain rfl : m = k := by omega
      have HDA : Hid (∀ o ∈ ops, DeclsOk s o) := fun o ho => by
        obtain ⟨i, hi⟩ := List.mem_iff_getElem?.1 ho
        exact (HALL.out i o (by have hil : i < ops.length := (List.getElem?_eq_some_iff.1 hi).1; have := HM.out; omega) hi).2
      go_wp2
      clear q0 q1 q2
      have hb4 := hb
      clear hb
      obtain ⟨wo, rfl⟩ : ∃ x : World, x = wr := ⟨_, rfl⟩
      go_loopw [5] (fun i wr => ∃ k : Nat, k ≤ m ∧ i = .int .i64 k ∧ (∀ (j : Nat) (o : Opr), j < k → ops[j]? = some o → AxOk ⟨s, ops⟩ o) ∧ Below W.heap.size W wr) (fun i _ => m - (intOf i).toNat)
      case atStart => exact ⟨0, Nat.zero_le _, rfl, fun j o h => by omega, hb4⟩
      case round =>
        obtain ⟨k, hk, rfl, hall, hb⟩ := hrel
        have HAX := Lib.hid hall
        clear hall
        have q0 := keepB hb r0
        have q1 := keepB hb r1
        have q2 := keepB hb r2
        by_cases hkn' : k < m
        · obtain ⟨o, ho⟩ : ∃ o, ops[k]? = some o := ⟨_, List.getElem?_eq_getElem (by have := HM.out; omega)⟩
          have HO := Lib.hid ho
          have HCA := Lib.hid (fun W h => specAxioms ⟨s, ops⟩ o k S [.slice Ag0 n cg0, .slice Ag1 ls cg1, .slice Ag2 m cg2] W HSO.out HOK.out h ho HDA.out)
          clear ho
          cases hax : axOk ⟨s, ops⟩ o
          · have HF : Hid (isSgn ⟨s, ops⟩ = false) := isSgn_false fun h => by have := axOk_true (h.axs o (List.mem_of_getElem? HO.out)); rw [hax] at this; cases this
            rw [hax] at HCA
            clear hax
            go_wp2_with (go_at_call 95; refine (HCA.out _ ?_).mono ?_; exact HVW.out.below hb; rintro e w3 ⟨rfl, hb3⟩)
            go_ret
            exact ⟨ret_bool HF.out.symm, hbW.trans ((hb.trans (hb3.mono hb.size)).mono hbW.size)⟩
          · have HAO := Lib.hid (axOk_iff.1 hax)
            rw [hax] at HCA
            clear hax
            go_wp2_with (go_at_call 95; refine (HCA.out _ ?_).mono ?_; exact HVW.out.below hb; rintro e w3 ⟨rfl, hb3⟩)
            go_roundw
            case rel =>
              refine ⟨k + 1, by omega, by go_num, fun j p hj hp => ?_, hb.trans (hb3.mono hb.size)⟩
              by_cases hjk : j = k
              · subst hjk
                rw [HO.out] at hp
                injection hp with hp
                rw [← hp]
                exact HAO.out
              · exact HAX.out j p (by omega) hp
            case measure => simp [intOf]; omega
        · obtain rfl : m = k := by omega
          have HF : Hid (isSgn ⟨s, ops⟩ = true) := isSgn_true ⟨HSO.out, by have := HM.out; simp only; omega, fun i o hi => (HALL.out i o (by have hil : i < ops.length := (List.getElem?_eq_some_iff.1 hi).1; have := HM.out; omega) hi).1, HDA.out, fun o ho => by
            obtain ⟨i, hi⟩ := List.mem_iff_getElem?.1 ho
            exact HAX.out i o (by have hil : i < ops.length := (List.getElem?_eq_some_iff.1 hi).1; have := HM.out; omega) hi⟩
          go_wp2
          go_ret
          exact ⟨ret_bool HF.out.symm, hbW.trans (hb.mono hbW.size)⟩
end Go.Proofs.YtpbikjkjfojjiaaGreat

namespace Go.Proofs.YtpbikjkjfojjiaaGreat
open Go.RowKit

mutual
theorem cmpTm_zero : ∀ {a b : Tm}, cmpTm a b = 0 → a = b
  | .mk o n s x, .mk o' n' s' x', h => by
    simp only [cmpTm, firstNZ] at h
    split at h
    · rename_i h1
      split at h
      · rename_i h2
        split at h
        · rename_i h3
          split at h
          · rename_i h4
            rw [cmpInt_zero.1 h1, cmpStr_zero.1 h2, cmpInt_zero.1 h3, cmpTms_zero h4]
          · contradiction
        · contradiction
      · contradiction
    · contradiction
theorem cmpTms_zero : ∀ {a b : List Tm}, cmpTms a b = 0 → a = b
  | [], [], _ => rfl
  | [], _ :: _, h => by simp [cmpTms] at h
  | _ :: _, [], h => by simp [cmpTms] at h
  | x :: xs, y :: ys, h => by
    simp only [cmpTms, firstNZ] at h
    split at h
    · rename_i h1
      split at h
      · rename_i h2
        rw [cmpTm_zero h1, cmpTms_zero h2]
      · contradiction
    · contradiction
end
mutual
theorem cmpTm_self : ∀ (a : Tm), cmpTm a a = 0
  | .mk o n s x => by simp only [cmpTm, firstNZ, cmpInt_zero.2 (rfl : o = o), cmpInt_zero.2 (rfl : s = s), cmpStr_zero.2 (rfl : n = n), cmpTms_self x, if_true]
theorem cmpTms_self : ∀ (a : List Tm), cmpTms a a = 0
  | [] => rfl
  | x :: xs => by simp only [cmpTms, firstNZ, cmpTm_self x, cmpTms_self xs, if_true]
end
theorem cmpTm_iff {a b : Tm} : cmpTm a b = 0 ↔ a = b := ⟨cmpTm_zero, fun h => h ▸ cmpTm_self a⟩
theorem con_sgnOf {f : FuncId} (hb : hasBody e0.P f = true) (h : sgnC f) {g : Sgn} (hg : okSgn g) : Con e0 f [.agg (encSgn g)] [.one (.lit (.bool (isSgn g)))] := by
  refine con_below e0_ok hb fun w S vs hv => ?_
  match vs, hv with
  | [v], hv =>
    obtain ⟨⟨us, rfl, hu⟩, _⟩ := hv
    exact (h g S us w hg hu).mono fun e w' ⟨h1, h2⟩ => ⟨_, h1, h2, by simp [retA, ARel, DRel, Rep]⟩
theorem con_implSgn {g : Sgn} (hg : okSgn g) : Con e0 105 [.agg (encSgn g)] [.one (.lit (.bool (isSgn g)))] := con_sgnOf (by kernel_rfl) implIsSignature hg
theorem con_specSgn {g : Sgn} (hg : okSgn g) : Con e0 44 [.agg (encSgn g)] [.one (.lit (.bool (isSgn g)))] := con_sgnOf (by kernel_rfl) specIsSignature hg
theorem con_newOrder {s : Srt} (hok : okSrt s) (hs : SortsOk s) : Con e0 106 [.agg (encSrt s)] [.agg [.sl ((casts (up s)).map encInt), .sl ((casts (down s)).map encInt), .sl ((casts (kinds s)).map encInt)], .one (.lit (.bool true))] := by
  refine con_below e0_ok (by kernel_rfl) fun w S vs hv => ?_
  match vs, hv with
  | [v], hv =>
    obtain ⟨⟨us, rfl, hu⟩, _⟩ := hv
    refine (implNewOrder_ok s S us w hok hu hs).mono fun e w' ⟨va, vb, vk, h1, h2, h3, h4, h5⟩ => ⟨_, h1, h5, ?_⟩
    refine ⟨[.agg #[va, vb, vk], .bool true], rfl, ⟨[va, vb, vk], rfl, ?_⟩, by simp [DRel, Rep], trivial⟩
    simp only [RepVals, and_true]
    exact ⟨h2.repIn S, h3.repIn S, h4.repIn S⟩
section
variable {g : Sgn}
set_option maxHeartbeats 4000000 in
set_option maxRecDepth 100000 in
theorem con_newAlg_not (hok : okSgn g) (hg : ¬ SgnOk g) : Con e0 51 [.agg (encSgn g)] [.one (.lit (.pointer none)), .one (.lit (.bool false))] := by
  have hs : isSgn g = false := isSgn_false hg
  have c := con_implSgn hok
  rw [hs, encSgn] at c
  refine gI 287 Tryz.func51 ?_
  (have F := @encSgn_u; refine gG ?_; clear F)
  refine gB ?_
  (have F := @encSgn_u; refine gC (c) ?_; clear F)
  (have F := @encSgn_u; refine gR ?_; clear F)
  (have F := @encSgn_u; refine gG ?_; exact gT)
def algR (g : Sgn) (r : List D) : Prop := ∃ b : Nat, r = [.one (.ptr (encX g (.lit (.map (some b))))), .one (.lit (.bool true))]
set_option maxHeartbeats 4000000 in
set_option maxRecDepth 100000 in
theorem conE_newAlg (hok : okSgn g) (hg : SgnOk g) : ConE e0 51 [.agg (encSgn g)] (algR g) := by
  have hs : isSgn g = true := isSgn_true hg
  have c := con_implSgn hok
  rw [hs, encSgn] at c
  have c2 := con_newOrder hok.1 hg.sorts
  rw [encSrt] at c2
  refine gIE 287 Tryz.func51 ?_
  (have F := @encSgn_u; refine gG ?_; clear F)
  refine gB ?_
  (have F := @encSgn_u; refine gC (c) ?_; clear F)
  (have F := @encSgn_u; refine gR ?_; clear F)
  (have F := @encSgn_u; refine gG ?_; clear F)
  refine gB ?_
  (have F := @encSgn_u; refine gC (c2) ?_; clear F)
  (have F := @encSgn_u; refine gR ?_; clear F)
  (have F := @encSgn_u; refine gG ?_; clear F)
  refine gB ?_
  refine runs_map (by simp only [pz, ↓reduceIte, Nat.reduceEqDiff, Nat.reduceAdd, Nat.reduceSub, Nat.reduceMul, Nat.reduceLeDiff, Nat.reduceBEq, Bool.false_eq_true, decide_true, decide_false, Int.reduceLE, Int.reduceToNat, Int.reduceLT, Int.reduceEq, eq_self, Nat.reduceShiftRight, Nat.reduceAnd, Nat.reduceBneDiff, R_makeMap]; exact rfl) fun b => ?_
  (have F := @sa_some; refine gR ?_; clear F)
  refine pwp_ret (ret_E [19] _ ⟨b, rfl⟩ (by simp only [pz, ↓reduceIte, Nat.reduceEqDiff, Nat.reduceAdd, Nat.reduceSub, Nat.reduceMul, Nat.reduceLeDiff, Nat.reduceBEq, Bool.false_eq_true, decide_true, decide_false, Int.reduceLE, Int.reduceToNat, Int.reduceLT, Int.reduceEq, eq_self, Nat.reduceShiftRight, Nat.reduceAnd, Nat.reduceBneDiff]; exact rfl) ?_)
  simp [resOk, resA, resSlots, gs, encX]
set_option maxHeartbeats 4000000 in
set_option maxRecDepth 100000 in
theorem con_l1In (x lo hi : Int) : Con e0 64 [.one (.lit (.int .i64 x)), .one (.lit (.int .i64 lo)), .one (.lit (.int .i64 hi))] [.one (.lit (.bool (decide (lo ≤ x ∧ x ≤ hi))))] := by
  refine gI 71 Tryz.func64 ?_
  by_cases h1 : lo ≤ x
  · by_cases h2 : x ≤ hi
    · (have F := And.intro @h1 @h2; refine gG ?_; exact gT)
    · (have F := And.intro @h1 @h2; refine gG ?_; exact gT)
  · (have F := @h1; refine gG ?_; exact gT)
set_option maxHeartbeats 4000000 in
set_option maxRecDepth 100000 in
theorem con_l4Arity {o : Opr} {d : Dcl} (hd : o.decls[0]? = some d) : Con e0 115 [.agg (encOpr o)] [.one (.lit (.int .i64 d.args.length))] := by
  refine gI 7 Tryz.func115 ?_
  (have F := And.intro @encOpr_u (And.intro @hd @encDcl_u); refine gG ?_; exact gT)
set_option maxHeartbeats 4000000 in
set_option maxRecDepth 100000 in
theorem con_l5Same {a b : Tm} (ha : okTm a) (hb : okTm b) : Con e0 100 [.agg (encTm a), .agg (encTm b)] [.one (.lit (.bool (decide (cmpTm a b = 0))))] := by
  refine gI 31 Tryz.func100 ?_
  (have F := @tmz; refine gG ?_; clear F)
  refine gB ?_
  (have F := @tmz; refine gC (con_specCmp ha hb) ?_; clear F)
  (have F := @tmz; refine gR ?_; clear F)
  (have F := @tmz; refine gG ?_; exact gT)
set_option maxHeartbeats 4000000 in
set_option maxRecDepth 100000 in
theorem con_l6Kind (hok : okSgn g) (hg : SgnOk g) {t : Tm} (ht : NodeOk g t) : Con e0 98 [.agg (encSgn g), .agg (encTm t)] [.one (.lit (.int .i64 (kindTm g t)))] := by
  have c2 := con_l3Kinds hok.1 hg.sorts
  rw [encSrt] at c2
  refine gI 2111 Tryz.func98 ?_
  (have F := And.intro @tmz @encSgn_u; refine gG ?_; clear F)
  refine gB ?_
  (have F := @encSgn_u; refine gC (c2) ?_; clear F)
  (have F := @encSgn_u; refine gR ?_; clear F)
  rcases ht with ⟨h1, h2, h3, h4, h5⟩ | ⟨o, d, h⟩
  · have hk := kd_get hg.sorts h3 h4
    have e : kindTm g t = kd g.sorts t.sort := by simp [kindTm, h1]
    (have F := And.intro @tmz (And.intro @h1 (And.intro @h3 (And.intro @hk (And.intro @encInt_u @e)))); refine gG ?_; exact gT)
  · have hn := h.op
    obtain ⟨d', hd', hr0, hr1, _⟩ := hg.first h.at'
    rw [h.fst] at hd'
    injection hd' with hd'
    subst hd'
    have hk := kd_get hg.sorts hr0 hr1
    have e : kindTm g t = kd g.sorts d.res := by simp [kindTm, h.op, resOf_eq h.at' h.fst]
    have hlo := h.lo
    have hat := h.at'
    have hfst := h.fst
    (have F := And.intro @tmz (And.intro @hn (And.intro @hlo (And.intro @hat (And.intro @encOpr_u (And.intro @hfst (And.intro @encDcl_u (And.intro @hr0 (And.intro @hk (And.intro @encInt_u @e))))))))); refine gG ?_; exact gT)
def unitTm (o : Opr) : Tm := .mk (if o.unit = 0 then 0 else o.unit - 1) .empty 0 []
set_option maxHeartbeats 4000000 in
set_option maxRecDepth 100000 in
theorem con_l6Unit (hg : SgnOk g) {op : Int} {o : Opr} (h0 : 0 ≤ op) (ho : g.ops[op.toNat]? = some o) : Con e0 165 [.agg (encSgn g), .one (.lit (.int .i64 op))] [.agg (encTm (unitTm o)), .one (.lit (.bool (!decide (o.unit = 0))))] := by
  have hax := hg.axs o (List.mem_of_getElem? ho)
  have hlo := hax.lo
  have hhi := hax.hi
  have hln := hg.len
  have hw : IntKind.i64.wrap (o.unit - 1) = o.unit - 1 := wrapN rfl (by omega) (by omega)
  refine gI 4151 Tryz.func165 ?_
  by_cases hu : o.unit = 0
  · (have F := And.intro @encSgn_u (And.intro @h0 (And.intro @ho (And.intro @encOpr_u @hu))); refine gG ?_; clear F)
    refine pwp_ret (ret_ok ?_)
    simp [resOk, resA, resSlots, gs, hu, unitTm, encTm, encTms, gm, ptrA, varA, e0P, pz, tt_0, tt_1]
  · (have F := And.intro @encSgn_u (And.intro @h0 (And.intro @ho (And.intro @encOpr_u (And.intro @hu @hw)))); refine gG ?_; clear F)
    refine pwp_ret (ret_ok ?_)
    simp [resOk, resA, resSlots, gs, hu, unitTm, encTm, encTms, gm, ptrA, varA, e0P, pz]
end
end Go.Proofs.YtpbikjkjfojjiaaGreat

namespace Go.Proofs.YtpbikjkjfojjiaaGreat
open Go.RowKit

/-- How x, y, z stand to one another, by what comparing x with y, y with z, x with z gives. -/
def Tri (a b c : Int) : Prop := ((a ≤ 0 → b ≤ 0 → c ≤ 0) ∧ (a < 0 → b ≤ 0 → c < 0) ∧ (a ≤ 0 → b < 0 → c < 0)) ∧ ((0 ≤ a → 0 ≤ b → 0 ≤ c) ∧ (0 < a → 0 ≤ b → 0 < c) ∧ (0 ≤ a → 0 < b → 0 < c))
theorem first2 (p q : Int) : firstNZ [p, q] = if p = 0 then q else p := by
  simp only [firstNZ]
  split
  · split <;> simp_all
  · rfl
theorem first4 (p q r s : Int) : firstNZ [p, q, r, s] = firstNZ [p, firstNZ [q, firstNZ [r, s]]] := by
  simp only [first2, firstNZ]
  by_cases h1 : p = 0 <;> by_cases h2 : q = 0 <;> by_cases h3 : r = 0 <;> by_cases h4 : s = 0 <;> simp [h1, h2, h3, h4]
theorem Tri.lex {a b c a' b' c' : Int} (h : Tri a b c) (h' : Tri a' b' c') : Tri (firstNZ [a, a']) (firstNZ [b, b']) (firstNZ [c, c']) := by
  simp only [first2]
  unfold Tri at *
  by_cases h1 : a = 0
  · by_cases h2 : b = 0
    · by_cases h3 : c = 0
      · simp only [h1, h2, h3, if_true]; exact h'
      · omega
    · by_cases h3 : c = 0
      · omega
      · simp only [h1, h2, h3, if_true, if_false]; omega
  · by_cases h2 : b = 0
    · by_cases h3 : c = 0
      · omega
      · simp only [h1, h2, h3, if_true, if_false]; omega
    · by_cases h3 : c = 0
      · simp only [h1, h2, h3, if_true, if_false]; omega
      · simp only [h1, h2, h3, if_false]; omega
theorem firstNZ_neg (p q : Int) : firstNZ [-p, -q] = -firstNZ [p, q] := by
  simp only [first2]
  by_cases h : p = 0
  · simp [h]
  · have : ¬ -p = 0 := by omega
    simp [h, this]
theorem cmpInt_tri (a b c : Int) : Tri (cmpInt a b) (cmpInt b c) (cmpInt a c) := by
  unfold Tri cmpInt
  by_cases h1 : a < b <;> by_cases h2 : b < c <;> by_cases h3 : a < c <;> by_cases h4 : b < a <;> by_cases h5 : c < b <;> by_cases h6 : c < a <;> simp only [h1, h2, h3, h4, h5, h6, if_true, if_false] <;> omega
theorem cmpInt_neg (a b : Int) : cmpInt b a = -cmpInt a b := by
  unfold cmpInt
  by_cases h1 : a < b <;> by_cases h2 : b < a <;> simp only [h1, h2, if_true, if_false] <;> omega
theorem bytes_first (x y : UInt8) (xs ys : List UInt8) : Lib.compareBytes (x :: xs) (y :: ys) = firstNZ [cmpInt x.toNat y.toNat, Lib.compareBytes xs ys] := by
  rw [first2]
  simp only [Lib.compareBytes, cmpInt, UInt8.lt_iff_toNat_lt]
  by_cases h1 : x.toNat < y.toNat
  · have : ((x.toNat : Int) < y.toNat) := by omega
    simp [h1, this]
  · have h1' : ¬ ((x.toNat : Int) < y.toNat) := by omega
    by_cases h2 : y.toNat < x.toNat
    · have : ((y.toNat : Int) < x.toNat) := by omega
      simp [h1, h2, h1', this]
    · have : ¬ ((y.toNat : Int) < x.toNat) := by omega
      simp [h1, h2, h1', this]
theorem bytes_tri : ∀ (a b c : List UInt8), Tri (Lib.compareBytes a b) (Lib.compareBytes b c) (Lib.compareBytes a c)
  | [], [], [] => by simp [Lib.compareBytes, Tri]
  | [], [], _ :: _ => by simp [Lib.compareBytes, Tri]
  | [], _ :: _, [] => by simp [Lib.compareBytes, Tri]
  | [], y :: ys, z :: zs => by
    have : Lib.compareBytes [] (y :: ys) = -1 := rfl
    have h2 : Lib.compareBytes [] (z :: zs) = -1 := rfl
    rw [this, h2]; unfold Tri; omega
  | _ :: _, [], [] => by simp [Lib.compareBytes, Tri]
  | x :: xs, [], z :: zs => by
    have : Lib.compareBytes (x :: xs) [] = 1 := rfl
    have h2 : Lib.compareBytes [] (z :: zs) = -1 := rfl
    rw [this, h2]; unfold Tri; omega
  | x :: xs, y :: ys, [] => by
    have : Lib.compareBytes (x :: xs) [] = 1 := rfl
    have h2 : Lib.compareBytes (y :: ys) [] = 1 := rfl
    rw [this, h2]; unfold Tri; omega
  | x :: xs, y :: ys, z :: zs => by
    simp only [bytes_first]
    exact (cmpInt_tri _ _ _).lex (bytes_tri xs ys zs)
theorem bytes_neg : ∀ (a b : List UInt8), Lib.compareBytes b a = -Lib.compareBytes a b
  | [], [] => rfl
  | [], _ :: _ => rfl
  | _ :: _, [] => rfl
  | x :: xs, y :: ys => by rw [bytes_first, bytes_first, cmpInt_neg, bytes_neg xs ys, firstNZ_neg]
mutual
theorem cmpTm_neg : ∀ (a b : Tm), cmpTm b a = -cmpTm a b
  | .mk o n s a, .mk o' n' s' a' => by
    simp only [cmpTm, first4]
    rw [cmpInt_neg o o', cmpInt_neg s s', cmpTms_neg a a', show cmpStr n' n = -cmpStr n n' from bytes_neg _ _, firstNZ_neg, firstNZ_neg, firstNZ_neg]
theorem cmpTms_neg : ∀ (a b : List Tm), cmpTms b a = -cmpTms a b
  | [], [] => by simp [cmpTms]
  | [], _ :: _ => by simp [cmpTms]
  | _ :: _, [] => by simp [cmpTms]
  | x :: xs, y :: ys => by
    simp only [cmpTms]
    rw [cmpTm_neg x y, cmpTms_neg xs ys, firstNZ_neg]
end
mutual
theorem cmpTm_tri : ∀ (a b c : Tm), Tri (cmpTm a b) (cmpTm b c) (cmpTm a c)
  | .mk o n s a, .mk o' n' s' a', .mk o'' n'' s'' a'' => by
    simp only [cmpTm, first4]
    exact (cmpInt_tri _ _ _).lex ((bytes_tri _ _ _).lex ((cmpInt_tri _ _ _).lex (cmpTms_tri a a' a'')))
theorem cmpTms_tri : ∀ (a b c : List Tm), Tri (cmpTms a b) (cmpTms b c) (cmpTms a c)
  | [], [], [] => by simp [cmpTms, Tri]
  | [], [], _ :: _ => by simp [cmpTms, Tri]
  | [], _ :: _, [] => by simp [cmpTms, Tri]
  | [], _ :: _, _ :: _ => by simp only [cmpTms]; unfold Tri; omega
  | _ :: _, [], [] => by simp [cmpTms, Tri]
  | _ :: _, [], _ :: _ => by simp only [cmpTms]; unfold Tri; omega
  | _ :: _, _ :: _, [] => by simp only [cmpTms]; unfold Tri; omega
  | x :: xs, y :: ys, z :: zs => by
    simp only [cmpTms]
    exact (cmpTm_tri x y z).lex (cmpTms_tri xs ys zs)
end
theorem cmpTm_lt_trans {a b c : Tm} (h1 : cmpTm a b < 0) (h2 : cmpTm b c < 0) : cmpTm a c < 0 := (cmpTm_tri a b c).1.2.1 h1 (by omega)
theorem cmpTm_le_trans {a b c : Tm} (h1 : cmpTm a b ≤ 0) (h2 : cmpTm b c ≤ 0) : cmpTm a c ≤ 0 := (cmpTm_tri a b c).1.1 h1 h2
/-- Different terms in ascending order. -/
def Asc (l : List Tm) : Prop := l.Pairwise fun a b => cmpTm a b < 0
theorem Asc.ext {l l' : List Tm} (h : Asc l) (h' : Asc l') (hm : ∀ t, t ∈ l ↔ t ∈ l') : l = l' := by
  induction l generalizing l' with
  | nil =>
    cases l' with
    | nil => rfl
    | cons y ys => exact absurd ((hm y).2 (by simp)) (by simp)
  | cons x xs ih =>
    cases l' with
    | nil => exact absurd ((hm x).1 (by simp)) (by simp)
    | cons y ys =>
      have h1 := List.pairwise_cons.1 h
      have h2 := List.pairwise_cons.1 h'
      have e : x = y := by
        rcases List.mem_cons.1 ((hm x).1 (by simp)) with e | hx
        · exact e
        · rcases List.mem_cons.1 ((hm y).2 (by simp)) with e | hy
          · exact e.symm
          · have a1 := h1.1 y hy
            have a2 := h2.1 x hx
            rw [cmpTm_neg x y] at a2
            omega
      subst e
      refine congrArg (x :: ·) (ih h1.2 h2.2 fun t => ⟨fun ht => ?_, fun ht => ?_⟩)
      · rcases List.mem_cons.1 ((hm t).1 (List.mem_cons_of_mem _ ht)) with e | h3
        · subst e; have := h1.1 t ht; rw [cmpTm_self] at this; omega
        · exact h3
      · rcases List.mem_cons.1 ((hm t).2 (List.mem_cons_of_mem _ ht)) with e | h3
        · subst e; have := h2.1 t ht; rw [cmpTm_self] at this; omega
        · exact h3
/-- A term put into an ascending list. -/
def insTm (t : Tm) : List Tm → List Tm
  | [] => [t]
  | x :: xs => if cmpTm x t < 0 then x :: insTm t xs else if cmpTm x t = 0 then x :: xs else t :: x :: xs
theorem mem_insTm {t u : Tm} : ∀ {l : List Tm}, u ∈ insTm t l ↔ u = t ∨ u ∈ l
  | [] => by simp [insTm]
  | x :: xs => by
    simp only [insTm]
    split
    · simp only [List.mem_cons, mem_insTm (l := xs)]
      constructor
      · rintro (h | h | h) <;> simp [h]
      · rintro (h | h | h) <;> simp [h]
    · split
      · rename_i h0
        have e := cmpTm_zero h0
        simp only [List.mem_cons]
        constructor
        · exact fun h => .inr h
        · rintro (h | h)
          · exact .inl (by rw [h, e])
          · exact h
      · simp only [List.mem_cons]
theorem Asc.ins {t : Tm} : ∀ {l : List Tm}, Asc l → Asc (insTm t l)
  | [], _ => by simp [insTm, Asc]
  | x :: xs, h => by
    have h1 := List.pairwise_cons.1 h
    simp only [insTm]
    split
    · rename_i hx
      refine List.pairwise_cons.2 ⟨fun u hu => ?_, Asc.ins h1.2⟩
      rcases mem_insTm.1 hu with e | hu
      · rw [e]; exact hx
      · exact h1.1 u hu
    · split
      · exact h
      · rename_i h2 h3
        have h4 : cmpTm t x < 0 := by rw [cmpTm_neg x t]; omega
        refine List.pairwise_cons.2 ⟨fun u hu => ?_, h⟩
        rcases List.mem_cons.1 hu with e | hu
        · rw [e]; exact h4
        · exact cmpTm_lt_trans h4 (h1.1 u hu)
/-- The different terms of a list, ascending. -/
def distTm (l : List Tm) : List Tm := l.foldl (fun r t => insTm t r) []
theorem foldl_ins {l r : List Tm} (h : Asc r) : Asc (l.foldl (fun r t => insTm t r) r) ∧ ∀ u, u ∈ l.foldl (fun r t => insTm t r) r ↔ u ∈ l ∨ u ∈ r := by
  induction l generalizing r with
  | nil => exact ⟨h, fun u => by simp⟩
  | cons x xs ih =>
    have := ih (r := insTm x r) h.ins
    refine ⟨this.1, fun u => ?_⟩
    rw [List.foldl_cons, this.2, mem_insTm, List.mem_cons]
    constructor
    · rintro (h | h | h)
      · exact .inl (.inr h)
      · exact .inl (.inl h)
      · exact .inr h
    · rintro ((h | h) | h)
      · exact .inr (.inl h)
      · exact .inl h
      · exact .inr (.inr h)
theorem distTm_asc (l : List Tm) : Asc (distTm l) := (foldl_ins List.Pairwise.nil).1
theorem mem_distTm {l : List Tm} {u : Tm} : u ∈ distTm l ↔ u ∈ l := by
  have := (foldl_ins (l := l) (r := []) List.Pairwise.nil).2 u
  simpa [distTm] using this
theorem distTm_eq {l l' : List Tm} (h : Asc l') (hm : ∀ t, t ∈ l' ↔ t ∈ l) : distTm l = l' := (distTm_asc l).ext h fun t => mem_distTm.trans (hm t).symm
/-- A list of terms that ascends, some of them equal, without what is equal to the one before it. -/
def compTm : List Tm → List Tm
  | [] => []
  | [x] => [x]
  | x :: y :: r => if cmpTm x y = 0 then compTm (x :: r) else x :: compTm (y :: r)
/-! The variables of a term, from left to right. -/
mutual
def varsTm : Tm → List Tm
  | .mk op nm so args => if op = -1 then [.mk (-1) nm so []] else varsTms args
def varsTms : List Tm → List Tm
  | [] => []
  | t :: ts => varsTm t ++ varsTms ts
end
def varsOf (t : Tm) : List Tm := distTm (varsTm t)
end Go.Proofs.YtpbikjkjfojjiaaGreat

namespace Go.Proofs.YtpbikjkjfojjiaaGreat
open Go.RowKit

def valV : List Tm → List Int → Tm → Int
  | v :: vs, x :: xs, t => if cmpTm v t = 0 then x else valV vs xs t
  | _, _, _ => 0
def isAs (g : Sgn) (op : Int) : Bool := (g.ops[op.toNat]?.map (·.assoc)).getD false
def accV (ac : Bool) (z : Int) (l ws : List Int) : Nat → Int
  | 0 => 0
  | i + 1 => if ac = true ∧ 0 < i then l.getD (accV ac z l ws i * z + ws.getD i 0).toNat 0 else accV ac z l ws i * z + ws.getD i 0
theorem accV_0 (ac : Bool) (z : Int) (l ws : List Int) : accV ac z l ws 0 = 0 := rfl
def opV (ac : Bool) (z : Int) (l ws : List Int) : Int := if ac = true then accV true z l ws ws.length else l.getD (accV false z l ws ws.length).toNat 0
mutual
def valTm (g : Sgn) (a : Alg) (vs : List Tm) (xs : List Int) : Tm → Int
  | .mk op nm so args => if op < 0 then valV vs xs (.mk op nm so args) else opV (isAs g op) a.size (a.tables.getD op.toNat []) (valTms g a vs xs args)
def valTms (g : Sgn) (a : Alg) (vs : List Tm) (xs : List Int) : List Tm → List Int
  | [] => []
  | t :: ts => valTm g a vs xs t :: valTms g a vs xs ts
end
theorem valTms_eq (g : Sgn) (a : Alg) (vs : List Tm) (xs : List Int) : ∀ ts : List Tm, valTms g a vs xs ts = ts.map (valTm g a vs xs)
  | [] => rfl
  | t :: ts => by rw [valTms, valTms_eq g a vs xs ts, List.map_cons]
theorem valTms_len {g : Sgn} {a : Alg} {vs : List Tm} {xs : List Int} (ts : List Tm) : (valTms g a vs xs ts).length = ts.length := by rw [valTms_eq, List.length_map]
/-- A table that serves an operation of n arguments. -/
structure TabN (z : Int) (n : Nat) (ac : Bool) (l : List Int) : Prop where
  lo : 1 ≤ z
  hi : z ≤ 4
  len : l.length = z.toNat ^ n
  all : ∀ x ∈ l, 0 ≤ x ∧ x < z
  le3 : n ≤ 3
  as2 : ac = true → n = 2
def In0 (z x : Int) : Prop := 0 ≤ x ∧ x < z
theorem pow_int {z : Int} (h : 1 ≤ z) (n : Nat) : ((z.toNat ^ n : Nat) : Int) = z ^ n := by
  rw [Int.natCast_pow, Int.toNat_of_nonneg (by omega)]
theorem mul_add_lt {r z w p : Int} (h0 : 0 ≤ r) (h1 : r < p) (hz : 1 ≤ z) (hw : 0 ≤ w ∧ w < z) : 0 ≤ r * z ∧ 0 ≤ r * z + w ∧ r * z + w < p * z := by
  have m0 : 0 ≤ r * z := Int.mul_nonneg h0 (by omega)
  have m1 : (r + 1) * z ≤ p * z := Int.mul_le_mul_of_nonneg_right (by omega) (by omega)
  rw [Int.add_mul] at m1
  omega
theorem TabN.get {z : Int} {n : Nat} {ac : Bool} {l : List Int} (h : TabN z n ac l) {k : Int} (h0 : 0 ≤ k) (h1 : k < z ^ n) : l[k.toNat]? = some (l.getD k.toNat 0) ∧ In0 z (l.getD k.toNat 0) := by
  have hl : k.toNat < l.length := by
    have := pow_int h.lo n
    have e := h.len
    omega
  rw [List.getD_eq_getElem?_getD, List.getElem?_eq_getElem hl]
  exact ⟨rfl, h.all _ (List.getElem_mem hl)⟩
theorem accF_in {z : Int} {l ws : List Int} (hz : 1 ≤ z) (hw : ∀ x ∈ ws, In0 z x) : ∀ i : Nat, i ≤ ws.length → 0 ≤ accV false z l ws i ∧ accV false z l ws i < z ^ i
  | 0, _ => by simp [accV]
  | i + 1, h => by
    obtain ⟨h0, h1⟩ := accF_in (l := l) hz hw i (by omega)
    have hwi : In0 z (ws.getD i 0) := by
      rw [List.getD_eq_getElem?_getD, List.getElem?_eq_getElem (by omega)]
      exact hw _ (List.getElem_mem _)
    have hm := mul_add_lt h0 h1 hz hwi
    simp only [accV, Bool.false_eq_true, false_and, if_false, Int.pow_succ]
    exact ⟨hm.2.1, hm.2.2⟩
theorem accT_in {z : Int} {l ws : List Int} (hT : TabN z 2 true l) (hw : ∀ x ∈ ws, In0 z x) : ∀ i : Nat, i ≤ ws.length → In0 z (accV true z l ws i)
  | 0, _ => by have := hT.lo; simp only [accV, In0]; omega
  | i + 1, h => by
    have ih := accT_in hT hw i (by omega)
    have hwi : In0 z (ws.getD i 0) := by
      rw [List.getD_eq_getElem?_getD, List.getElem?_eq_getElem (by omega)]
      exact hw _ (List.getElem_mem _)
    have hm := mul_add_lt ih.1 ih.2 hT.lo hwi
    simp only [accV]
    split
    · exact (hT.get hm.2.1 (by rw [Int.pow_succ, Int.pow_succ, Int.pow_zero, Int.one_mul]; exact hm.2.2)).2
    · rename_i hi
      simp only [true_and, Nat.not_lt, Nat.le_zero] at hi
      subst hi
      simp only [accV, Int.zero_mul, Int.zero_add]
      exact hwi
theorem pow_le {z : Int} (h0 : 1 ≤ z) (h1 : z ≤ 4) {n : Nat} (hn : n ≤ 3) : z ^ n ≤ 64 := by
  have h := pow_int h0 n
  have h2 : z.toNat ^ n ≤ 64 := pow_le64 (by omega) hn
  omega
/-- One round of the program's loop over the arguments. -/
theorem acc_step {z : Int} {n : Nat} {ac : Bool} {l ws : List Int} (hT : TabN z n ac l) (hw : ∀ x ∈ ws, In0 z x) (hn : ac = false → ws.length = n) {i : Nat} {w : Int} (hi : ws[i]? = some w) :
    IntKind.i64.wrap (accV ac z l ws i * z) = accV ac z l ws i * z ∧ IntKind.i64.wrap (accV ac z l ws i * z + w) = accV ac z l ws i * z + w ∧ 0 ≤ accV ac z l ws i * z + w ∧
    (ac = true → 0 < i → l[(accV ac z l ws i * z + w).toNat]? = some (accV ac z l ws (i + 1))) ∧ (ac = false ∨ i = 0 → accV ac z l ws (i + 1) = accV ac z l ws i * z + w) := by
  have hil := (List.getElem?_eq_some_iff.1 hi).1
  have hwi := hw w (List.mem_of_getElem? hi)
  have hg : ws.getD i 0 = w := by rw [List.getD_eq_getElem?_getD, hi]; rfl
  have hlo := hT.lo
  have hhi := hT.hi
  cases ac with
  | false =>
    obtain ⟨h0, h1⟩ := accF_in (l := l) hlo hw i (by omega)
    have hm := mul_add_lt h0 h1 hlo hwi
    have hp := pow_le hlo hhi (n := i + 1) (by have := hn rfl; have := hT.le3; omega)
    rw [Int.pow_succ] at hp
    have hr : accV false z l ws i * z ≤ accV false z l ws i * z + w := by have := hwi.1; omega
    refine ⟨IntWalk.i64_in _ (by omega), IntWalk.i64_in _ (by omega), hm.2.1, fun h => absurd h (by decide), fun _ => ?_⟩
    simp only [accV, Bool.false_eq_true, false_and, if_false, hg]
  | true =>
    have h2 := hT.as2 rfl
    subst h2
    have ih := accT_in hT hw i (by omega)
    have hm := mul_add_lt ih.1 ih.2 hlo hwi
    have hp := pow_le hlo hhi (n := 2) (by omega)
    rw [Int.pow_succ, Int.pow_succ, Int.pow_zero, Int.one_mul] at hp
    have hr : accV true z l ws i * z ≤ accV true z l ws i * z + w := by have := hwi.1; omega
    refine ⟨IntWalk.i64_in _ (by omega), IntWalk.i64_in _ (by omega), hm.2.1, fun _ h => ?_, fun h => ?_⟩
    · have hgt := (hT.get hm.2.1 (by rw [Int.pow_succ, Int.pow_succ, Int.pow_zero, Int.one_mul]; exact hm.2.2)).1
      rw [hgt]
      simp only [accV, hg, h, and_self, if_true]
    · rcases h with h | h
      · cases h
      · subst h
        simp only [accV, hg]
        simp
theorem opV_in {z : Int} {n : Nat} {ac : Bool} {l ws : List Int} (hT : TabN z n ac l) (hw : ∀ x ∈ ws, In0 z x) (hn : ac = false → ws.length = n) : In0 z (opV ac z l ws) := by
  cases ac with
  | false =>
    have h := accF_in (l := l) hT.lo hw ws.length (Nat.le_refl _)
    rw [hn rfl] at h
    have := (hT.get h.1 h.2).2
    simp only [opV, Bool.false_eq_true, if_false, hn rfl]
    exact this
  | true =>
    have h2 := hT.as2 rfl
    subst h2
    simp only [opV, if_true]
    exact accT_in hT hw ws.length (Nat.le_refl _)
theorem tab_of {g : Sgn} {a : Alg} (hA : AlgOk g a) {t : Tm} {o : Opr} {d : Dcl} (hap : AppOk g t o d) : ∃ l, a.tables[t.op.toNat]? = some l ∧ TabN a.size d.args.length o.assoc l ∧ isAs g t.op = o.assoc := by
  have hat := hap.at'
  have hil := (List.getElem?_eq_some_iff.1 hat).1
  have hm := List.mem_of_getElem? hat
  have hlt : t.op.toNat < a.tables.length := by rw [hA.len]; exact hil
  refine ⟨a.tables[t.op.toNat], List.getElem?_eq_getElem hlt, ?_, by simp [isAs, hat]⟩
  have h := hA.tab _ o d _ hat hap.fst (List.getElem?_eq_getElem hlt)
  exact ⟨hA.lo, hA.hi, h.len, h.all, (hA.sgn.decls o hm).ar d hap.fst, fun h => ((hA.sgn.axs o hm).two (.inl h) d hap.fst).1⟩
structure ValOk (a : Alg) (vs : List Tm) (xs : List Int) : Prop where
  len : xs.length = vs.length
  all : ∀ x ∈ xs, In0 a.size x
theorem valV_get : ∀ {vs : List Tm} {xs : List Int} {t : Tm} {i : Nat} {v : Tm} {x : Int}, vs[i]? = some v → xs[i]? = some x → cmpTm v t = 0 → (∀ j u, j < i → vs[j]? = some u → cmpTm u t ≠ 0) → valV vs xs t = x
  | [], _, _, i, _, _, h, _, _, _ => by simp at h
  | _ :: _, [], _, i, _, _, _, h, _, _ => by simp at h
  | w :: vs, y :: xs, t, 0, v, x, h1, h2, h3, _ => by
    simp at h1 h2
    subst h1 h2
    simp [valV, h3]
  | w :: vs, y :: xs, t, i + 1, v, x, h1, h2, h3, h4 => by
    have h0 := h4 0 w (by omega) rfl
    rw [valV, if_neg h0]
    exact valV_get (by simpa using h1) (by simpa using h2) h3 fun j u hj hu => h4 (j + 1) u (by omega) (by simpa using hu)
theorem valV_in {z : Int} : ∀ {vs : List Tm} {xs : List Int} {t : Tm}, xs.length = vs.length → (∀ x ∈ xs, In0 z x) → t ∈ vs → In0 z (valV vs xs t)
  | [], _, _, _, _, h => by simp at h
  | v :: vs, [], _, h, _, _ => by simp at h
  | v :: vs, x :: xs, t, hl, hx, h => by
    rw [valV]
    split
    · exact hx x (by simp)
    · rename_i hne
      rcases List.mem_cons.1 h with rfl | h
      · exact absurd (cmpTm_self _) hne
      · exact valV_in (by simpa using hl) (fun y hy => hx y (by simp [hy])) h
theorem op_cases {g : Sgn} {t : Tm} (h : NodeOk g t) : (VarOk g t ∧ t.op < 0) ∨ (0 ≤ t.op ∧ ∃ o d, AppOk g t o d) := by
  rcases h with h | ⟨o, d, h⟩
  · exact .inl ⟨h, by have := h.1; omega⟩
  · exact .inr ⟨h.lo, o, d, h⟩
mutual
theorem valTm_in {g : Sgn} {a : Alg} {vs : List Tm} {xs : List Int} (hA : AlgOk g a) (hv : ValOk a vs xs) : ∀ {t : Tm}, FormOk g t → (∀ v ∈ varsTm t, v ∈ vs) → In0 a.size (valTm g a vs xs t)
  | .mk op nm so args, hf, hin => by
    have hn := hf.node
    simp only [FormOk] at hf
    rw [valTm]
    rcases op_cases hn with ⟨h, hop⟩ | ⟨hop, o, d, h⟩
    · rw [if_pos (by simpa only [Tm.op] using hop)]
      have e1 := h.1
      have e2 := h.2.2.2.2
      simp only [Tm.op, Tm.args] at e1 e2
      subst e1 e2
      exact valV_in hv.len hv.all (hin _ (by simp [varsTm]))
    · have h1 : ¬ op < 0 := by simp only [Tm.op] at hop; omega
      rw [if_neg h1]
      obtain ⟨l, hl, hT, has⟩ := tab_of hA h
      simp only [Tm.op] at hl has
      have hlen := valTms_len (g := g) (a := a) (vs := vs) (xs := xs) args
      have hnas := h.nas
      simp only [Tm.args] at hnas
      have e : a.tables.getD op.toNat [] = l := by simp [List.getD_eq_getElem?_getD, hl]
      rw [has, e]
      refine opV_in hT (valTms_in hA hv hf.2.1 fun v hvm => hin v ?_) fun h => by rw [hlen]; exact hnas h
      have : ¬ op = -1 := by omega
      simpa only [varsTm, if_neg this] using hvm
theorem valTms_in {g : Sgn} {a : Alg} {vs : List Tm} {xs : List Int} (hA : AlgOk g a) (hv : ValOk a vs xs) : ∀ {ts : List Tm}, FormOks g ts → (∀ v ∈ varsTms ts, v ∈ vs) → ∀ x ∈ valTms g a vs xs ts, In0 a.size x
  | [], _, _ => by simp [valTms]
  | t :: ts, hf, hin => by
    simp only [FormOks] at hf
    simp only [varsTms, List.mem_append] at hin
    intro x hx
    simp only [valTms, List.mem_cons] at hx
    rcases hx with rfl | hx
    · exact valTm_in hA hv hf.1 fun v h => hin v (.inl h)
    · exact valTms_in hA hv hf.2 (fun v h => hin v (.inr h)) x hx
end
end Go.Proofs.YtpbikjkjfojjiaaGreat

namespace Go.Proofs.YtpbikjkjfojjiaaGreat
open Go.RowKit

mutual
def leftTm : Tm → Int → Int
  | .mk _ _ _ args, l => leftTms args (l - 1)
def leftTms : List Tm → Int → Int
  | [], l => l
  | t :: ts, l => if 0 ≤ l then leftTms ts (leftTm t l) else l
end
theorem leftTms_u : ∀ l, leftTms [] l = l := fun _ => by rw [leftTms]
mutual
theorem leftTm_spec : ∀ (t : Tm) (l : Int), 0 ≤ l → (-1 ≤ leftTm t l ∧ leftTm t l ≤ l ∧ ((sizeTm t : Int) ≤ l → leftTm t l = l - sizeTm t) ∧ (l < sizeTm t → leftTm t l < 0))
  | .mk _ _ _ args, l, hl => by
    have := leftTms_spec args (l - 1) (by omega)
    simp only [leftTm, sizeTm]
    refine ⟨this.1, by omega, fun h => ?_, fun h => ?_⟩
    · have := this.2.2.1 (by omega); omega
    · by_cases h1 : 0 ≤ l - 1
      · exact this.2.2.2 (by omega)
      · have h2 := this.2.1; omega
theorem leftTms_spec : ∀ (ts : List Tm) (l : Int), -1 ≤ l → (-1 ≤ leftTms ts l ∧ leftTms ts l ≤ l ∧ ((sizeTms ts : Int) ≤ l → leftTms ts l = l - sizeTms ts) ∧ (l < sizeTms ts → leftTms ts l < 0))
  | [], l, hl => by simp only [leftTms, sizeTms]; omega
  | t :: ts, l, hl => by
    simp only [leftTms, sizeTms]
    by_cases h0 : 0 ≤ l
    · rw [if_pos h0]
      have h1 := leftTm_spec t l h0
      have h2 := leftTms_spec ts (leftTm t l) h1.1
      refine ⟨h2.1, by omega, fun h => ?_, fun h => ?_⟩
      · have e1 := h1.2.2.1 (by omega)
        have e2 := h2.2.2.1 (by omega)
        omega
      · by_cases h3 : (sizeTm t : Int) ≤ l
        · have e1 := h1.2.2.1 h3
          exact h2.2.2.2 (by omega)
        · have e1 := h1.2.2.2 (by omega)
          omega
    · rw [if_neg h0]
      have := sizeTms_len ts
      refine ⟨hl, Int.le_refl _, fun h => by omega, fun h => by omega⟩
end
theorem leftTms_neg {ts : List Tm} {l : Int} (h : ¬ 0 ≤ l) : leftTms ts l = l := by
  cases ts with
  | nil => rfl
  | cons t ts => simp only [leftTms, if_neg h]
theorem leftTms_app : ∀ (a b : List Tm) (l : Int), leftTms (a ++ b) l = leftTms b (leftTms a l)
  | [], b, l => rfl
  | t :: ts, b, l => by
    simp only [List.cons_append, leftTms]
    by_cases h : 0 ≤ l
    · rw [if_pos h, if_pos h, leftTms_app]
    · rw [if_neg h, if_neg h, leftTms_neg h]
theorem leftTms_snoc {ts : List Tm} {i : Nat} {t : Tm} {l : Int} (h : ts[i]? = some t) (h0 : 0 ≤ leftTms (ts.take i) l) : leftTms (ts.take (i + 1)) l = leftTm t (leftTms (ts.take i) l) := by
  rw [take_snoc h, leftTms_app]
  simp only [leftTms, if_pos h0]
theorem leftTms_stop {ts : List Tm} {i : Nat} {l : Int} (h0 : ¬ 0 ≤ leftTms (ts.take i) l) : leftTms ts l = leftTms (ts.take i) l := by
  conv => lhs; rw [← List.take_append_drop i ts]
  rw [leftTms_app, leftTms_neg h0]
theorem leftTm_eq (t : Tm) (l : Int) : leftTm t l = leftTms t.args (l - 1) := by cases t; simp only [leftTm, Tm.args]
set_option maxHeartbeats 4000000 in
set_option maxRecDepth 100000 in
theorem con_l6Left_all : ∀ (n : Nat) (t : Tm) (l : Int), sizeTm t < n → sizeTm t ≤ big → 0 ≤ l → l ≤ 60 → Con e0 136 [.agg (encTm t), .one (.lit (.int .i64 l))] [.one (.lit (.int .i64 (leftTm t l)))] := by
  intro n
  induction n with
  | zero => intro t l h; omega
  | succ n ih =>
    intro t l hn hb hl0 hl1
    have hsz := sizeTm_eq t
    have hal := sizeTms_len t.args
    unfold big at hb
    have hw : IntKind.i64.wrap (l - 1) = l - 1 := wrapN rfl (by omega) (by omega)
    rw [leftTm_eq]
    refine gI 65591 Tryz.func136 ?_
    (have F := And.intro @tmz @hw; refine gG ?_; clear F)
    (have F := @leftTms_u; refine gL (ι := Nat) [1, 5, 16] [] (fun i => [(5, A.d (.one (.lit (.int .i64 i)))), (1, A.d (.one (.lit (.int .i64 (leftTms (t.args.take i) (l - 1))))))]) (fun i => []) (fun i => i ≤ t.args.length) (fun i => t.args.length - i) (0) (by omega) (fun i hi => ?_); clear F)
    have hsp := leftTms_spec (t.args.take i) (l - 1) (by omega)
    by_cases hl : i < t.args.length
    rotate_left
    · have hl' : ¬ ((i : Int) < (t.args.length : Int)) := by omega
      have e : t.args.take i = t.args := List.take_of_length_le (by omega)
      (have F := And.intro @hl' (And.intro @e @tmz); refine gG ?_; exact gT)
    have hl' : (i : Int) < (t.args.length : Int) := by omega
    by_cases h0 : 0 ≤ leftTms (t.args.take i) (l - 1)
    rotate_left
    · have e := leftTms_stop h0
      (have F := And.intro @hl' (And.intro @h0 (And.intro @e @tmz)); refine gG ?_; exact gT)
    obtain ⟨a, ha⟩ : ∃ a, t.args[i]? = some a := ⟨_, List.getElem?_eq_getElem hl⟩
    have hm := sizeTms_mem (List.mem_of_getElem? ha)
    have hw1 := wrap1 (k := i) (by omega)
    have hs := leftTms_snoc ha h0
    (have F := And.intro @hl' (And.intro @h0 (And.intro @tmz @ha)); refine gG ?_; clear F)
    refine gB ?_
    (have F := And.intro @tmz @ha; refine gC (ih a _ (by omega) (by unfold big; omega) h0 (by omega)) ?_; clear F)
    (have F := @tmz; refine gR ?_; clear F)
    (have F := And.intro @hw1 (And.intro @hs @tmz); refine gG ?_; exact ⟨i + 1, by omega, gw, gw, by omega⟩)
theorem small_iff {t : Tm} : 0 ≤ leftTm t 60 ↔ sizeTm t ≤ 60 := by
  have := leftTm_spec t 60 (by omega)
  by_cases h : sizeTm t ≤ 60
  · have := this.2.2.1 (by omega); omega
  · have := this.2.2.2 (by omega); omega
set_option maxHeartbeats 4000000 in
set_option maxRecDepth 100000 in
theorem con_l6Small {t : Tm} (hb : sizeTm t ≤ big) : Con e0 96 [.agg (encTm t)] [.one (.lit (.bool (decide (sizeTm t ≤ 60 ∧ depthTm t ≤ 20))))] := by
  refine gI 7 Tryz.func96 ?_
  (have F := @tmz; refine gG ?_; clear F)
  refine gB ?_
  (have F := @tmz; refine gC (con_l6Left_all _ t 60 (Nat.lt_succ_self _) hb (by omega) (by omega)) ?_; clear F)
  by_cases h1 : sizeTm t ≤ 60
  rotate_left
  · have h1' : ¬ (0 ≤ leftTm t 60) := fun h => h1 (small_iff.1 h)
    (have F := And.intro @tmz @h1'; refine gR ?_; clear F)
    (have F := @h1; refine gG ?_; exact gT)
  have h1' : (0 ≤ leftTm t 60) := small_iff.2 h1
  (have F := And.intro @tmz @h1'; refine gC (con_specDepth hb) ?_; clear F)
  by_cases h2 : depthTm t ≤ 20
  · have h2' : ((depthTm t : Int) ≤ 20) := by omega
    (have F := And.intro @tmz @h2'; refine gR ?_; clear F)
    (have F := And.intro @h1 @h2; refine gG ?_; exact gT)
  · have h2' : ¬ ((depthTm t : Int) ≤ 20) := by omega
    (have F := And.intro @tmz @h2'; refine gR ?_; clear F)
    (have F := And.intro @h1 @h2; refine gG ?_; exact gT)
section
variable {g : Sgn}
open Classical in
noncomputable def isNode (g : Sgn) (t : Tm) : Bool := decide (NodeOk g t)
theorem isNode_true {t : Tm} (h : NodeOk g t) : isNode g t = true := by simp [isNode, h]
theorem isNode_false {t : Tm} (h : ¬ NodeOk g t) : isNode g t = false := by simp [isNode, h]
theorem isNode_iff {t : Tm} : isNode g t = true ↔ NodeOk g t := by simp [isNode]
set_option maxHeartbeats 4000000 in
set_option maxRecDepth 100000 in
theorem con_l6Node (hg : SgnOk g) {t : Tm} (hok : okTm t) (hb : sizeTm t ≤ big) : Con e0 138 [.agg (encSgn g), .agg (encTm t)] [.one (.lit (.bool (isNode g t)))] := by
  have hno : ¬ NodeOk g t → isNode g t = false := isNode_false
  obtain ⟨k1, k2, k3, k4⟩ := okTm_iff.1 hok
  have hsz := sizeTm_eq t
  have hal := sizeTms_len t.args
  have hn8 := hg.sorts.n8
  have hn1 := hg.sorts.n1
  have hln := hg.len
  unfold big at hb
  have hwn : IntKind.i64.wrap ((g.sorts.names.length : Int) - 1) = (g.sorts.names.length : Int) - 1 := wrapN rfl (by omega) (by omega)
  have hwo : IntKind.i64.wrap ((g.ops.length : Int) - 1) = (g.ops.length : Int) - 1 := wrapN rfl (by omega) (by omega)
  refine gI 9444733036108034605695 Tryz.func138 ?_
  by_cases h1 : t.op = -1
  · have hV : NodeOk g t → VarOk g t := fun h => by
      rcases h with h | ⟨o, d, h⟩
      · exact h
      · exact absurd h1 h.op
    (have F := And.intro @tmz (And.intro @encSgn_u @h1); refine gG ?_; clear F)
    refine gB ?_
    (have F := @tmz; refine gC (con_specName k2) ?_; clear F)
    by_cases h2 : isName t.name = true
    rotate_left
    · have h2' : isName t.name = false := by simpa using h2
      have hf := hno fun h => h2 (hV h).2.1
      (have F := And.intro @tmz @h2'; refine gR ?_; clear F)
      (have F := @hf; refine gG ?_; exact gT)
    (have F := And.intro @tmz (And.intro @h2 @hwn); refine gC (con_l1In _ _ _) ?_; clear F)
    by_cases h3 : 0 ≤ t.sort ∧ t.sort < g.sorts.names.length
    rotate_left
    · have h3' : decide (0 ≤ t.sort ∧ t.sort ≤ (g.sorts.names.length : Int) - 1) = false := by simp only [decide_eq_false_iff_not]; omega
      have hf := hno fun h => h3 ⟨(hV h).2.2.1, (hV h).2.2.2.1⟩
      (have F := And.intro @tmz @h3'; refine gR ?_; clear F)
      (have F := @hf; refine gG ?_; exact gT)
    have h3' : decide (0 ≤ t.sort ∧ t.sort ≤ (g.sorts.names.length : Int) - 1) = true := by simp only [decide_eq_true_eq]; omega
    by_cases h4 : t.args = []
    · have hT := isNode_true (g := g) (.inl ⟨h1, h2, h3.1, h3.2, h4⟩)
      (have F := And.intro @tmz (And.intro @h3' @h4); refine gR ?_; clear F)
      (have F := @hT; refine gG ?_; exact gT)
    · have hf := hno fun h => h4 (hV h).2.2.2.2
      have h4' : ¬ ((t.args.length : Int) = 0) := by
        intro h; apply h4; apply List.eq_nil_of_length_eq_zero; omega
      (have F := And.intro @tmz (And.intro @h3' @h4'); refine gR ?_; clear F)
      (have F := @hf; refine gG ?_; exact gT)
  (have F := And.intro @tmz (And.intro @encSgn_u @h1); refine gG ?_; clear F)
  refine gB ?_
  (have F := And.intro @tmz @hwo; refine gC (con_l1In _ _ _) ?_; clear F)
  by_cases h2 : 0 ≤ t.op ∧ t.op < g.ops.length
  rotate_left
  · have h2' : decide (0 ≤ t.op ∧ t.op ≤ (g.ops.length : Int) - 1) = false := by simp only [decide_eq_false_iff_not]; omega
    have hf := hno fun h => by
      obtain ⟨o, d, h⟩ := h.app h1
      have := (List.getElem?_eq_some_iff.1 h.at').1
      have := h.lo
      omega
    (have F := And.intro @tmz @h2'; refine gR ?_; clear F)
    (have F := @hf; refine gG ?_; exact gT)
  have h2' : decide (0 ≤ t.op ∧ t.op ≤ (g.ops.length : Int) - 1) = true := by simp only [decide_eq_true_eq]; omega
  by_cases h4 : t.name = ByteArray.empty
  rotate_left
  · have hf := hno fun h => by
      obtain ⟨o, d, h⟩ := h.app h1
      exact h4 h.nm
    (have F := And.intro @tmz (And.intro @h2' (And.intro @str_emp @h4)); refine gR ?_; clear F)
    (have F := @hf; refine gG ?_; exact gT)
  by_cases h5 : t.sort = 0
  rotate_left
  · have hf := hno fun h => by
      obtain ⟨o, d, h⟩ := h.app h1
      exact h5 h.so
    (have F := And.intro @tmz (And.intro @h2' (And.intro @str_emp (And.intro @h4 @h5))); refine gR ?_; clear F)
    (have F := @hf; refine gG ?_; exact gT)
  have h0 := h2.1
  obtain ⟨o, ho⟩ : ∃ o, g.ops[t.op.toNat]? = some o := ⟨_, List.getElem?_eq_getElem (by omega)⟩
  obtain ⟨d, hd, hr0, hr1, hargs⟩ := hg.first ho
  have hgt : NodeOk g t → AppOk g t o d := fun h => by
    obtain ⟨o', d', h⟩ := h.app h1
    have e1 := h.at'
    rw [ho] at e1
    injection e1 with e1
    subst e1
    have e2 := h.fst
    rw [hd] at e2
    injection e2 with e2
    subst e2
    exact h
  have cA := con_l4Arity hd
  rw [encOpr] at cA
  (have F := And.intro @tmz (And.intro @h2' (And.intro @str_emp (And.intro @h4 @h5))); refine gR ?_; clear F)
  (have F := And.intro @tmz (And.intro @h0 (And.intro @ho @encOpr_u)); refine gG ?_; clear F)
  cases ha : o.assoc with
  | false =>
    rw [ha] at cA
    refine gB ?_
    (have F := And.intro @tmz @ha; refine gC (cA) ?_; clear F)
    by_cases c : t.args.length = d.args.length
    · have hT := isNode_true (g := g) (.inr ⟨o, d, h0, ho, hd, h4, h5, fun h => (by rw [ha] at h; cases h), fun _ => c⟩)
      have c' : ((t.args.length : Int) = (d.args.length : Int)) := by omega
      (have F := And.intro @tmz (And.intro @c' @ha); refine gR ?_; clear F)
      (have F := @hT; refine gG ?_; exact gT)
    · have hf := hno fun h => c ((hgt h).nas ha)
      have c' : ¬ ((t.args.length : Int) = (d.args.length : Int)) := by omega
      (have F := And.intro @tmz (And.intro @c' @ha); refine gR ?_; clear F)
      (have F := @hf; refine gG ?_; exact gT)
  | true =>
    refine gB ?_
    (have F := And.intro @tmz @ha; refine gC (con_l1In _ _ _) ?_; clear F)
    by_cases c : 2 ≤ t.args.length ∧ t.args.length ≤ 7
    · have hT := isNode_true (g := g) (.inr ⟨o, d, h0, ho, hd, h4, h5, fun _ => c, fun h => (by rw [ha] at h; cases h)⟩)
      have c' : decide ((2 : Int) ≤ (t.args.length : Int) ∧ (t.args.length : Int) ≤ 7) = true := by simp only [decide_eq_true_eq]; omega
      (have F := And.intro @tmz (And.intro @c' @ha); refine gR ?_; clear F)
      (have F := @hT; refine gG ?_; exact gT)
    · have hf := hno fun h => c ((hgt h).asc ha)
      have c' : decide ((2 : Int) ≤ (t.args.length : Int) ∧ (t.args.length : Int) ≤ 7) = false := by simp only [decide_eq_false_iff_not]; omega
      (have F := And.intro @tmz (And.intro @c' @ha); refine gR ?_; clear F)
      (have F := @hf; refine gG ?_; exact gT)
end
end Go.Proofs.YtpbikjkjfojjiaaGreat

namespace Go.Proofs.YtpbikjkjfojjiaaGreat
open Go.RowKit
section
variable {g : Sgn}
open Classical in
noncomputable def isRight (g : Sgn) (op : Int) (args : List Tm) : Bool := decide (RightOk g op args)
theorem unit_form (hg : SgnOk g) {op : Int} {o : Opr} (ho : g.ops[op.toNat]? = some o) (hu : o.unit ≠ 0) {a : Tm} (ha : FormOk g a) (hop : a.op = o.unit - 1) : a = unitTm o := by
  have hax := hg.axs o (List.mem_of_getElem? ho)
  have hlo := hax.lo
  obtain ⟨p, u, h⟩ := ha.node.app (by omega)
  obtain ⟨d, hd, _⟩ := hg.first ho
  have e : a.op.toNat = o.unit.toNat - 1 := by omega
  have hz : u.args.length = 0 := by
    have h2 := hax.two (.inr (.inr hu)) d hd
    obtain ⟨d0, hd0⟩ : ∃ x, d.args[0]? = some x := ⟨_, List.getElem?_eq_getElem (by omega)⟩
    obtain ⟨d1, hd1⟩ : ∃ x, d.args[1]? = some x := ⟨_, List.getElem?_eq_getElem (by omega)⟩
    exact ((h2.2 d0 d1 hd0 hd1).2.2 hu p u (by rw [← e]; exact h.at') h.fst).1
  have has : p.assoc = false := by
    cases hp : p.assoc with
    | false => rfl
    | true =>
      have := ((hg.axs p (List.mem_of_getElem? h.at')).two (.inl hp) u h.fst).1
      omega
  have hl := h.nas has
  have hnil : a.args = [] := List.eq_nil_of_length_eq_zero (by omega)
  have hnm := h.nm
  have hso := h.so
  cases a with
  | mk x n s l =>
    simp only [Tm.args, Tm.name, Tm.sort, Tm.op] at *
    subst hnil hnm hso hop
    simp only [unitTm, if_neg hu]
theorem okTm_unit {o : Opr} (h0 : 0 ≤ o.unit) (h1 : o.unit ≤ 14) : okTm (unitTm o) := by
  rw [okTm_iff]
  simp only [unitTm, Tm.op, Tm.name, Tm.sort, Tm.args, okTms, and_true]
  refine ⟨?_, by simp [maxLen], ?_⟩
  · unfold I64; split <;> omega
  · unfold I64; omega
set_option maxHeartbeats 40000000 in
set_option maxRecDepth 100000 in
theorem con_l6Right (hokg : okSgn g) (hg : SgnOk g) {t : Tm} {o : Opr} {d : Dcl} (hA : AppOk g t o d) (hF : ∀ a ∈ t.args, FormOk g a) (hok : okTm t) (hb : sizeTm t ≤ big) : Con e0 139 [.agg (encSgn g), .agg (encTm t)] [.one (.lit (.bool (isRight g t.op t.args)))] := by
  have hno : ¬ RightOk g t.op t.args → isRight g t.op t.args = false := fun h => by simp [isRight, h]
  obtain ⟨k1, k2, k3, k4⟩ := okTm_iff.1 hok
  have hsz := sizeTm_eq t
  have hal := sizeTms_len t.args
  unfold big at hb
  have h0 := hA.lo
  have ho := hA.at'
  have hd := hA.fst
  obtain ⟨d', hd', hr0, hr1, hargs⟩ := hg.first ho
  rw [hd] at hd'
  injection hd' with hd'
  subst hd'
  have hax := hg.axs o (List.mem_of_getElem? ho)
  have hlo := hax.lo
  have hhi := hax.hi
  have hln := hg.len
  have cK := con_l3Kinds hokg.1 hg.sorts
  rw [encSrt] at cK
  have cUn := con_l6Unit hg h0 ho
  rw [encSgn] at cUn
  have hnoA : ∀ (i : Nat) a, t.args[i]? = some a → ¬ ArgOk g t.op o d t.args i a → isRight g t.op t.args = false := fun i a ha h => hno fun hR => h (hR o d ho hd i a ha)
  refine gI 9903595872146772515857895423 Tryz.func139 ?_
  (have F := And.intro @tmz (And.intro @encSgn_u (And.intro @h0 (And.intro @ho @encOpr_u))); refine gG ?_; clear F)
  refine gB ?_
  (have F := @tmz; refine gC (cK) ?_; clear F)
  (have F := @tmz; refine gR ?_; clear F)
  (have F := @tmz; refine gG ?_; clear F)
  refine gB ?_
  (have F := @tmz; refine gC (cUn) ?_; clear F)
  (have F := @tmz; refine gR ?_; clear F)
  (have F := @tmz; refine gG ?_; clear F)
  (have F := @e0P; refine gL (ι := Nat) [4, 9, 10, 11, 32, 42, 76, 93] [] (fun i => [(9, A.d (.one (.lit (.int .i64 i))))]) (fun i => []) (fun i => i ≤ t.args.length ∧ ∀ (j : Nat) a, j < i → t.args[j]? = some a → ArgOk g t.op o d t.args j a) (fun i => t.args.length - i) (0) (⟨by omega, fun j a h => absurd h (by omega)⟩) (fun i hi => ?_); clear F)
  obtain ⟨hil, hall⟩ := hi
  by_cases hl : i < t.args.length
  rotate_left
  · have hl' : ¬ ((i : Int) < (t.args.length : Int)) := by omega
    have hT : isRight g t.op t.args = true := by
      simp only [isRight, decide_eq_true_eq]
      intro o' d' ho' hd' j a hj
      rw [ho] at ho'
      injection ho' with ho'
      subst ho'
      rw [hd] at hd'
      injection hd' with hd'
      subst hd'
      exact hall j a (by have := (List.getElem?_eq_some_iff.1 hj).1; omega) hj
    (have F := And.intro @tmz (And.intro @hl' @hT); refine gG ?_; exact gT)
  have hl' : (i : Int) < (t.args.length : Int) := by omega
  obtain ⟨a, ha⟩ : ∃ a, t.args[i]? = some a := ⟨_, List.getElem?_eq_getElem hl⟩
  have hm := List.mem_of_getElem? ha
  have hFa := hF a hm
  have hw1 := wrap1 (k := i) (by omega)
  obtain ⟨k, hk⟩ := argAt_get hg ho hd hA.nas hl
  obtain ⟨hk0, hk1⟩ := hargs k (List.mem_of_getElem? hk)
  have hkd := kd_get hg.sorts hk0 hk1
  have cKa := con_l6Kind hokg hg hFa.node
  rw [encSgn] at cKa
  have cU := con_l5Same (k4.mem hm) (okTm_unit (o := o) hlo (by omega))
  have hUiff : o.unit ≠ 0 → (cmpTm a (unitTm o) = 0 ↔ a.op = o.unit - 1) := fun hu => by
    rw [cmpTm_iff]
    constructor
    · rintro h; rw [h]; simp [unitTm, Tm.op, hu]
    · exact unit_form hg ho hu hFa
  generalize hU : decide (cmpTm a (unitTm o) = 0) = U at cU
  have hnext : kindTm g a = ((kd g.sorts k : Nat) : Int) → (o.assoc = true → ¬ a.op = t.op) → (o.unit ≠ 0 → U = false) → (o.comm = true → ∀ (j : Nat) p, i = j + 1 → t.args[j]? = some p → cmpTm p a ≤ 0) → i + 1 ≤ t.args.length ∧ ∀ (j : Nat) a, j < i + 1 → t.args[j]? = some a → ArgOk g t.op o d t.args j a := fun hkk hne hU' hc => ⟨by omega, fun j a' hj ha' => by
    by_cases e : j = i
    · subst e
      rw [ha] at ha'
      injection ha' with ha'
      subst ha'
      refine ⟨fun k' hk' => ?_, hne, fun h1 h2 => ?_, hc⟩
      · rw [hk] at hk'
        injection hk' with hk'
        subst hk'
        exact hkk
      · have := hU' h1
        rw [this] at hU
        simp only [decide_eq_false_iff_not] at hU
        exact hU ((hUiff h1).2 h2)
    · exact hall j a' (by omega) ha'⟩
  have hkN : d.args[(argAt o i : Nat)]? = some k := hk
  (have F := And.intro @tmz (And.intro @hl' @ha); refine gG ?_; clear F)
  refine gM (ι := Unit) [11] [] (fun u => [(11, A.d (.one (.lit (.int .i64 (argAt o i : Nat)))))]) (fun u => []) (fun u => True) ?_ (fun u hu => Exists.intro _ (And.intro (Wk.refl _) ?_))
  · rcases Bool.eq_false_or_eq_true o.assoc with hac | hac
    · (have F := And.intro @encOpr_u (And.intro @hac @argAt_u); refine gG ?_; exact ⟨(), trivial, gw, gw⟩)
    · (have F := And.intro @encOpr_u (And.intro @hac (And.intro @argAt_u @if_false.{1})); refine gG ?_; exact ⟨(), trivial, gw, gw⟩)
  (have F := @tmz; refine gG ?_; clear F)
  refine gM (ι := Bool) [76] [] (fun x => [(76, A.d (.one (.lit (.bool x))))]) (fun x => []) (fun x => (x = true → isRight g t.op t.args = false) ∧ (x = false → kindTm g a = ((kd g.sorts k : Nat) : Int) ∧ (o.assoc = true → ¬ a.op = t.op) ∧ (o.unit ≠ 0 → U = false))) ?_ (fun x hx => Exists.intro _ (And.intro (Wk.refl _) ?_))
  · refine gB ?_
    (have F := @tmz; refine gC (cKa) ?_; clear F)
    by_cases hkk : kindTm g a = ((kd g.sorts k : Nat) : Int)
    rotate_left
    · have hf := hnoA i a ha fun h => hkk (h.kind k hk)
      (have F := And.intro @tmz (And.intro @encOpr_u (And.intro @hd (And.intro @encDcl_u (And.intro @hkN (And.intro @hk0 (And.intro @hkd (And.intro @encInt_u @hkk))))))); refine gR ?_; clear F)
      (have F := @tmz; refine gG ?_; exact ⟨true, ⟨fun _ => hf, fun h => by cases h⟩, gw, gw⟩)
    by_cases hN : o.assoc = true ∧ a.op = t.op
    · have hf := hnoA i a ha fun h => h.nest hN.1 hN.2
      obtain ⟨hN1, hN2⟩ := hN
      (have F := And.intro @tmz (And.intro @encOpr_u (And.intro @hd (And.intro @encDcl_u (And.intro @hkN (And.intro @hk0 (And.intro @hkd (And.intro @encInt_u (And.intro @hkk (And.intro @hN1 @hN2))))))))); refine gR ?_; clear F)
      (have F := And.intro @tmz @hN1; refine gG ?_; exact ⟨true, ⟨fun _ => hf, fun h => by cases h⟩, gw, gw⟩)
    have hne : o.assoc = true → ¬ a.op = t.op := fun h1 h2 => hN ⟨h1, h2⟩
    rcases Bool.eq_false_or_eq_true o.assoc with hac | hac
    all_goals (
      by_cases hu : o.unit = 0
      · (have F := And.intro @tmz (And.intro @encOpr_u (And.intro @hd (And.intro @encDcl_u (And.intro @hkN (And.intro @hk0 (And.intro @hkd (And.intro @encInt_u (And.intro @hkk (And.intro @hac (And.intro @hne @hu)))))))))); refine gR ?_; clear F)
        (have F := And.intro @tmz (And.intro @hac @hu); refine gG ?_; exact ⟨false, ⟨fun h => (by cases h), fun _ => ⟨hkk, hne, fun h => absurd hu h⟩⟩, gw, gw⟩)
      (have F := And.intro @tmz (And.intro @encOpr_u (And.intro @hd (And.intro @encDcl_u (And.intro @hkN (And.intro @hk0 (And.intro @hkd (And.intro @encInt_u (And.intro @hkk (And.intro @hac (And.intro @hne @hu)))))))))); refine gC (cU) ?_; clear F)
      rcases Bool.eq_false_or_eq_true U with hub | hub
      · have hf := hnoA i a ha fun h => by
          rw [hub] at hU
          simp only [decide_eq_true_eq] at hU
          exact h.unit hu ((hUiff hu).1 hU)
        (have F := And.intro @tmz @hub; refine gR ?_; clear F)
        (have F := And.intro @tmz (And.intro @hac @hu); refine gG ?_; exact ⟨true, ⟨fun _ => hf, fun h => by cases h⟩, gw, gw⟩)
      · (have F := And.intro @tmz @hub; refine gR ?_; clear F)
        (have F := And.intro @tmz (And.intro @hac @hu); refine gG ?_; exact ⟨false, ⟨fun h => (by cases h), fun _ => ⟨hkk, hne, fun _ => hub⟩⟩, gw, gw⟩))
  cases x with
  | true =>
    have hf := hx.1 rfl
    (have F := @hf; refine gG ?_; exact gT)
  | false =>
    obtain ⟨hkk, hne, hub⟩ := hx.2 rfl
    (have F := @tmz; refine gG ?_; clear F)
    rcases Bool.eq_false_or_eq_true o.comm with hcm | hcm
    rotate_left
    · have hq := hnext hkk hne hub (fun h => by rw [hcm] at h; cases h)
      (have F := And.intro @hw1 (And.intro @tmz (And.intro @encOpr_u @hcm)); refine gG ?_; exact ⟨i + 1, hq, gw, gw, by omega⟩)
    rcases Nat.eq_zero_or_pos i with hi0 | hi0
    · have hq := hnext hkk hne hub (fun _ j p h => by omega)
      have hi0' : ¬ ((0 : Int) < (i : Int)) := by omega
      (have F := And.intro @hw1 (And.intro @tmz (And.intro @encOpr_u (And.intro @hcm @hi0'))); refine gG ?_; exact ⟨i + 1, hq, gw, gw, by omega⟩)
    obtain ⟨j, hj⟩ : ∃ j, i = j + 1 := ⟨i - 1, by omega⟩
    obtain ⟨p, hp⟩ : ∃ p, t.args[j]? = some p := ⟨_, List.getElem?_eq_getElem (by omega)⟩
    have cC := con_specCmp (k4.mem (List.mem_of_getElem? hp)) (k4.mem hm)
    have hgt0 : (0 : Int) < (i : Int) := by omega
    have hsub : IntKind.i64.wrap ((i : Int) - 1) = (j : Int) := wrapN (by omega) (by omega) (by omega)
    refine gB ?_
    (have F := And.intro @tmz (And.intro @encOpr_u (And.intro @hcm (And.intro @hgt0 (And.intro @hsub @hp)))); refine gC (cC) ?_; clear F)
    by_cases hc : 0 < cmpTm p a
    · have hf := hnoA i a ha fun h => by have := h.ord hcm j p hj hp; omega
      (have F := And.intro @tmz @hc; refine gR ?_; clear F)
      (have F := @hf; refine gG ?_; exact gT)
    · have hq := hnext hkk hne hub (fun _ j' p' h hp' => by
        have : j' = j := by omega
        subst this
        rw [hp] at hp'
        injection hp' with hp'
        subst hp'
        omega)
      (have F := And.intro @tmz @hc; refine gR ?_; clear F)
      (have F := And.intro @hw1 (And.intro @tmz (And.intro @encOpr_u @hcm)); refine gG ?_; exact ⟨i + 1, hq, gw, gw, by omega⟩)
set_option maxHeartbeats 40000000 in
set_option maxRecDepth 100000 in
theorem con_l6Form_all (hokg : okSgn g) (hg : SgnOk g) : ∀ (n : Nat) (t : Tm), sizeTm t < n → okTm t → sizeTm t ≤ big → Con e0 97 [.agg (encSgn g), .agg (encTm t)] [.one (.lit (.bool (isForm g t)))] := by
  intro n
  induction n with
  | zero => intro t h; omega
  | succ n ih =>
    intro t hn hok hb
    have hno : ¬ FormOk g t → isForm g t = false := isForm_false
    obtain ⟨k1, k2, k3, k4⟩ := okTm_iff.1 hok
    have hsz := sizeTm_eq t
    have hal := sizeTms_len t.args
    have cN := con_l6Node hg hok hb
    have hb' := hb
    unfold big at hb'
    rw [encSgn] at cN
    have ih' := fun a h1 h2 h3 => ih a h1 h2 h3
    simp only [encSgn] at ih'
    refine gI 16794175 Tryz.func97 ?_
    (have F := And.intro @tmz @encSgn_u; refine gG ?_; clear F)
    refine gB ?_
    (have F := @tmz; refine gC (cN) ?_; clear F)
    by_cases hN : isNode g t = true
    rotate_left
    · have hf := hno fun h => hN (isNode_true h.node)
      have hN' : isNode g t = false := by simpa using hN
      (have F := And.intro @tmz @hN'; refine gR ?_; clear F)
      (have F := @hf; refine gG ?_; exact gT)
    have hNd := isNode_iff.1 hN
    (have F := And.intro @tmz @hN; refine gR ?_; clear F)
    (have F := @tmz; refine gG ?_; clear F)
    (have F := @e0P; refine gL (ι := Nat) [4, 5, 14, 24] [] (fun i => [(5, A.d (.one (.lit (.int .i64 i))))]) (fun i => []) (fun i => i ≤ t.args.length ∧ ∀ (j : Nat) a, j < i → t.args[j]? = some a → FormOk g a) (fun i => t.args.length - i) (0) (⟨by omega, fun j a h => absurd h (by omega)⟩) (fun i hi => ?_); clear F)
    obtain ⟨hil, hall⟩ := hi
    by_cases hl : i < t.args.length
    rotate_left
    · have hl' : ¬ ((i : Int) < (t.args.length : Int)) := by omega
      have hF : ∀ a ∈ t.args, FormOk g a := fun a ha => by
        obtain ⟨j, hj⟩ := List.getElem?_of_mem ha
        exact hall j a (by have := (List.getElem?_eq_some_iff.1 hj).1; omega) hj
      by_cases h1 : t.op = -1
      · have hT := isForm_true (g := g) (t := t) (FormOk_iff.2 ⟨hNd, hF, .inl h1⟩)
        (have F := And.intro @tmz (And.intro @hl' (And.intro @h1 @hT)); refine gG ?_; exact gT)
      obtain ⟨o, d, hA⟩ := hNd.app h1
      have cR := con_l6Right hokg hg hA hF hok hb
      rw [encSgn] at cR
      have e : isRight g t.op t.args = isForm g t := by
        unfold isRight isForm
        congr 1
        rw [FormOk_iff]
        exact propext ⟨fun h => ⟨hNd, hF, .inr h⟩, fun h => h.2.2.resolve_left h1⟩
      (have F := And.intro @tmz (And.intro @hl' @h1); refine gG ?_; clear F)
      refine gB ?_
      (have F := And.intro @tmz @h1; refine gC (cR) ?_; clear F)
      (have F := @tmz; refine gR ?_; clear F)
      (have F := @e; refine gG ?_; exact gT)
    have hl' : (i : Int) < (t.args.length : Int) := by omega
    obtain ⟨a, ha⟩ : ∃ a, t.args[i]? = some a := ⟨_, List.getElem?_eq_getElem hl⟩
    have hm := List.mem_of_getElem? ha
    have hsa := sizeTms_mem hm
    have hw1 := wrap1 (k := i) (by omega)
    (have F := And.intro @tmz (And.intro @hl' @ha); refine gG ?_; clear F)
    refine gB ?_
    (have F := And.intro @tmz @ha; refine gC (ih' a (by omega) (k4.mem hm) (by unfold big; omega)) ?_; clear F)
    by_cases hfa : isForm g a = true
    rotate_left
    · have hf := hno fun h => hfa (isForm_true ((FormOk_iff.1 h).2.1 a hm))
      have hfa' : isForm g a = false := by simpa using hfa
      (have F := And.intro @tmz @hfa'; refine gR ?_; clear F)
      (have F := @hf; refine gG ?_; exact gT)
    have hq : i + 1 ≤ t.args.length ∧ ∀ (j : Nat) a, j < i + 1 → t.args[j]? = some a → FormOk g a := ⟨by omega, fun j a' hj ha' => by
      by_cases e : j = i
      · subst e
        rw [ha] at ha'
        injection ha' with ha'
        subst ha'
        exact isForm_iff.1 hfa
      · exact hall j a' (by omega) ha'⟩
    (have F := And.intro @tmz @hfa; refine gR ?_; clear F)
    (have F := And.intro @hw1 @tmz; refine gG ?_; exact ⟨i + 1, hq, gw, gw, by omega⟩)
theorem con_l6Form (hokg : okSgn g) (hg : SgnOk g) {t : Tm} (hok : okTm t) (hb : sizeTm t ≤ big) : Con e0 97 [.agg (encSgn g), .agg (encTm t)] [.one (.lit (.bool (isForm g t)))] := con_l6Form_all hokg hg _ t (Nat.lt_succ_self _) hok hb
set_option maxHeartbeats 4000000 in
set_option maxRecDepth 100000 in
theorem con_specIsTerm (hokg : okSgn g) {t : Tm} (hok : okTm t) (hb : sizeTm t ≤ big) : Con e0 63 [.agg (encSgn g), .agg (encTm t)] [.one (.lit (.bool (isSgn g && isTerm g t)))] := by
  have cS := con_specSgn hokg
  rw [encSgn] at cS
  refine gI 31 Tryz.func63 ?_
  (have F := And.intro @tmz @encSgn_u; refine gG ?_; clear F)
  refine gB ?_
  (have F := @tmz; refine gC (cS) ?_; clear F)
  by_cases hs : isSgn g = true
  rotate_left
  · have hs' : isSgn g = false := by simpa using hs
    (have F := And.intro @tmz @hs'; refine gR ?_; clear F)
    (have F := @hs'; refine gG ?_; exact gT)
  have hg := isSgn_iff.1 hs
  have cF := con_l6Form hokg hg hok hb
  rw [encSgn] at cF
  (have F := And.intro @tmz @hs; refine gC (con_l6Small hb) ?_; clear F)
  by_cases h1 : sizeTm t ≤ 60 ∧ depthTm t ≤ 20
  rotate_left
  · have hf : isTerm g t = false := isTerm_false fun h => h1 ⟨h.size, h.depth⟩
    have h1' : decide (sizeTm t ≤ 60 ∧ depthTm t ≤ 20) = false := by simp only [decide_eq_false_iff_not]; exact h1
    (have F := And.intro @tmz (And.intro @h1' @hs); refine gR ?_; clear F)
    (have F := And.intro @hs @hf; refine gG ?_; exact gT)
  have h1' : decide (sizeTm t ≤ 60 ∧ depthTm t ≤ 20) = true := by simp only [decide_eq_true_eq]; exact h1
  have e := isTerm_form (g := g) h1.1 h1.2
  (have F := And.intro @tmz (And.intro @h1' @hs); refine gC (cF) ?_; clear F)
  (have F := And.intro @tmz (And.intro @h1' @hs); refine gR ?_; clear F)
  (have F := And.intro @hs @e; refine gG ?_; exact gT)
end
end Go.Proofs.YtpbikjkjfojjiaaGreat

namespace Go.Proofs.YtpbikjkjfojjiaaGreat
open Go.RowKit

theorem Con.weaken {e : Env} {f : FuncId} {args args' r : List D} (h : Con e f args' r) (ha : ∀ (w : World) (S : Nat → Prop) (vs : List Value), DsRel w S args vs → DsRel w S args' vs) : Con e f args r :=
  ⟨h.1, fun w S vs h1 h2 h3 h4 => h.2 w S vs h1 h2 h3 (ha w S vs h4)⟩
theorem con_clip3 {e : Env} {f : FuncId} {a b : D} {rows : List (List C)} {r : List D} (h : Con e f [a, b, .one (.sl rows)] r) : Con e f [a, b, .clip rows] r :=
  h.weaken fun w S vs hv => by
    match vs, hv with
    | [x, y, z], hv => exact ⟨hv.1, hv.2.1, hv.2.2.1.1, trivial⟩
theorem least {P : Nat → Prop} (h : ∃ n, P n) : ∃ n, P n ∧ ∀ m, m < n → ¬ P m := by
  obtain ⟨n, hn⟩ := h
  induction n using Nat.strongRecOn with
  | _ n ih =>
    by_cases hx : ∃ m, m < n ∧ P m
    · obtain ⟨m, hm, hp⟩ := hx; exact ih m hm hp
    · exact ⟨n, hn, fun m hm hp => hx ⟨m, hm, hp⟩⟩
/-! What the test says, by what it says of the parts. -/
set_option maxHeartbeats 4000000 in
set_option maxRecDepth 100000 in
theorem con_indexFunc {ts : List Tm} {f : FuncId} {caps : List C} {P : Tm → Bool} (hl : ts.length ≤ big) (h : ∀ a ∈ ts, Con e0 f (.agg (encTm a) :: caps.map .one) [.one (.lit (.bool (P a)))]) :
    ∃ r : Int, (0 ≤ r ↔ ts.any P = true) ∧ Con e0 118 [.one (.sl (encTms ts)), .one (.fn f caps)] [.one (.lit (.int .i64 r))] := by
  unfold big at hl
  by_cases hA : ts.any P = true
  · obtain ⟨k, hk, hbef⟩ : ∃ k : Nat, (∃ a, ts[k]? = some a ∧ P a = true) ∧ ∀ (j : Nat) a, j < k → ts[j]? = some a → P a = false := by
      have hex : ∃ k : Nat, ∃ a, ts[k]? = some a ∧ P a = true := by
        obtain ⟨a, ha, hp⟩ := List.any_eq_true.1 hA
        obtain ⟨k, hk⟩ := List.getElem?_of_mem ha
        exact ⟨k, a, hk, hp⟩
      obtain ⟨k, hk, hmin⟩ := least hex
      refine ⟨k, hk, fun j a hj ha => ?_⟩
      cases hp : P a with
      | false => rfl
      | true => exact absurd ⟨a, ha, hp⟩ (hmin j hj)
    obtain ⟨a0, ha0, hp0⟩ := hk
    have hkl := (List.getElem?_eq_some_iff.1 ha0).1
    refine ⟨(k : Int), ⟨fun _ => hA, fun _ => by omega⟩, ?_⟩
    refine gI 66483 Tryz.func118 ?_
    (have F := @tmz; refine gG ?_; clear F)
    (have F := @e0P; refine gL (ι := Nat) [4, 5, 8, 9, 16] [] (fun i => [(8, A.d (.one (.lit (.int .i64 i))))]) (fun i => []) (fun i => i ≤ k) (fun i => k + 1 - i) (0) (by omega) (fun i hi => ?_); clear F)
    have hl' : (i : Int) < (ts.length : Int) := by omega
    obtain ⟨a, ha⟩ : ∃ a, ts[i]? = some a := ⟨_, List.getElem?_eq_getElem (by omega)⟩
    have hw1 := wrap1 (k := i) (by omega)
    (have F := And.intro @tmz @hl'; refine gG ?_; clear F)
    refine gB ?_
    (have F := And.intro @tmz @ha; refine gC (h a (List.mem_of_getElem? ha)) ?_; clear F)
    by_cases hik : i = k
    · subst hik
      rw [ha] at ha0
      injection ha0 with ha0
      subst ha0
      (have F := And.intro @tmz @hp0; refine gR ?_; clear F)
      (have F := @tmz; refine gG ?_; exact gT)
    · have hpf := hbef i a (by omega) ha
      (have F := And.intro @tmz @hpf; refine gR ?_; clear F)
      (have F := And.intro @hw1 @tmz; refine gG ?_; exact ⟨i + 1, by omega, gw, gw, by omega⟩)
  · have hbef : ∀ (j : Nat) a, ts[j]? = some a → P a = false := fun j a ha => by
      cases hp : P a with
      | false => rfl
      | true => exact absurd (List.any_eq_true.2 ⟨a, List.mem_of_getElem? ha, hp⟩) hA
    refine ⟨-1, ⟨fun h => by omega, fun h => absurd h hA⟩, ?_⟩
    refine gI 66483 Tryz.func118 ?_
    (have F := @tmz; refine gG ?_; clear F)
    (have F := @e0P; refine gL (ι := Nat) [4, 5, 8, 9, 16] [] (fun i => [(8, A.d (.one (.lit (.int .i64 i))))]) (fun i => []) (fun i => i ≤ ts.length) (fun i => ts.length - i) (0) (by omega) (fun i hi => ?_); clear F)
    by_cases hi' : i < ts.length
    rotate_left
    · have hl' : ¬ ((i : Int) < (ts.length : Int)) := by omega
      (have F := And.intro @tmz @hl'; refine gG ?_; exact gT)
    have hl' : (i : Int) < (ts.length : Int) := by omega
    obtain ⟨a, ha⟩ : ∃ a, ts[i]? = some a := ⟨_, List.getElem?_eq_getElem (by omega)⟩
    have hw1 := wrap1 (k := i) (by omega)
    have hpf := hbef i a ha
    (have F := And.intro @tmz @hl'; refine gG ?_; clear F)
    refine gB ?_
    (have F := And.intro @tmz @ha; refine gC (h a (List.mem_of_getElem? ha)) ?_; clear F)
    (have F := And.intro @tmz @hpf; refine gR ?_; clear F)
    (have F := And.intro @hw1 @tmz; refine gG ?_; exact ⟨i + 1, by omega, gw, gw, by omega⟩)
set_option maxHeartbeats 4000000 in
set_option maxRecDepth 100000 in
theorem con_containsFunc {ts : List Tm} {f : FuncId} {caps : List C} {P : Tm → Bool} (hl : ts.length ≤ big) (h : ∀ a ∈ ts, Con e0 f (.agg (encTm a) :: caps.map .one) [.one (.lit (.bool (P a)))]) :
    Con e0 128 [.one (.sl (encTms ts)), .one (.fn f caps)] [.one (.lit (.bool (ts.any P)))] := by
  obtain ⟨r, hr, c⟩ := con_indexFunc hl h
  refine gI 19 Tryz.func128 ?_
  (have F := @tmz; refine gG ?_; clear F)
  refine gB ?_
  (have F := @tmz; refine gC (c) ?_; clear F)
  have e : decide (0 ≤ r) = ts.any P := by
    rw [Bool.eq_iff_iff, decide_eq_true_iff]; exact hr
  (have F := @tmz; refine gR ?_; clear F)
  (have F := @e; refine gG ?_; exact gT)
mutual
theorem bulk_size : ∀ t : Tm, sizeTm t ≤ bulkRow (encTm t) + 1
  | .mk _ _ _ args => by
    have := bulk_sizes args
    simp only [sizeTm, encTm, bulkRow, bulkC]
    omega
theorem bulk_sizes : ∀ ts : List Tm, sizeTms ts ≤ (encTms ts).length + bulkRows (encTms ts)
  | [] => by simp [sizeTms]
  | t :: ts => by
    have h1 := bulk_size t
    have h2 := bulk_sizes ts
    simp only [sizeTms, encTms, List.length_cons, bulkRows]
    omega
end
theorem big_of_bulk {t : Tm} (h : bulkRow (encTm t) ≤ 1048576) : sizeTm t ≤ big := by
  have := bulk_size t
  unfold big
  omega
end Go.Proofs.YtpbikjkjfojjiaaGreat

namespace Go.Proofs.YtpbikjkjfojjiaaGreat
open Go.RowKit

section
variable {e : Env} {U : Nat → Prop} {w0 : World} {S0 : Nat → Prop} {nt : Nat} {ops : Array Oper} {n : Nat} {m : List (Nat × Bk)} {s : List (Nat × A)} {αs : List A} {L : Lay}
theorem wpAny_headT {J : Array Bool → Act → World → (Nat → Prop) → Prop} (he : e.Ok) (hH : headB ops n = true) (hn : n ≤ ops.size) (hs : ∀ i, n ≤ i → i < ops.size → ∀ j, j < n → Region.waitsFor .any ops i j = true)
    (hsz : ∀ (i : Nat) (o : Oper) (d : Nat), i < n → ops[i]? = some o → o.dst = some d → d < nt) (hal : αs.length = n) (hch : Chain e U w0.heap.size S0 m ops.toList (ops.toList.take n) s αs) {Q : Exit → Act → World → Prop} (hgo : GoStep e U w0 S0 nt m ops n s αs L J Q)
    (hsk : ∀ (listed : Array Bool) (a : Act) (w : World) (S : Nat → Prop) (i : Nat) (o : Oper) (d : Nat), J listed a w S → InvA e U w0 S0 nt m ops n s αs L listed a w S → HeadAt ops n i o d → i < n → i ∈ Region.ready .any ops listed → d < nt → o.guard ≠ none → J (listed.setIfInBounds i true) (a.put o.dst undef) w S)
    (hend : ∀ listed a w S, InvA e U w0 S0 nt m ops n s αs L listed a w S → J listed a w S → (∀ i, i < n → listed.getD i false = true) → wpAny e.P .any ops Q (ops.size - n) (headArr ops.size n) a w) :
    ∀ (k : Nat) (listed : Array Bool) (a : Act) (w : World) (S : Nat → Prop), InvA e U w0 S0 nt m ops n s αs L listed a w S → J listed a w S → (List.range n).countP (fun i => !listed.getD i true) = k → wpAny e.P .any ops Q (k + (ops.size - n)) listed a w
  | 0, listed, a, w, S, hI, hJ, hc => by
    have hall : ∀ i, i < n → listed.getD i true = true := fun i hi => by
      have := List.countP_eq_zero.1 hc i (List.mem_range.2 hi)
      simpa using this
    have heq := listed_eq hI.head hn hall
    have hE := hend listed a w S hI hJ (fun i hi => by
      have hl : i < listed.size := by rw [hI.head.size]; omega
      rw [← getD_ftt hl]; exact hall i hi)
    rw [Nat.zero_add, heq]
    exact hE
  | k + 1, listed, a, w, S, hI, hJ, hc => by
    obtain ⟨i0, hi0, hu0⟩ : ∃ i, i < n ∧ listed.getD i true = false := by
      have : 0 < (List.range n).countP (fun i => !listed.getD i true) := by omega
      obtain ⟨i, hi, hp⟩ := List.countP_pos_iff.1 this
      exact ⟨i, List.mem_range.1 hi, by simpa using hp⟩
    rw [show k + 1 + (ops.size - n) = (k + (ops.size - n)) + 1 by omega]
    refine ⟨fun h0 => absurd h0 (first_readyA hH hI.head hi0 hu0), fun i hr => ?_⟩
    obtain ⟨hun, oi, hoi, hall⟩ := mem_ready.1 hr
    have hin : i < n := by
      rcases Nat.lt_or_ge i n with h | h
      · exact h
      · have hns : n < ops.size := Nat.lt_of_le_of_lt h (Array.getElem?_eq_some_iff.1 hoi).1
        obtain ⟨oj, hoj, e1, he1, hb1, hon1⟩ := Region.waitsFor_spec (hs i h (Array.getElem?_eq_some_iff.1 hoi).1 i0 hi0)
        rw [hoi] at hoj
        injection hoj with hoj
        subst hoj
        have h2 := hall e1 he1 hb1
        rw [hon1] at h2
        have h3 : i0 < listed.size := by rw [hI.head.size]; omega
        rw [getD_ftt h3] at hu0
        rw [h2] at hu0
        cases hu0
    obtain ⟨o, d, hA⟩ := headB.get hH hin
    have hoo : oi = o := by have := hA.op; rw [hoi] at this; injection this
    subst hoo
    have hls : i < listed.size := by rw [hI.head.size]; exact (Array.getElem?_eq_some_iff.1 hoi).1
    obtain ⟨α, hα, hst⟩ := hch.get i oi (by rw [List.getElem?_take, if_pos hin]; simpa using hoi)
    have htk : (ops.toList.take n).take i = ops.toList.take i := by rw [List.take_take, Nat.min_eq_left (by omega)]
    rw [htk] at hst
    have hdn := hsz i oi d hin hoi hA.dst
    have hcount : (List.range n).countP (fun j => !(listed.setIfInBounds i true).getD j true) = k := by
      have h1 : (List.range n).countP (fun j => !(listed.setIfInBounds i true).getD j true) + 1 = (List.range n).countP (fun j => !listed.getD j true) := by
        have hperm := List.perm_cons_erase (List.mem_range.2 hin)
        rw [hperm.countP_eq, hperm.countP_eq, List.countP_cons, List.countP_cons]
        have hcong : ((List.range n).erase i).countP (fun j => !(listed.setIfInBounds i true).getD j true) = ((List.range n).erase i).countP (fun j => !listed.getD j true) := by
          refine List.countP_congr fun j hj => ?_
          have hne : j ≠ i := fun e => by
            subst e
            exact List.Nodup.not_mem_erase (List.nodup_range) hj
          rw [getD_set_ne true (Ne.symm hne)]
        rw [hcong, hun]
        simp [hls]
      omega
    have hop : ∀ x ∈ oi.op.operands, ARel w S L (evA (after s (ops.toList.take i) (αs.take i)) x) (a.eval x) := fun x hx => by
      cases x with
      | tmp t =>
        exact hI.operand hH hn hal hA hin hall (fun j p hj hp hpt => (hA.dep j p hj hp).2 t (List.mem_filterMap.2 ⟨.tmp t, by simpa using hx, rfl⟩) hpt)
      | const v =>
        simp only [evA, Act.eval]
        unfold constA
        split
        · simp only [ARel, DRel, Rep]
          exact ⟨⟨none, 0, 0, rfl, rfl, Nat.le_refl _, by decide, fun h => absurd h (by decide)⟩, none, 0, rfl⟩
        · rename_i vs; exact ⟨vs.toList, rfl, RepVals_zero _⟩
        · simp [ARel, DRel, Rep]
      | func f =>
        simp only [evA, Act.eval, ARel, DRel, Rep]
        exact ⟨[], rfl, by simp [RepVals]⟩
      | global g => trivial
    have go : GivesA e U w0.heap.size S0 m oi (evA (after s (ops.toList.take i) (αs.take i))) α → oi.wp e.P a w (wpAny e.P .any ops Q (k + (ops.size - n)) (listed.setIfInBounds i true)) Q := fun hG =>
      Oper.wp_mono (fun a' w' ⟨S', hI', hJ'⟩ => wpAny_headT he hH hn hs hsz hal hch hgo hsk hend k _ _ _ S' hI' hJ' hcount) (hgo listed a w S i oi d α hI hJ hA hin hr hdn hα hop hG)
    unfold wpOp
    simp only [hoi]
    unfold StepA at hst
    cases hg : oi.guard with
    | none =>
      rw [hg] at hst
      have hwt : Region.wanted oi (yielded ops a.tmps) = true := by simp [Region.wanted, hg]
      rw [if_pos hwt]
      exact .inl (go hst)
    | some jw =>
      obtain ⟨j, want⟩ := jw
      rw [hg] at hst
      obtain ⟨hjn, hjw⟩ := hA.guard j want hg
      have hrelD : ∀ dj, ((ops[j]?).bind (·.dst)) = some dj → ARel w S L (gs (after s (ops.toList.take i) (αs.take i)) dj) (a.tmps.getD dj undef) := fun dj hdj => hI.operand hH hn hal hA hin hall (t := dj) (fun j' p hj' hp hpt => by
        obtain ⟨p0, d0, hP0⟩ := headB.get hH hjn
        have hd0 : d0 = dj := by have := hdj; rw [hP0.op] at this; simp [hP0.dst] at this; exact this
        by_cases hjj : j' = j
        · rw [hjj]; exact hjw
        · exact absurd (by rw [hpt, hd0]) ((hP0.dep j' p hj' hp).1 hjj))
      rcases hst with ⟨b, hb1, hb2⟩ | ⟨hb1, hb2⟩
      rotate_left
      · simp only [Option.map_eq_some_iff] at hb1
        obtain ⟨dj, hd1, hd2⟩ := hb1
        have hdj : ((ops[j]?).bind (·.dst)) = some dj := by simpa using join_bind hd1
        have hrel := hrelD dj hdj
        rw [hd2] at hrel
        rw [wanted_no hg hdj hrel]
        subst hb2
        simp only [Bool.false_eq_true, if_false]
        exact wpAny_headT he hH hn hs hsz hal hch hgo hsk hend k _ _ _ S (hI.put hH hA hin hr hdn hα (fun _ h => h) hI.cls (Kept.refl _ _ _ _) rfl) (hsk listed a w S i oi d hJ hI hA hin hr hdn (by rw [hg]; simp)) hcount
      simp only [Option.map_eq_some_iff] at hb1
      obtain ⟨dj, hd1, hd2⟩ := hb1
      have hdj : ((ops[j]?).bind (·.dst)) = some dj := by simpa using join_bind hd1
      have hrel := hrelD dj hdj
      rw [hd2] at hrel
      have h4 := getD_bool hrel.bool
      have hwt : Region.wanted oi (yielded ops a.tmps) = decide (b = want) := by
        have h6 : yielded ops a.tmps j = some b := by unfold yielded; rw [hdj]; simp only [Option.bind_some, h4]
        simp only [Region.wanted, hg, h6]
        cases b <;> cases want <;> rfl
      rw [hwt]
      by_cases hbw : b = want
      · rw [if_pos hbw] at hb2
        simp only [hbw, decide_true, if_true]
        exact .inl (go hb2)
      · rw [if_neg hbw] at hb2
        subst hb2
        simp only [hbw, decide_false, Bool.false_eq_true, if_false]
        exact wpAny_headT he hH hn hs hsz hal hch hgo hsk hend k _ _ _ S (hI.put hH hA hin hr hdn hα (fun _ h => h) hI.cls (Kept.refl _ _ _ _) rfl) (hsk listed a w S i oi d hJ hI hA hin hr hdn (by rw [hg]; simp)) hcount
theorem simAfter {σ : St} (hH : headB ops n = true) (hn : n ≤ ops.size) (hal : αs.length = n) {listed : Array Bool} {a' : Act} {w' : World} {S' : Nat → Prop} (hI : InvA e U w0 S0 nt σ.m ops n σ.s αs L listed a' w' S') (hall : ∀ i, i < n → listed.getD i false = true) : Sim e U w0 S0 nt ⟨after σ.s (ops.toList.take n) αs, σ.m⟩ a' w' S' L := by
  refine ⟨hI.cls, fun t => ?_, hI.size, hI.defers, hI.kept⟩
  by_cases hex : ∃ (j : Nat) (p : Oper), j < n ∧ ops[j]? = some p ∧ p.dst = some t
  · obtain ⟨j, p, hj, hp, hpt⟩ := hex
    obtain ⟨p', d', hP⟩ := headB.get hH hj
    have hpp : p' = p := by have := hP.op; rw [hp] at this; injection this with this; exact this.symm
    subst hpp
    have hdt : d' = t := by have := hP.dst; rw [hpt] at this; injection this with this; exact this.symm
    subst hdt
    obtain ⟨α, hα⟩ : ∃ α, αs[j]? = some α := ⟨αs[j], List.getElem?_eq_getElem (by omega)⟩
    show ARel w' S' L (gs (after σ.s (ops.toList.take n) αs) d') _
    rw [gs_after_in (ops.toList.take n) αs σ.s j p' α (by rw [List.getElem?_take, if_pos hj]; simpa using hp) hα hpt (fun k q hk hq => by
      rw [List.getElem?_take] at hq
      split at hq
      · exact (hP.dep k q (by omega) (by simpa using hq)).1 hk
      · cases hq)]
    exact hI.done j p' d' α hj (hall j hj) hp hpt hα
  · have hno : ∀ (j : Nat) (p : Oper), j < n → ops[j]? = some p → p.dst ≠ some t := fun j p hj hp hd => hex ⟨j, p, hj, hp, hd⟩
    show ARel w' S' L (gs (after σ.s (ops.toList.take n) αs) t) _
    rw [gs_after_out _ _ _ (fun p hp => by
      obtain ⟨j, hj⟩ := List.mem_iff_getElem?.1 hp
      rw [List.getElem?_take] at hj
      split at hj
      · exact hno j p (by omega) (by simpa using hj)
      · cases hj)]
    exact hI.out t hno
end
/-- What follows the head, in whatever order. -/
def RunsT (e : Env) (ds : List (Option Nat)) (ops : Array Oper) (K : St → Prop) : Nat → Array Bool → St → Prop
  | 0, listed, σ => Region.ready .any ops listed = [] ∧ K σ
  | f + 1, listed, σ => (Region.ready .any ops listed = [] → K σ) ∧ ∀ i ∈ Region.ready .any ops listed, ∃ o, ops[i]? = some o ∧ o.guard = none ∧ StepOk e o σ (fun σ' => Runs e ds 0 [] σ' (RunsT e ds ops K f (listed.setIfInBounds i true)))
section
variable {e : Env} {U : Nat → Prop} {w0 : World} {S0 : Nat → Prop} {nt : Nat}
theorem RunsT_wp (he : e.Ok) {ops : Array Oper} {K : St → Prop} {Q : Exit → Act → World → Prop} (hQ : ∀ a w σ', K σ' → SimE e U w0 S0 nt σ' a w → Q .normal a w) (hd : ∀ o ∈ ops.toList, ∀ d, o.dst = some d → d < nt) :
    ∀ (f : Nat) (listed : Array Bool) (σ : St) (a : Act) (w : World), SimE e U w0 S0 nt σ a w → RunsT e (ops.toList.map (·.dst)) ops K f listed σ → wpAny e.P .any ops Q f listed a w
  | 0, listed, σ, a, w, hs, h => ⟨h.1, hQ a w σ h.2 hs⟩
  | f + 1, listed, σ, a, w, hs, h => by
    refine ⟨fun h0 => hQ a w σ (h.1 h0) hs, fun i hi => ?_⟩
    obtain ⟨o, ho, hg, hst⟩ := h.2 i hi
    unfold wpOp
    simp only [ho]
    have hw : Region.wanted o (yielded ops a.tmps) = true := by simp [Region.wanted, hg]
    rw [if_pos hw]
    have hmem : o ∈ ops.toList := List.mem_of_getElem? (by simpa using ho)
    refine .inl (Oper.wp_mono (fun a' w' ⟨σ', hr, hs'⟩ => ?_) (hst he U w0 S0 nt a w Q (hd o hmem) hs))
    exact hr he U w0 S0 nt a' w' ops.toList (fun _ a w => wpAny e.P .any ops Q f (listed.setIfInBounds i true) a w) rfl (fun o ho => by simp at ho) (fun a w σ'' hK hs'' => RunsT_wp he hQ hd f _ σ'' a w hs'' hK) hs'
/-- All that follows the first n waits for them. -/
def tailB (ops : Array Oper) (n : Nat) : Bool := (List.range ops.size).all fun i => decide (i < n) || (List.range n).all fun j => Region.waitsFor .any ops i j
def regT (ops : Array Oper) (n : Nat) : Bool := headB ops n && decide (n ≤ ops.size) && tailB ops n
theorem region_T (he : e.Ok) {id : Nat} {ops : Array Oper} {n : Nat} (hB : regT ops n = true) {K : St → Prop} {Q : Exit → Act → World → Prop} (hQ : ∀ a w σ', K σ' → SimE e U w0 S0 nt σ' a w → Q .normal a w) {σ : St} {a : Act} {w : World}
    (hd : ∀ o ∈ ops.toList, ∀ d, o.dst = some d → d < nt) (h : SimE e U w0 S0 nt σ a w) (hp : Runs e (ops.toList.map (·.dst)) (n + 1) (ops.toList.take n) σ (RunsT e (ops.toList.map (·.dst)) ops K (ops.size - n) (headArr ops.size n))) : (Code.region id ops true).wp e.P Q a w := by
  simp only [regT, Bool.and_eq_true, decide_eq_true_eq] at hB
  obtain ⟨⟨hH, hn⟩, hs0⟩ := hB
  have hs : ∀ i, n ≤ i → i < ops.size → ∀ j, j < n → Region.waitsFor .any ops i j = true := fun i h1 h2 j h3 => by
    have k1 := List.all_eq_true.1 hs0 i (List.mem_range.2 h2)
    simp only [Bool.or_eq_true, decide_eq_true_eq] at k1
    rcases k1 with k1 | k1
    · omega
    · exact List.all_eq_true.1 k1 j (List.mem_range.2 h3)
  obtain ⟨S, L, h1⟩ := h.drew he
  refine wp_region_any he.mixed ?_
  have hlen : (ops.toList.take n).length = n := by simp; omega
  have hp' : Runs e (ops.toList.map (·.dst)) ((ops.toList.take n).length + 1) (ops.toList.take n ++ []) σ (RunsT e (ops.toList.map (·.dst)) ops K (ops.size - n) (headArr ops.size n)) := by rw [List.append_nil, hlen]; exact hp
  obtain ⟨αs, hal, hch, hrest⟩ := runs_chain (U := U) he w0.heap.size S0 ops.toList [] 1 (ops.toList.take n) σ (fun h => absurd h (by decide)) hp'
  rw [hlen] at hal
  simp only [Runs] at hrest
  have inv0 : InvA e U w0 S0 nt σ.m ops n σ.s αs L (Array.replicate ops.size false) a { w with drawn := w.drawn + 1 } S :=
    ⟨⟨by simp, fun j oj _ hl => (by rw [getD_replicate_false] at hl; cases hl), fun t _ ht => getD_in (by simpa using ht) (getD_replicate_false _ _)⟩, h1.size, h1.defers, h1.cls, h1.kept, fun t _ => h1.rel t, fun i o d α _ hl => (by rw [getD_replicate_false] at hl; cases hl)⟩
  have H := wpAny_headT (e := e) (L := L) (Q := Q) he hH hn hs (fun i o d hi ho hdd => hd o (List.mem_iff_getElem?.2 ⟨i, by simpa using ho⟩) d hdd) hal hch (goStep_true hH Q) (fun _ _ _ _ _ _ _ _ _ _ _ _ _ _ => trivial) (fun listed a' w' S' hI _ hall => ?_) n _ a _ S inv0 trivial ?_
  · rw [show n + (ops.size - n) = ops.size by omega] at H
    exact H
  · exact RunsT_wp he hQ hd _ _ _ a' w' ⟨S', L, simAfter hH hn hal hI hall⟩ hrest
  · rw [List.countP_eq_length.2]
    · simp
    · intro i hi
      have hi' := List.mem_range.1 hi
      have hsz : i < (Array.replicate ops.size false).size := by simp; omega
      rw [getD_ftt hsz, getD_replicate_false]
      rfl
end

/-! Something is appended to a slice without room, among operations whose order is not fixed. -/
section
variable {e : Env} {U : Nat → Prop} {w0 : World} {S0 : Nat → Prop} {nt : Nat}
/-- An operation that appends to a slice without room. -/
structure AppAt (P : Program) (σ : St) (o : Oper) (d ety sz : Nat) (rows : List (List C)) : Prop where
  at' : ∃ (x y : Operand) (args : Array Operand) (ts : Array TypeId) (t by' : Nat) (r1 ys : List (List C)), o.op = .call ⟨.builtin .append, args, ts⟩ ∧ args.toList = [x, y] ∧ evA σ.s x = .d (.clip r1) ∧ slA [] (evA σ.s y) = some ys ∧ ts[0]? = some t ∧ ts[1]? = some t ∧ bytesT P t = some (ety, sz, by') ∧
    rowsB sz r1 = true ∧ rowsB sz ys = true ∧ r1.length + ys.length ≤ maxApp ∧ (r1 = [] ∨ ys ≠ []) ∧ rows = r1 ++ ys
  dst : o.dst = some d
  guard : o.guard = none
theorem slA_data {m : List (Nat × Bk)} {y : A} {ys : List (List C)} (h : slA [] y = some ys) : slA m y = some ys := by
  unfold slA at h ⊢
  split at h <;> simp_all [gm, bufA]
theorem AppAt.run (he : e.Ok) {σ : St} {o : Oper} {d ety sz : Nat} {rows : List (List C)} (hA : AppAt e.P σ o d ety sz rows) {m : List (Nat × Bk)} {w : World} {S : Nat → Prop} {L : Lay} {ρv : Operand → Value} (hC : Cls e U w0.heap.size S0 m w S L) (hr : ∀ x, x ∈ o.op.operands → ARel w S L (evA σ.s x) (ρv x)) :
    ∃ v' w', (execOp ρv o).run e.P w = .ok (.value v') w' ∧ BufRel w' S ety sz rows v' ∧ Kept e.D (fun _ => False) w.heap.size w w' ∧ ∀ g, vblk v' = some g → w.heap.size ≤ g := by
  obtain ⟨x, y, args, ts, t, by', r1, ys, ho, hargs, hx, hy, h0, h1, hb, hr1, hys, hle, hne, rfl⟩ := hA.at'
  have hx' := hr x (by rw [ho]; simp [Op.operands, Call.operands, hargs, ← Array.mem_toList_iff])
  have hy' := hr y (by rw [ho]; simp [Op.operands, Call.operands, hargs, ← Array.mem_toList_iff])
  rw [hx] at hx'
  have hx' : DRel w S (.clip r1) (ρv x) := hx'
  have hyl := rowsB_iff.1 hys
  have hyf := slA_first (σ := ⟨[], m⟩) hC (slA_data hy) hy' hyl
  obtain ⟨v', w', hrun, hbuf, τ, hk, hτ, hg⟩ := append_own (σ := ⟨[], m⟩) (ty := o.type) he hC h0 h1 hb (.inr ⟨hx', hne⟩) (rowsB_iff.1 hr1) hyl hle hyf
  have hτn : ∀ g, τ ≠ some g := fun g e1 => by
    obtain ⟨h2, h3⟩ := hτ g e1
    obtain ⟨h4, a, n, h5⟩ := hx'
    rw [h5] at h2 h3 h4
    simp only [Rep] at h4
    obtain ⟨A, n', cap, h6, h7, _, _, h8⟩ := h4
    injection h6 with h6 h9 h10
    subst h6 h9
    cases a with
    | none => simp [vblk] at h2
    | some q =>
      simp only [vblk] at h2
      split at h2
      · cases h2
      · rename_i hn0
        injection h2 with h2
        obtain ⟨b, off, h11, hS, _⟩ := h8 (by omega)
        injection h11 with h11
        obtain ⟨_, _, h12⟩ := h3
        rcases h12 with ⟨h12, _⟩ | ⟨g', cap', cur, h13, _, _, h14, _⟩
        · rw [h12] at h7; simp at h7; omega
        · injection h13 with h13 _ _
          injection h13 with h13
          rw [h13] at h11
          injection h11 with h11
          exact h14 (h11 ▸ hS)
  refine ⟨v', w', ?_, hbuf, ⟨hk.os, hk.tape, hk.output, hk.drawn, hk.size, fun k hk' hn => hk.block k hk' (fun e1 => hτn k e1)⟩, fun g hg' => ?_⟩
  · have ha : args.map ρv = #[ρv x, ρv y] := by apply Array.toList_inj.1; simp [hargs]
    simp [execOp, ho, resolve, invoke, builtin, ha, hrun, Result.andThen]
  · rcases hg g hg' with e1 | e1
    · exact (hτn g e1).elim
    · exact e1
theorem AppAt.gives (he : e.Ok) {σ : St} {o : Oper} {d ety sz : Nat} {rows : List (List C)} (hA : AppAt e.P σ o d ety sz rows) {m : List (Nat × Bk)} : GivesA e U w0.heap.size S0 m o (evA σ.s) .undef := by
  intro w S L ρv hC hr
  obtain ⟨v', w', h1, _, h3, _⟩ := hA.run he hC hr
  have hk : Kept e.D e.E w.heap.size w w' := ⟨h3.os, h3.tape, h3.output, h3.drawn, h3.size, fun k hk hn => h3.block k hk id⟩
  unfold Go.Proofs.YtpbikjkjfojjiaaGreat.gives
  rw [h1]
  exact ⟨S, ⟨fun _ h => h, fun _ h => .inl h⟩, hC.later hk (he.keep _ _ h3.size (fun b hE => h3.block b (Nat.lt_of_lt_of_le (hC.ein b hE) hC.bsz) id) hC.g) (fun _ h => h) (fun _ h => .inl h), hk, trivial⟩
/-- What is known of the slice that the operation p of the head has made. -/
def BornA (base p d ety sz : Nat) (rows : List (List C)) (m : List (Nat × Bk)) (L : Lay) (listed : Array Bool) (a : Act) (w : World) (S : Nat → Prop) : Prop :=
  listed.getD p false = true → (∀ g, vblk (a.tmps.getD d undef) = some g → base ≤ g ∧ g < w.heap.size ∧ ¬ S g ∧ ∀ k bk, gm m k = some bk → ¬ blkOf L k bk g) ∧ BufRel w S ety sz rows (a.tmps.getD d undef)
theorem chain_app {m : List (Nat × Bk)} {base : Nat} {l : List Oper} : ∀ (xs ys : List Oper) (s : List (Nat × A)) (us bs : List A), us.length = xs.length → Chain e U base S0 m l xs s us → Chain e U base S0 m l ys (after s xs us) bs → Chain e U base S0 m l (xs ++ ys) s (us ++ bs)
  | [], ys, s, [], bs, _, _, h2 => h2
  | x :: xs, ys, s, a :: us, bs, hl, h1, h2 => ⟨h1.1, chain_app xs ys _ us bs (by simpa using hl) h1.2 h2⟩
  | [], _, _, _ :: _, _, hl, _, _ => by simp at hl
  | _ :: _, _, _, [], _, hl, _, _ => by simp at hl
theorem after_app : ∀ (xs ys : List Oper) (s : List (Nat × A)) (us bs : List A), us.length = xs.length → after s (xs ++ ys) (us ++ bs) = after (after s xs us) ys bs
  | [], ys, s, [], bs, _ => rfl
  | x :: xs, ys, s, a :: us, bs, hl => after_app xs ys _ us bs (by simpa using hl)
  | [], _, _, _ :: _, _, hl => by simp at hl
  | _ :: _, _, _, [], _, hl => by simp at hl
theorem runs_chain1 (he : e.Ok) (base : Nat) (S0 : Nat → Prop) (l : List Oper) {K : St → Prop} {k : Nat} {os : List Oper} {σ : St} (hk : k = os.length + 1) (h : Runs e (l.map (·.dst)) k os σ K) : ∃ αs, αs.length = os.length ∧ Chain e U base S0 σ.m l os σ.s αs ∧ K ⟨after σ.s os αs, σ.m⟩ := by
  subst hk
  have h' : Runs e (l.map (·.dst)) (os.length + 1) (os ++ []) σ K := by rw [List.append_nil]; exact h
  obtain ⟨αs, h1, h2, h3⟩ := runs_chain (U := U) he base S0 l [] 1 os σ (fun h => absurd h (by decide)) h'
  simp only [Runs] at h3
  exact ⟨αs, h1, h2, h3⟩
set_option maxHeartbeats 2000000 in
theorem region_A (he : e.Ok) {id : Nat} {ops : Array Oper} {n p d ety sz : Nat} {rows : List (List C)} {o0 : Oper} (hop : ops[p]? = some o0) (hpn : p < n) (hB : regB ops n = true) {K : St → Prop} {Q : Exit → Act → World → Prop} (hQ : ∀ a w σ', K σ' → SimE e U w0 S0 nt σ' a w → Q .normal a w) {σ : St} {a : Act} {w : World}
    (hd : ∀ o ∈ ops.toList, ∀ d, o.dst = some d → d < nt) (h : SimE e U w0 S0 nt σ a w)
    (hp : Runs e (ops.toList.map (·.dst)) (p + 1) (ops.toList.take p) σ (fun σ1 => AppAt e.P σ1 o0 d ety sz rows ∧ Runs e (ops.toList.map (·.dst)) (n - p) ((ops.toList.take n).drop (p + 1)) ⟨(d, .undef) :: σ1.s, σ1.m⟩ (fun σ2 => Runs e (ops.toList.map (·.dst)) 0 (ops.toList.drop n) ⟨(d, .buf d) :: killK d σ2.s, (d, .buf none ety sz rows) :: remM d σ2.m⟩ K))) : (Code.region id ops true).wp e.P Q a w := by
  simp only [regB, Bool.and_eq_true, Bool.or_eq_true, decide_eq_true_eq] at hB
  obtain ⟨⟨⟨hH, hn⟩, hs⟩, hsq⟩ := hB
  obtain ⟨S, L, h1⟩ := h.drew he
  refine wp_region_any he.mixed ?_
  have hlen : (ops.toList.take p).length = p := by simp; omega
  have hlen2 : ((ops.toList.take n).drop (p + 1)).length = n - p - 1 := by simp; omega
  obtain ⟨αs0, hal0, hch0, hrest0⟩ := runs_chain1 (U := U) he w0.heap.size S0 ops.toList (by rw [hlen]) hp
  rw [hlen] at hal0
  obtain ⟨hApp, hrest1⟩ := hrest0
  obtain ⟨αs1, hal1, hch1, hrest2⟩ := runs_chain1 (U := U) he w0.heap.size S0 ops.toList (by rw [hlen2]; omega) hrest1
  rw [hlen2] at hal1
  have hpl : ops.toList[p]? = some o0 := by simpa using hop
  have htake : ops.toList.take n = ops.toList.take p ++ (o0 :: (ops.toList.take n).drop (p + 1)) := by
    have e1 : (ops.toList.take n)[p]? = some o0 := by rw [List.getElem?_take, if_pos hpn]; exact hpl
    have e2 : (ops.toList.take n).drop p = o0 :: (ops.toList.take n).drop (p + 1) := by
      rw [List.drop_eq_getElem_cons (List.getElem?_eq_some_iff.1 e1).1, (List.getElem?_eq_some_iff.1 e1).2]
    have e3 : (ops.toList.take n).take p = ops.toList.take p := by rw [List.take_take, Nat.min_eq_left (by omega)]
    rw [← e2, ← e3, List.take_append_drop]
  have hal : (αs0 ++ (A.undef :: αs1)).length = n := by simp [hal0, hal1]; omega
  have hset : setA (after σ.s (ops.toList.take p) αs0) o0.dst A.undef = (d, A.undef) :: after σ.s (ops.toList.take p) αs0 := by rw [hApp.dst]; rfl
  have hch : Chain e U w0.heap.size S0 σ.m ops.toList (ops.toList.take n) σ.s (αs0 ++ (A.undef :: αs1)) := by
    rw [htake]
    refine chain_app _ _ _ _ _ (by rw [hal0, hlen]) hch0 ⟨?_, ?_⟩
    · unfold StepA
      rw [hApp.guard]
      exact hApp.gives he
    · rw [hset]; exact hch1
  have haf : after σ.s (ops.toList.take n) (αs0 ++ (A.undef :: αs1)) = after ((d, A.undef) :: after σ.s (ops.toList.take p) αs0) ((ops.toList.take n).drop (p + 1)) αs1 := by
    conv => lhs; rw [htake]
    rw [after_app _ _ _ _ _ (by rw [hal0, hlen])]
    simp only [after, hset]
  have inv0 : InvA e U w0 S0 nt σ.m ops n σ.s (αs0 ++ (A.undef :: αs1)) L (Array.replicate ops.size false) a { w with drawn := w.drawn + 1 } S :=
    ⟨⟨by simp, fun j oj _ hl => (by rw [getD_replicate_false] at hl; cases hl), fun t _ ht => getD_in (by simpa using ht) (getD_replicate_false _ _)⟩, h1.size, h1.defers, h1.cls, h1.kept, fun t _ => h1.rel t, fun i o d α _ hl => (by rw [getD_replicate_false] at hl; cases hl)⟩
  have hJ0 : BornA w0.heap.size p d ety sz rows σ.m L (Array.replicate ops.size false) a { w with drawn := w.drawn + 1 } S := fun hl => by rw [getD_replicate_false] at hl; cases hl
  have hA0 : ∀ {i' : Nat} {o' : Oper} {d' : Nat}, HeadAt ops n i' o' d' → i' ≠ p → d' ≠ d := fun hA hne e' => by
    have := (hA.dep p _ hpn hop).1 (Ne.symm hne)
    exact this (by rw [hApp.dst, e'])
  have hgo : GoStep e U w0 S0 nt σ.m ops n σ.s (αs0 ++ (A.undef :: αs1)) L (BornA w0.heap.size p d ety sz rows σ.m L) Q := by
    intro listed a w S i' o' d' α hI hJ hA hin hr hdn hα hopd hG'
    by_cases hip : i' = p
    · subst hip
      have ho' : o' = o0 := by have := hA.op; rw [hop] at this; injection this with this; exact this.symm
      subst ho'
      have hdd : d' = d := by have := hA.dst; rw [hApp.dst] at this; injection this with this; exact this.symm
      subst hdd
      have hau : α = A.undef := by rw [List.getElem?_append_right (by omega), hal0] at hα; simpa using hα.symm
      subst hau
      have hC := hI.cls
      have htk : (αs0 ++ (A.undef :: αs1)).take i' = αs0 := by rw [← hal0]; exact List.take_left
      rw [htk] at hopd
      obtain ⟨v', w', q1, q2, q3, q4⟩ := hApp.run he hC hopd
      have hk : Kept e.D e.E w.heap.size w w' := ⟨q3.os, q3.tape, q3.output, q3.drawn, q3.size, fun k hk hn => q3.block k hk (fun h => h)⟩
      have hC' : Cls e U w0.heap.size S0 σ.m w' S L := hC.later hk (he.keep _ _ q3.size (fun b hE => q3.block b (Nat.lt_of_lt_of_le (hC.ein b hE) hC.bsz) (fun h => h)) hC.g) (fun _ h => h) (fun _ h => .inl h)
      unfold Oper.wp
      rw [q1, Oper.upon_value]
      have hput : (a.put o'.dst v').tmps.getD d' undef = v' := by
        rw [hA.dst, getD_put (by rw [hI.size]; exact hdn)]
        simp
      refine ⟨S, hI.put hH hA hin hr hdn hα (fun _ h => h) hC' hk trivial, fun _ => ?_⟩
      rw [hput]
      refine ⟨fun g hg => ?_, q2⟩
      have hge := q4 g hg
      refine ⟨Nat.le_trans hC.bsz hge, ?_, fun hs => by have := (hC.sin _ hs).1; omega, fun k bk hk hg => by have := hC.blk_lt hk hg; omega⟩
      exact (Own1.lt (L := ⟨fun _ => 0, fun _ => v'⟩) (k := 0) (bk := .buf none ety sz rows) ⟨by simp, q2⟩ hg).1
    · refine gives_wp (hG' w S L a.eval hI.cls hopd) fun v' w' ⟨S', hS, hC, hk, hv'⟩ => ⟨S', hI.put hH hA hin hr hdn hα hS.1 hC hk hv', fun hl => ?_⟩
      rw [getD_set_ne false hip] at hl
      obtain ⟨q1, q2⟩ := hJ hl
      have hput : (a.put o'.dst v').tmps.getD d undef = a.tmps.getD d undef := by
        rw [hA.dst, getD_put (by rw [hI.size]; exact hdn), if_neg (Ne.symm (hA0 hA hip))]
      rw [hput]
      have hnS : ∀ g, vblk (a.tmps.getD d undef) = some g → ¬ S' g := fun g hg hs => by
        obtain ⟨_, k2, k3, _⟩ := q1 g hg
        rcases hS.2 g hs with hs | hs
        · exact k3 hs
        · omega
      refine ⟨fun g hg => ⟨(q1 g hg).1, Nat.lt_of_lt_of_le (q1 g hg).2.1 hk.size, hnS g hg, (q1 g hg).2.2.2⟩, q2.keep hk.size (hI.cls.cell hk) hS.1 fun g hg => ⟨hk.block g (q1 g hg).2.1 (fun hE => by have := hI.cls.ein g hE; have := (q1 g hg).1; omega), hnS g hg⟩⟩
  have hskp : ∀ (listed : Array Bool) (a : Act) (w : World) (S : Nat → Prop) (i' : Nat) (o' : Oper) (d' : Nat), BornA w0.heap.size p d ety sz rows σ.m L listed a w S → InvA e U w0 S0 nt σ.m ops n σ.s (αs0 ++ (A.undef :: αs1)) L listed a w S → HeadAt ops n i' o' d' → i' < n → i' ∈ Region.ready .any ops listed → d' < nt → o'.guard ≠ none → BornA w0.heap.size p d ety sz rows σ.m L (listed.setIfInBounds i' true) (a.put o'.dst undef) w S := by
    intro listed a w S i' o' d' hJ hI hA hin hr hdn hg hl
    have hip : i' ≠ p := fun e' => by
      subst e'
      have := hA.op
      rw [hop] at this
      injection this with this
      rw [← this] at hg
      exact hg hApp.guard
    rw [getD_set_ne false hip] at hl
    have hput : (a.put o'.dst undef).tmps.getD d undef = a.tmps.getD d undef := by
      rw [hA.dst, getD_put (by rw [hI.size]; exact hdn), if_neg (Ne.symm (hA0 hA hip))]
    rw [hput]
    exact hJ hl
  have H := wpAny_headA (e := e) (L := L) (Q := Q) he hH hn (fun hlt => by
      rcases hs with hs | hs
      · omega
      · exact hs) hsq (fun i o d hi ho hdd => hd o (List.mem_iff_getElem?.2 ⟨i, by simpa using ho⟩) d hdd) hal hch hgo hskp (fun listed a' w' S' hI hJ hall => ?_) n _ a _ S inv0 hJ0 ?_
  · rw [show n + (ops.size - n) = ops.size by omega] at H
    exact H
  · have hsim := simAfter hH hn hal hI hall
    rw [haf] at hsim
    obtain ⟨q1, q2⟩ := hJ (hall p hpn)
    have hdn : d < nt := hd _ (List.mem_iff_getElem?.2 ⟨p, hpl⟩) d hApp.dst
    have hsimB := hsim.bornE (bk := .buf none ety sz rows) (w' := w') (b' := 0) (v' := a'.tmps.getD d undef) (u := a'.tmps.getD d undef) (τ := vblk (a'.tmps.getD d undef)) (s1 := after ((d, A.undef) :: after σ.s (ops.toList.take p) αs0) ((ops.toList.take n).drop (p + 1)) αs1) (m1 := σ.m) (α := .buf d) (S' := S') hdn (fun _ h => h) (fun _ h => .inl h) (fun t => .inl rfl) (fun k x h => h)
      (fun g hg => ⟨(q1 g hg).2.2.1, fun hE => by have := hI.cls.ein _ hE; have := (q1 g hg).1; omega, .inl (q1 g hg).1⟩) (fun k x g hkd hx hg hb => (q1 g hg).2.2.2 k x hx hb)
      (Kept.refl _ _ _ _) hI.cls.g (by
        simp only [Own1, if_true]
        exact ⟨by simp, q2⟩)
      (fun g hg => by simp only [blkOf, if_true] at hg; exact .inl hg) (by simp [ARel])
    have hsimD : SimE e U w0 S0 nt ⟨(d, .buf d) :: killK d (after ((d, A.undef) :: after σ.s (ops.toList.take p) αs0) ((ops.toList.take n).drop (p + 1)) αs1), (d, .buf none ety sz rows) :: remM d σ.m⟩ a' w' := by
      obtain ⟨S2, L2, k1, k2, k3, k4, k5⟩ := hsimB
      refine ⟨S2, L2, k1, fun t => ?_, hI.size, hI.defers, k5⟩
      have := k2 t
      rw [getD_put (by rw [hI.size]; exact hdn)] at this
      by_cases ht : t = d
      · rw [if_pos ht] at this; rw [ht]; rw [ht] at this; exact this
      · rw [if_neg ht] at this; exact this
    have := hrest2 he U w0 S0 nt a' w' ops.toList Q rfl (fun o ho => hd o (List.mem_of_mem_drop ho)) hQ hsimD
    simpa using this
  · rw [List.countP_eq_length.2]
    · simp
    · intro i hi
      have hi' := List.mem_range.1 hi
      have hsz : i < (Array.replicate ops.size false).size := by simp; omega
      rw [getD_ftt hsz, getD_replicate_false]
      rfl
end

section
variable {e : Env} {mask : Nat} {Q : PX → St → Prop} {ds : List (Option Nat)}
theorem okDst {nt : Nat} {id : Nat} {ops : Array Oper} {fl : Bool} (hok : okCode nt (.region id ops fl) = true) : ∀ o ∈ ops.toList, ∀ d, o.dst = some d → d < nt := fun o ho d hd => by
  simp only [okCode] at hok
  have := List.all_eq_true.1 hok o ho
  rw [hd] at this
  simpa using this
theorem pwp_regT {id : Nat} {ops : Array Oper} {σ : St} (n : Nat) (hn : regT ops n = true) (hp : Runs e (ops.toList.map (·.dst)) (n + 1) (ops.toList.take n) σ (RunsT e (ops.toList.map (·.dst)) ops (TrimK mask Q) (ops.size - n) (headArr ops.size n))) : pwp e mask (.region id ops true) σ Q := fun he U w0 S0 nt a w hok hs =>
  region_T he hn (fun a w σ' h1 h2 => ⟨_, h1, h2.weak (fun t => gs_trimS mask t σ'.s) (fun _ _ h => h)⟩) (okDst hok) hs hp
theorem pwp_regA {id : Nat} {ops : Array Oper} {σ : St} {n p d ety sz : Nat} {rows : List (List C)} {o0 : Oper} (hop : ops[p]? = some o0) (hpn : p < n) (hn : regB ops n = true) (hp : Runs e (ops.toList.map (·.dst)) (p + 1) (ops.toList.take p) σ (fun σ1 => AppAt e.P σ1 o0 d ety sz rows ∧ Runs e (ops.toList.map (·.dst)) (n - p) ((ops.toList.take n).drop (p + 1)) ⟨(d, .undef) :: σ1.s, σ1.m⟩ (fun σ2 => Runs e (ops.toList.map (·.dst)) 0 (ops.toList.drop n) ⟨(d, .buf d) :: killK d σ2.s, (d, .buf none ety sz rows) :: remM d σ2.m⟩ (TrimK mask Q)))) : pwp e mask (.region id ops true) σ Q := fun he U w0 S0 nt a w hok hs =>
  region_A he hop hpn hn (fun a w σ' h1 h2 => ⟨_, h1, h2.weak (fun t => gs_trimS mask t σ'.s) (fun _ _ h => h)⟩) (okDst hok) hs hp
/-- A region in which something is appended to a slice without room: by the operation p, among the first n. -/
theorem gA {id : Nat} {l l1 l2 l3 : List Oper} {s s1 s2 s3 : List (Nat × A)} {m m1 m2 m3 : List (Nat × Bk)} {x y : Operand} {t ty d ety sz by' : Nat} {pos : String} {aft : Array Edge} {r1 ys : List (List C)} (n p : Nat) (hle : r1.length + ys.length ≤ maxApp) (hne : r1 = [] ∨ ys ≠ []) (hK : Runs e ds 0 l3 ⟨(d, .buf d) :: s3, (d, .buf none ety sz (r1 ++ ys)) :: m3⟩ (TrimK mask Q))
    (hop : l[p]? = some ⟨some d, .call ⟨.builtin .append, #[x, y], #[t, t]⟩, ty, pos, aft, none⟩ := by exact rfl) (hB : regB l.toArray n = true := by decide +kernel) (hpn : p < n := by decide) (hds : l.map (·.dst) = ds := by exact rfl) (h1l : l.take p = l1 := by exact rfl) (h2l : (l.take n).drop (p + 1) = l2 := by exact rfl) (h3l : l.drop n = l3 := by exact rfl)
    (h1 : runOps e.P ds (p + 1) l1 ⟨s, m⟩ = .done ⟨s1, m1⟩ := by simp only [pz, ↓reduceIte, Nat.reduceEqDiff, Nat.reduceAdd, Nat.reduceSub, Nat.reduceMul, Nat.reduceLeDiff, Nat.reduceBEq, Bool.false_eq_true, decide_true, decide_false, Int.reduceLE, Int.reduceToNat, Int.reduceLT, Int.reduceEq, eq_self, Nat.reduceShiftRight, Nat.reduceAnd, Nat.reduceBneDiff, F]; exact rfl) (hx : evA s1 x = .d (.clip r1) := by first | (simp only [pz, ↓reduceIte, Nat.reduceEqDiff, Nat.reduceAdd, Nat.reduceSub, Nat.reduceMul, Nat.reduceLeDiff, Nat.reduceBEq, Bool.false_eq_true, decide_true, decide_false, Int.reduceLE, Int.reduceToNat, Int.reduceLT, Int.reduceEq, eq_self, Nat.reduceShiftRight, Nat.reduceAnd, Nat.reduceBneDiff, F]; done) | (simp only [pz, ↓reduceIte, Nat.reduceEqDiff, Nat.reduceAdd, Nat.reduceSub, Nat.reduceMul, Nat.reduceLeDiff, Nat.reduceBEq, Bool.false_eq_true, decide_true, decide_false, Int.reduceLE, Int.reduceToNat, Int.reduceLT, Int.reduceEq, eq_self, Nat.reduceShiftRight, Nat.reduceAnd, Nat.reduceBneDiff, F]; exact rfl)) (hy : slA [] (evA s1 y) = some ys := by first | (simp only [pz, ↓reduceIte, Nat.reduceEqDiff, Nat.reduceAdd, Nat.reduceSub, Nat.reduceMul, Nat.reduceLeDiff, Nat.reduceBEq, Bool.false_eq_true, decide_true, decide_false, Int.reduceLE, Int.reduceToNat, Int.reduceLT, Int.reduceEq, eq_self, Nat.reduceShiftRight, Nat.reduceAnd, Nat.reduceBneDiff, F]; done) | (simp only [pz, ↓reduceIte, Nat.reduceEqDiff, Nat.reduceAdd, Nat.reduceSub, Nat.reduceMul, Nat.reduceLeDiff, Nat.reduceBEq, Bool.false_eq_true, decide_true, decide_false, Int.reduceLE, Int.reduceToNat, Int.reduceLT, Int.reduceEq, eq_self, Nat.reduceShiftRight, Nat.reduceAnd, Nat.reduceBneDiff, F]; exact rfl))
    (hb : bytesT e.P t = some (ety, sz, by') := by first | (simp only [pz, ↓reduceIte, Nat.reduceEqDiff, Nat.reduceAdd, Nat.reduceSub, Nat.reduceMul, Nat.reduceLeDiff, Nat.reduceBEq, Bool.false_eq_true, decide_true, decide_false, Int.reduceLE, Int.reduceToNat, Int.reduceLT, Int.reduceEq, eq_self, Nat.reduceShiftRight, Nat.reduceAnd, Nat.reduceBneDiff, F]; done) | (simp only [pz, ↓reduceIte, Nat.reduceEqDiff, Nat.reduceAdd, Nat.reduceSub, Nat.reduceMul, Nat.reduceLeDiff, Nat.reduceBEq, Bool.false_eq_true, decide_true, decide_false, Int.reduceLE, Int.reduceToNat, Int.reduceLT, Int.reduceEq, eq_self, Nat.reduceShiftRight, Nat.reduceAnd, Nat.reduceBneDiff, F]; exact rfl)) (hr1 : rowsB sz r1 = true := by simp only [pz, ↓reduceIte, Nat.reduceEqDiff, Nat.reduceAdd, Nat.reduceSub, Nat.reduceMul, Nat.reduceLeDiff, Nat.reduceBEq, Bool.false_eq_true, decide_true, decide_false, Int.reduceLE, Int.reduceToNat, Int.reduceLT, Int.reduceEq, eq_self, Nat.reduceShiftRight, Nat.reduceAnd, Nat.reduceBneDiff, F]) (hys : rowsB sz ys = true := by simp only [pz, ↓reduceIte, Nat.reduceEqDiff, Nat.reduceAdd, Nat.reduceSub, Nat.reduceMul, Nat.reduceLeDiff, Nat.reduceBEq, Bool.false_eq_true, decide_true, decide_false, Int.reduceLE, Int.reduceToNat, Int.reduceLT, Int.reduceEq, eq_self, Nat.reduceShiftRight, Nat.reduceAnd, Nat.reduceBneDiff, F])
    (h2 : runOps e.P ds (n - p) l2 ⟨(d, .undef) :: s1, m1⟩ = .done ⟨s2, m2⟩ := by simp only [pz, ↓reduceIte, Nat.reduceEqDiff, Nat.reduceAdd, Nat.reduceSub, Nat.reduceMul, Nat.reduceLeDiff, Nat.reduceBEq, Bool.false_eq_true, decide_true, decide_false, Int.reduceLE, Int.reduceToNat, Int.reduceLT, Int.reduceEq, eq_self, Nat.reduceShiftRight, Nat.reduceAnd, Nat.reduceBneDiff, F]; exact rfl) (hk : killK d s2 = s3 := by simp only [pz, ↓reduceIte, Nat.reduceEqDiff, Nat.reduceAdd, Nat.reduceSub, Nat.reduceMul, Nat.reduceLeDiff, Nat.reduceBEq, Bool.false_eq_true, decide_true, decide_false, Int.reduceLE, Int.reduceToNat, Int.reduceLT, Int.reduceEq, eq_self, Nat.reduceShiftRight, Nat.reduceAnd, Nat.reduceBneDiff]; exact rfl) (hr : remM d m2 = m3 := by simp only [pz, ↓reduceIte, Nat.reduceEqDiff, Nat.reduceAdd, Nat.reduceSub, Nat.reduceMul, Nat.reduceLeDiff, Nat.reduceBEq, Bool.false_eq_true, decide_true, decide_false, Int.reduceLE, Int.reduceToNat, Int.reduceLT, Int.reduceEq, eq_self, Nat.reduceShiftRight, Nat.reduceAnd, Nat.reduceBneDiff]; exact rfl) : pwp e mask (.region id l.toArray true) ⟨s, m⟩ Q := by
  subst hds h1l h2l h3l hk hr
  exact pwp_regA (ops := l.toArray) (by simpa using hop) hpn hB (runs_done h1 ⟨⟨⟨x, y, #[x, y], #[t, t], t, by', r1, ys, rfl, rfl, hx, hy, rfl, rfl, hb, hr1, hys, hle, hne, rfl⟩, rfl, rfl⟩, runs_done h2 hK⟩)
/-- A region behind whose first n operations the order is not fixed. -/
theorem gTree {id : Nat} {l l1 : List Oper} {s s1 : List (Nat × A)} {m m1 : List (Nat × Bk)} (n : Nat) (hK : RunsT e ds l.toArray (TrimK mask Q) (l.length - n) (headArr l.length n) ⟨s1, m1⟩) (hB : regT l.toArray n = true := by decide +kernel) (hds : l.map (·.dst) = ds := by exact rfl) (h1l : l.take n = l1 := by exact rfl)
    (h1 : runOps e.P ds (n + 1) l1 ⟨s, m⟩ = .done ⟨s1, m1⟩ := by simp only [pz, ↓reduceIte, Nat.reduceEqDiff, Nat.reduceAdd, Nat.reduceSub, Nat.reduceMul, Nat.reduceLeDiff, Nat.reduceBEq, Bool.false_eq_true, decide_true, decide_false, Int.reduceLE, Int.reduceToNat, Int.reduceLT, Int.reduceEq, eq_self, Nat.reduceShiftRight, Nat.reduceAnd, Nat.reduceBneDiff, F]; exact rfl) : pwp e mask (.region id l.toArray true) ⟨s, m⟩ Q := by
  subst hds h1l
  exact pwp_regT (ops := l.toArray) n hB (runs_done h1 hK)
theorem stepOk_run {K : St → Prop} {o : Oper} {s s1 : List (Nat × A)} {m m1 : List (Nat × Bk)} (hg : o.guard = none) (hal : ∀ t, o.op ≠ .alloc t) (hrun : runOps e.P ds 0 [o] ⟨s, m⟩ = .done ⟨s1, m1⟩) (hK : Runs e ds 0 [] ⟨s1, m1⟩ K) : StepOk e o ⟨s, m⟩ (fun σ' => Runs e ds 0 [] σ' K) := by
  have key : ∀ σ, ResQ e ds (fun σ' => Runs e ds 0 [] σ' K) (Res.done σ) → Runs e ds 0 [] σ (fun σ' => Runs e ds 0 [] σ' K) := fun σ h => runs_nil h
  have hr : runOps e.P ds 0 [o] ⟨s, m⟩ = stepR e.P o.dst o.type 0 0 [] (fun σ => .done σ) o.op ⟨s, m⟩ := by
    obtain ⟨od, oo, ot, op, oa, og⟩ := o
    simp only at hg
    subst hg
    rfl
  rw [hr] at hrun
  have h := stepR_sound (e := e) (ds := ds) (os := []) (K := fun σ' => Runs e ds 0 [] σ' K) (n := 0) (q := 0) (next := fun σ => .done σ) key (o := o) (σ := ⟨s, m⟩) (.inl rfl) (by rw [hrun]; exact hK)
  have h : StepOk e o ⟨s, m⟩ (fun σ' => Runs e ds 0 [] σ' (fun σ' => Runs e ds 0 [] σ' K)) := h
  intro he U w0 S0 nt a w Q hd hs
  refine Oper.wp_mono (fun a' w' ⟨σ', h1, h2⟩ => ⟨σ', ?_, h2⟩) (h he U w0 S0 nt a w Q hd hs)
  intro he U w0 S0 nt a w ops Q hds hd hQ hs
  exact h1 he U w0 S0 nt a w ops Q hds hd (fun a w σ2 h3 h4 => h3 he U w0 S0 nt a w ops Q hds hd hQ h4) hs
theorem gT1 {ops : Array Oper} {K : St → Prop} {f : Nat} {listed : Array Bool} {o : Oper} {s s1 : List (Nat × A)} {m m1 : List (Nat × Bk)} (i : Nat) (hK : Runs e ds 0 [] ⟨s1, m1⟩ (RunsT e ds ops K f (listed.setIfInBounds i true))) (hr : Region.ready .any ops listed = [i] := by decide +kernel) (ho : ops[i]? = some o := by simp only [List.getElem?_toArray, List.getElem?_cons_succ, List.getElem?_cons_zero]; exact rfl) (hg : o.guard = none := by exact rfl) (hal : ∀ t, o.op ≠ .alloc t := by intro t h; cases h)
    (hrun : runOps e.P ds 0 [o] ⟨s, m⟩ = .done ⟨s1, m1⟩ := by simp only [pz, ↓reduceIte, Nat.reduceEqDiff, Nat.reduceAdd, Nat.reduceSub, Nat.reduceMul, Nat.reduceLeDiff, Nat.reduceBEq, Bool.false_eq_true, decide_true, decide_false, Int.reduceLE, Int.reduceToNat, Int.reduceLT, Int.reduceEq, eq_self, Nat.reduceShiftRight, Nat.reduceAnd, Nat.reduceBneDiff, F]; exact rfl) : RunsT e ds ops K (f + 1) listed ⟨s, m⟩ := by
  refine ⟨fun h => (by rw [hr] at h; cases h), fun j hj => ?_⟩
  rw [hr] at hj
  have hji : j = i := by simpa using hj
  subst hji
  exact ⟨o, ho, hg, stepOk_run hg hal hrun hK⟩
theorem gT2 {ops : Array Oper} {K : St → Prop} {f : Nat} {listed : Array Bool} {o o' : Oper} {s s1 s2 : List (Nat × A)} {m m1 m2 : List (Nat × Bk)} (i j : Nat) (hK : Runs e ds 0 [] ⟨s1, m1⟩ (RunsT e ds ops K f (listed.setIfInBounds i true))) (hK' : Runs e ds 0 [] ⟨s2, m2⟩ (RunsT e ds ops K f (listed.setIfInBounds j true))) (hr : Region.ready .any ops listed = [i, j] := by decide +kernel) (ho : ops[i]? = some o := by simp only [List.getElem?_toArray, List.getElem?_cons_succ, List.getElem?_cons_zero]; exact rfl) (hg : o.guard = none := by exact rfl) (hal : ∀ t, o.op ≠ .alloc t := by intro t h; cases h)
    (hrun : runOps e.P ds 0 [o] ⟨s, m⟩ = .done ⟨s1, m1⟩ := by simp only [pz, ↓reduceIte, Nat.reduceEqDiff, Nat.reduceAdd, Nat.reduceSub, Nat.reduceMul, Nat.reduceLeDiff, Nat.reduceBEq, Bool.false_eq_true, decide_true, decide_false, Int.reduceLE, Int.reduceToNat, Int.reduceLT, Int.reduceEq, eq_self, Nat.reduceShiftRight, Nat.reduceAnd, Nat.reduceBneDiff, F]; exact rfl) (ho' : ops[j]? = some o' := by simp only [List.getElem?_toArray, List.getElem?_cons_succ, List.getElem?_cons_zero]; exact rfl) (hg' : o'.guard = none := by exact rfl) (hal' : ∀ t, o'.op ≠ .alloc t := by intro t h; cases h) (hrun' : runOps e.P ds 0 [o'] ⟨s, m⟩ = .done ⟨s2, m2⟩ := by simp only [pz, ↓reduceIte, Nat.reduceEqDiff, Nat.reduceAdd, Nat.reduceSub, Nat.reduceMul, Nat.reduceLeDiff, Nat.reduceBEq, Bool.false_eq_true, decide_true, decide_false, Int.reduceLE, Int.reduceToNat, Int.reduceLT, Int.reduceEq, eq_self, Nat.reduceShiftRight, Nat.reduceAnd, Nat.reduceBneDiff, F]; exact rfl) : RunsT e ds ops K (f + 1) listed ⟨s, m⟩ := by
  refine ⟨fun h => (by rw [hr] at h; cases h), fun k hk => ?_⟩
  rw [hr] at hk
  have hk : k = i ∨ k = j := by simpa using hk
  rcases hk with rfl | rfl
  · exact ⟨o, ho, hg, stepOk_run hg hal hrun hK⟩
  · exact ⟨o', ho', hg', stepOk_run hg' hal' hrun' hK'⟩
theorem gT0 {ops : Array Oper} {listed : Array Bool} {s s' : List (Nat × A)} {m : List (Nat × Bk)} (hK : Q .normal ⟨s', m⟩) (hr : Region.ready .any ops listed = [] := by decide +kernel) (hs : trimS mask s = s' := by simp only [pz, ↓reduceIte, Nat.reduceEqDiff, Nat.reduceAdd, Nat.reduceSub, Nat.reduceMul, Nat.reduceLeDiff, Nat.reduceBEq, Bool.false_eq_true, decide_true, decide_false, Int.reduceLE, Int.reduceToNat, Int.reduceLT, Int.reduceEq, eq_self, Nat.reduceShiftRight, Nat.reduceAnd, Nat.reduceBneDiff]; exact rfl) : RunsT e ds ops (TrimK mask Q) 0 listed ⟨s, m⟩ := by
  subst hs
  exact ⟨hr, hK⟩
end
end Go.Proofs.YtpbikjkjfojjiaaGreat

namespace Go.Proofs.YtpbikjkjfojjiaaGreat
open Go.RowKit Go.Sort

set_option maxHeartbeats 20000000 in
set_option maxRecDepth 100000 in
theorem implIsAlgebra : algC 69 := by
  intro g a S vs us w hokg hoka hvg hva
  obtain ⟨s, ops⟩ := g
  have hvg0 := hvg
  obtain ⟨g0, g1, g2, rfl, f0, f1, f2⟩ := repVals_Signature hvg
  obtain ⟨Ag0, cg0, rfl, _, _⟩ := f0.shape
  obtain ⟨Ag1, cg1, rfl, _, _⟩ := f1.shape
  obtain ⟨Ag2, cg2, rfl, hcg2, hmg2⟩ := f2.shape
  obtain ⟨z, tabs⟩ := a
  simp only [encAlg] at hva
  obtain ⟨v1, rfl, e1⟩ := repVals_Algebra hva
  obtain ⟨At, capt, rfl, hct, hmt⟩ := e1.shape
  have HOKG := Lib.hid hokg
  have HOKA := Lib.hid hoka
  have HVG := Lib.hid hvg0
  have F2 := Lib.hid f2
  have E1 := Lib.hid e1
  have hz64 : I64 z := hoka.1
  clear hvg hvg0 hva f0 f1 f2 e1 hokg hoka
  simp only at HVG F2 hcg2 hmg2
  simp only
  generalize s.names.length = n at *
  generalize s.subs.length = ls at *
  generalize hM : ops.length = m at *
  have HM := Lib.hid hM
  generalize hMT : tabs.length = mt at *
  have HMT := Lib.hid hMT
  clear hM hMT
  unfold maxLen at hmg2 hmt
  unfold I64 at hz64
  have HIS := Lib.hid (fun W h => implIsSignature ⟨s, ops⟩ S [.slice Ag0 n cg0, .slice Ag1 ls cg1, .slice Ag2 m cg2] W HOKG.out h)
  go_enter Tryz.func69, Tryz.ntmps69
  go_wp2_with fail
  generalize hW : (w.alloc _).alloc _ = W0
  have hb0 : Below w.heap.size w W0 := by rw [← hW]; exact (by repeat' (first | exact Below.refl _ _ | refine below_drewN ?_ _ | refine Below.alloc ?_ (by first | exact Nat.le_refl _ | (simp; done) | (simp; omega)) _))
  have p0 : W0.cell? ⟨w.heap.size, 0, none⟩ = some (.slice Ag0 n cg0) := (by rw [← hW]; repeat' (first | (simp; done) | exact keepNew (by simp) rfl | refine keepA _ ?_))
  have p1 : W0.cell? ⟨w.heap.size, 1, none⟩ = some (.slice Ag1 ls cg1) := (by rw [← hW]; repeat' (first | (simp; done) | exact keepNew (by simp) rfl | refine keepA _ ?_))
  have p2 : W0.cell? ⟨w.heap.size, 2, none⟩ = some (.slice Ag2 m cg2) := (by rw [← hW]; repeat' (first | (simp; done) | exact keepNew (by simp) rfl | refine keepA _ ?_))
  have p3 : W0.cell? ⟨w.heap.size + 1, 0, none⟩ = some (.int .i64 z) := (by rw [← hW]; repeat' (first | (simp; done) | exact keepNew (by simp) rfl | refine keepA _ ?_))
  have p4 : W0.cell? ⟨w.heap.size + 1, 1, none⟩ = some (.slice At mt capt) := (by rw [← hW]; repeat' (first | (simp; done) | exact keepNew (by simp) rfl | refine keepA _ ?_))
  clear hW
  generalize w.heap.size + 1 = g3 at *
  by_cases hs : SgnOk ⟨s, ops⟩
  rotate_left
  · have HF : Hid (isAlg ⟨s, ops⟩ ⟨z, tabs⟩ = false) := isAlg_false fun h => hs h.sgn
    rw [isSgn_false hs] at HIS
    clear hs
    refine (HIS.out _ (HVG.out.below hb0)).mono ?_
    rintro e w2 ⟨rfl, hb2⟩
    go_wp2
    go_ret
    exact ⟨ret_bool HF.out.symm, hb0.trans (hb2.mono hb0.size)⟩
  rw [isSgn_true hs] at HIS
  have HSO := Lib.hid hs
  clear hs
  refine (HIS.out _ (HVG.out.below hb0)).mono ?_
  rintro e W ⟨rfl, hb2⟩
  have hbW : Below w.heap.size w W := hb0.trans (hb2.mono hb0.size)
  have r0 := keepB hb2 p0
  have r1 := keepB hb2 p1
  have r2 := keepB hb2 p2
  have r3 := keepB hb2 p3
  have r4 := keepB hb2 p4
  have F2W := Lib.hid (F2.out.below hbW)
  have E1W := Lib.hid (E1.out.below hbW)
  clear p0 p1 p2 p3 p4 F2 E1 HVG HIS hb0 hb2
  by_cases hz1 : z < 1
  · have HF : Hid (isAlg ⟨s, ops⟩ ⟨z, tabs⟩ = false) := isAlg_false fun h => by have := h.lo; simp only at this; omega
    go_wp2
    go_ret
    exact ⟨ret_bool HF.out.symm, hbW⟩
  by_cases hz4 : 4 < z
  · have HF : Hid (isAlg ⟨s, ops⟩ ⟨z, tabs⟩ = false) := isAlg_false fun h => by have := h.hi; simp only at this; omega
    go_wp2
    go_ret
    exact ⟨ret_bool HF.out.symm, hbW⟩
  by_cases hmm : mt = m
  rotate_left
  · have HF : Hid (isAlg ⟨s, ops⟩ ⟨z, tabs⟩ = false) := isAlg_false fun h => hmm (by have := h.len; have := HM.out; have := HMT.out; simp only at *; omega)
    have n1 : (mt == m) = false := by simp [hmm]
    have n2 : ((mt : Int) == (m : Int)) = false := by simp; omega
    have n3 : ((mt : Int) != (m : Int)) = true := by simp; omega
    go_wp2
    go_ret
    exact ⟨ret_bool HF.out.symm, hbW⟩
  obtain rfl : m = mt := hmm.symm
  have n1 : (m == m) = true := by simp
  obtain ⟨zn, rfl⟩ := Int.eq_ofNat_of_zero_le (show 0 ≤ z by omega)
  obtain ⟨ip, hpi, _, hps, _⟩ := info_parts info_Op'
  go_wp2
  clear n1
  go_loopw [35] (fun i wr => ∃ k : Nat, k ≤ m ∧ i = .int .i64 k ∧ (∀ (j : Nat) (o : Opr) (d : Dcl) (t : List Int), j < k → ops[j]? = some o → o.decls[0]? = some d → tabs[j]? = some t → TabOk zn d.args.length t) ∧ Below W.heap.size W wr) (fun i _ => m - (intOf i).toNat)
  case atStart => exact ⟨0, Nat.zero_le _, rfl, fun j o d t h => by omega, Below.refl _ _⟩
  case round =>
    obtain ⟨k, hk, rfl, hall, hb⟩ := hrel
    have HALL := Lib.hid hall
    clear hall
    by_cases hkn : k < m
    · obtain ⟨o, ho⟩ : ∃ o, ops[k]? = some o := ⟨_, List.getElem?_eq_getElem (by have := HM.out; omega)⟩
      obtain ⟨t, ht⟩ : ∃ t, tabs[k]? = some t := ⟨_, List.getElem?_eq_getElem (by have := HMT.out; omega)⟩
      obtain ⟨d, hd, hdd⟩ := (HSO.out.decls o (List.mem_of_getElem? ho)).first
      have har := (HSO.out.decls o (List.mem_of_getElem? ho)).ar d hd
      have HOO := Lib.hid (HOKG.out.2 o (List.mem_of_getElem? ho))
      have HTO := Lib.hid (HOKA.out.2 t (List.mem_of_getElem? ht))
      obtain ⟨b, off, vd, rfl, hbz, c0, c1, c2, c3, c4, rd⟩ := Rep.opAt HOKG.out.2 (F2W.out.below hb) ho
      obtain ⟨bt, ot, Ax, cx, rfl, hbt, x0, hx1, hx2, rt⟩ := Rep.intsAt HOKA.out.2 (E1W.out.below hb) ht
      have HO := Lib.hid ho
      have HT := Lib.hid ht
      have HD := Lib.hid hd
      obtain ⟨name, decls, ac, cm, un⟩ := o
      simp only at c0 c2 c3 c4 rd hd
      obtain ⟨Ad, capd, rfl, hcd, hmd⟩ := rd.shape
      obtain ⟨b1, o1, rfl, _, hz1', hrow⟩ := Rep.at okDclR HOO.out.2.1 rd hd
      have hld : 0 < decls.length := (List.getElem?_eq_some_iff.1 hd).1
      obtain ⟨dargs, dres⟩ := d
      simp only [encDcl, RepRow, and_true, fieldsOf, List.length_cons, List.length_nil, Nat.reduceAdd, Nat.zero_mul, Nat.add_zero, Rep.lit_iff] at hrow
      obtain ⟨⟨u0, w0, r0'⟩, ⟨_, w1, rfl⟩⟩ := hrow
      obtain ⟨Ae, cape, rfl, hce, hme⟩ := r0'.shape
      simp only at har
      have RT := Lib.hid rt
      clear ho ht hd hdd rd rt r0'
      generalize decls.length = ld at *
      generalize hLT : t.length = lt at *
      have HLT2 := Lib.hid hLT
      generalize hDL : dargs.length = dl at *
      have HDL := Lib.hid hDL
      clear hLT hDL
      unfold maxLen at hx2 hmd hme
      go_upto_region 6 with ((with_reducible refine atStore 153 (.tmp 6) (.tmp 39) rfl ?_); refine wpList_store_new rfl 153 _ _ rfl _ _ _ rfl _ rfl (by simp) [.string name, .slice (some ⟨b1, o1, none⟩) ld capd, .bool ac, .bool cm, .int .i64 un] rfl ip hpi hps rfl (by simp [Value.oneCell']) ?_)
      simp only [Act.put]
      generalize hW7 : wr.alloc _ = W7
      have hb7 : Below wr.heap.size wr W7 := by rw [← hW7]; exact belowA _ _
      have y1 : W7.cell? ⟨wr.heap.size, 1, none⟩ = some (.slice (some ⟨b1, o1, none⟩) ld capd) := (by rw [← hW7]; repeat' (first | (simp; done) | exact keepNew (by simp) rfl | refine keepA _ ?_))
      have hbW7 : Below W.heap.size W W7 := hb.trans (hb7.mono hb.size)
      have q3 := keepB hbW7 r3
      have q4 := keepB hbW7 r4
      have v0 := keepB hb7 w0
      have v1 := keepB hb7 x0
      have RT7 := Lib.hid (RT.out.below hb7)
      clear hW7 c0 c1 c2 c3 c4 w0 w1 x0 RT hb7 hb hbz hbt hz1'
      generalize wr.heap.size = g7 at *
      go_wp2
      obtain ⟨wo, rfl⟩ : ∃ x : World, x = wr := ⟨_, rfl⟩
      go_loop [7, 46] (fun p i => ∃ j : Nat, j ≤ dl ∧ i = .int .i64 j ∧ p = .int .i64 ((zn ^ j : Nat) : Int)) (fun _ i => dl - (intOf i).toNat)
      case atStart => exact ⟨0, Nat.zero_le _, rfl, by simp⟩
      case round =>
        obtain ⟨j, hj, rfl, rfl⟩ := hrel
        by_cases hjk : j < dl
        · have hp := pow_le64 (show zn ≤ 4 by omega) (show j ≤ 3 by omega)
          have HS := Lib.hid (Nat.pow_succ zn j)
          generalize zn ^ j = p at *
          obtain ⟨m1, m2⟩ := wrap_mul hp (show zn ≤ 4 by omega)
          go_wp2
          go_round
          case rel => exact ⟨j + 1, by omega, by go_num, by rw [HS.out]; first | rfl | (simp only [Int.natCast_mul]; done) | simp [Int.natCast_mul]⟩
          case measure => simp [intOf]; omega
        · obtain rfl : dl = j := by omega
          have hpw := pow_le64 (show zn ≤ 4 by omega) har
          generalize hPW : zn ^ dl = pw at *
          have HPW := Lib.hid hPW
          clear hPW
          by_cases hlen : lt = pw
          rotate_left
          · have HF : Hid (isAlg ⟨s, ops⟩ ⟨zn, tabs⟩ = false) := isAlg_false fun h => hlen (by have := (h.tab k _ _ t HO.out HD.out HT.out).len; rw [HLT2.out] at this; simp only [HDL.out] at this; simpa [HPW.out] using this)
            have n1 : (lt == pw) = false := by simp [hlen]
            have n2 : ((lt : Int) == (pw : Int)) = false := by simp; omega
            have n3 : ((lt : Int) != (pw : Int)) = true := by simp; omega
            go_wp2
            go_ret
            exact ⟨ret_bool HF.out.symm, hbW.trans (hbW7.mono hbW.size)⟩
          obtain rfl : lt = pw := hlen
          have n1 : (lt == lt) = true := by simp
          go_wp2
          clear n1
          go_loop [67] (fun i => ∃ j : Nat, j ≤ lt ∧ i = .int .i64 j ∧ (∀ (i : Nat) (x : Int), i < j → t[i]? = some x → 0 ≤ x ∧ x < (zn : Int))) (fun i => lt - (intOf i).toNat)
          case atStart => exact ⟨0, Nat.zero_le _, rfl, fun i x h => by omega⟩
          case round =>
            obtain ⟨j, hj, rfl, hno⟩ := hrel
            have HNO := Lib.hid hno
            clear hno
            by_cases hjk : j < lt
            · obtain ⟨x, hx⟩ : ∃ x, t[j]? = some x := ⟨_, List.getElem?_eq_getElem (by have := HLT2.out; omega)⟩
              obtain ⟨bx, ox, rfl, hbx, cx0⟩ := Rep.int HTO.out RT7.out hx
              have HX := Lib.hid hx
              clear hx
              by_cases hxr : 0 ≤ x ∧ x < (zn : Int)
              · obtain ⟨e0, e1⟩ := hxr
                go_wp2
                go_round
                case rel =>
                  refine ⟨j + 1, by omega, by go_num, fun i y hi hy => ?_⟩
                  by_cases hij : i = j
                  · subst hij
                    rw [HX.out] at hy
                    injection hy with hy
                    rw [← hy]
                    exact ⟨e0, e1⟩
                  · exact HNO.out i y (by omega) hy
                case measure => simp [intOf]; omega
              · have HF : Hid (isAlg ⟨s, ops⟩ ⟨zn, tabs⟩ = false) := isAlg_false fun h => hxr ((h.tab k _ _ t HO.out HD.out HT.out).all x (List.mem_of_getElem? HX.out))
                by_cases e0 : x < 0
                · clear hxr
                  go_wp2
                  go_ret
                  exact ⟨ret_bool HF.out.symm, hbW.trans (hbW7.mono hbW.size)⟩
                · have e1 : (zn : Int) ≤ x := by omega
                  clear hxr
                  go_wp2
                  go_ret
                  exact ⟨ret_bool HF.out.symm, hbW.trans (hbW7.mono hbW.size)⟩
            · obtain rfl : lt = j := by omega
              go_wp2
              go_roundw
              case rel =>
                refine ⟨k + 1, by omega, by go_num, fun j o' d' t' hj ho hd ht => ?_, hbW7⟩
                by_cases hjk' : j = k
                · subst hjk'
                  rw [HO.out] at ho
                  injection ho with ho
                  subst ho
                  rw [HD.out] at hd
                  injection hd with hd
                  subst hd
                  rw [HT.out] at ht
                  injection ht with ht
                  subst ht
                  refine ⟨by rw [HLT2.out]; simp only [HDL.out]; simp [HPW.out], fun x hx => ?_⟩
                  obtain ⟨i, hi⟩ := List.mem_iff_getElem?.1 hx
                  exact HNO.out i x (by have hil := (List.getElem?_eq_some_iff.1 hi).1; rw [HLT2.out] at hil; exact hil) hi
                · exact HALL.out j o' d' t' (by omega) ho hd ht
              case measure => simp [intOf]; omega
    · obtain rfl : m = k := by omega
      have HF : Hid (isAlg ⟨s, ops⟩ ⟨zn, tabs⟩ = true) := isAlg_true ⟨HSO.out, by simp only; omega, by simp only; omega, by have := HM.out; have := HMT.out; simp only; omega, fun i o d t ho hd ht => HALL.out i o d t (by have hil : i < ops.length := (List.getElem?_eq_some_iff.1 ho).1; have := HM.out; omega) ho hd ht⟩
      go_wp2
      go_ret
      exact ⟨ret_bool HF.out.symm, hbW.trans (hb.mono hbW.size)⟩
end Go.Proofs.YtpbikjkjfojjiaaGreat

namespace Go.Proofs.YtpbikjkjfojjiaaGreat
open Go.RowKit Go.Sort

set_option maxRecDepth 100000 in
theorem specPower (z k : Nat) (hz : z ≤ 4) (hk : k ≤ 3) (w : World) : Calls Tryz.prog 75 #[.int .i64 z, .int .i64 k] w fun e w' => e = .returned (.int .i64 ((z ^ k : Nat) : Int)) ∧ w = w' := by
  go_enter Tryz.func75, Tryz.ntmps75
  go_wp2
  go_loop [5, 6] (fun n i => ∃ j : Nat, j ≤ k ∧ i = .int .i64 j ∧ n = .int .i64 ((z ^ j : Nat) : Int)) (fun _ i => k - (intOf i).toNat)
  case atStart => exact ⟨0, Nat.zero_le _, rfl, by simp⟩
  case round =>
    obtain ⟨j, hj, rfl, rfl⟩ := hrel
    by_cases hjk : j < k
    · have hp := pow_le64 hz (show j ≤ 3 by omega)
      have HS := Lib.hid (Nat.pow_succ z j)
      generalize z ^ j = p at *
      obtain ⟨m1, m2⟩ := wrap_mul hp hz
      go_wp2
      go_round
      case rel => exact ⟨j + 1, by omega, by go_num, by rw [HS.out]; first | rfl | (simp only [Int.natCast_mul]; done) | simp [Int.natCast_mul]⟩
      case measure => simp [intOf]; omega
    · obtain rfl : k = j := by omega
      go_wp2
      go_ret
      exact ⟨rfl, rfl⟩

set_option maxHeartbeats 20000000 in
set_option maxRecDepth 100000 in
theorem specIsAlgebra : algC 62 := by
  intro g a S vs us w hokg hoka hvg hva
  obtain ⟨s, ops⟩ := g
  have hvg0 := hvg
  obtain ⟨g0, g1, g2, rfl, f0, f1, f2⟩ := repVals_Signature hvg
  obtain ⟨Ag0, cg0, rfl, _, _⟩ := f0.shape
  obtain ⟨Ag1, cg1, rfl, _, _⟩ := f1.shape
  obtain ⟨Ag2, cg2, rfl, hcg2, hmg2⟩ := f2.shape
  obtain ⟨z, tabs⟩ := a
  simp only [encAlg] at hva
  obtain ⟨v1, rfl, e1⟩ := repVals_Algebra hva
  obtain ⟨At, capt, rfl, hct, hmt⟩ := e1.shape
  have HOKG := Lib.hid hokg
  have HOKA := Lib.hid hoka
  have HVG := Lib.hid hvg0
  have F2 := Lib.hid f2
  have E1 := Lib.hid e1
  have hz64 : I64 z := hoka.1
  clear hvg hvg0 hva f0 f1 f2 e1 hokg hoka
  simp only at HVG F2 hcg2 hmg2
  simp only
  generalize s.names.length = n at *
  generalize s.subs.length = ls at *
  generalize hM : ops.length = m at *
  have HM := Lib.hid hM
  generalize hMT : tabs.length = mt at *
  have HMT := Lib.hid hMT
  clear hM hMT
  unfold maxLen at hmg2 hmt
  unfold I64 at hz64
  have HIS := Lib.hid (fun W h => specIsSignature ⟨s, ops⟩ S [.slice Ag0 n cg0, .slice Ag1 ls cg1, .slice Ag2 m cg2] W HOKG.out h)
  have HIN := Lib.hid (fun w => specIn z 1 4 w)
  go_enter Tryz.func62, Tryz.ntmps62
  go_wp2_with fail
  generalize hW : (w.alloc _).alloc _ = W0
  have hb0 : Below w.heap.size w W0 := by rw [← hW]; exact (by repeat' (first | exact Below.refl _ _ | refine below_drewN ?_ _ | refine Below.alloc ?_ (by first | exact Nat.le_refl _ | (simp; done) | (simp; omega)) _))
  have p0 : W0.cell? ⟨w.heap.size, 0, none⟩ = some (.slice Ag0 n cg0) := (by rw [← hW]; repeat' (first | (simp; done) | exact keepNew (by simp) rfl | refine keepA _ ?_))
  have p1 : W0.cell? ⟨w.heap.size, 1, none⟩ = some (.slice Ag1 ls cg1) := (by rw [← hW]; repeat' (first | (simp; done) | exact keepNew (by simp) rfl | refine keepA _ ?_))
  have p2 : W0.cell? ⟨w.heap.size, 2, none⟩ = some (.slice Ag2 m cg2) := (by rw [← hW]; repeat' (first | (simp; done) | exact keepNew (by simp) rfl | refine keepA _ ?_))
  have p3 : W0.cell? ⟨w.heap.size + 1, 0, none⟩ = some (.int .i64 z) := (by rw [← hW]; repeat' (first | (simp; done) | exact keepNew (by simp) rfl | refine keepA _ ?_))
  have p4 : W0.cell? ⟨w.heap.size + 1, 1, none⟩ = some (.slice At mt capt) := (by rw [← hW]; repeat' (first | (simp; done) | exact keepNew (by simp) rfl | refine keepA _ ?_))
  clear hW
  generalize w.heap.size + 1 = g3 at *
  by_cases hs : SgnOk ⟨s, ops⟩
  rotate_left
  · have HF : Hid (isAlg ⟨s, ops⟩ ⟨z, tabs⟩ = false) := isAlg_false fun h => hs h.sgn
    rw [isSgn_false hs] at HIS
    clear hs
    refine (HIS.out _ (HVG.out.below hb0)).mono ?_
    rintro e w2 ⟨rfl, hb2⟩
    go_wp2
    go_ret
    exact ⟨ret_bool HF.out.symm, hb0.trans (hb2.mono hb0.size)⟩
  rw [isSgn_true hs] at HIS
  have HSO := Lib.hid hs
  clear hs
  refine (HIS.out _ (HVG.out.below hb0)).mono ?_
  rintro e W ⟨rfl, hb2⟩
  have hbW : Below w.heap.size w W := hb0.trans (hb2.mono hb0.size)
  have r0 := keepB hb2 p0
  have r1 := keepB hb2 p1
  have r2 := keepB hb2 p2
  have r3 := keepB hb2 p3
  have r4 := keepB hb2 p4
  have F2W := Lib.hid (F2.out.below hbW)
  have E1W := Lib.hid (E1.out.below hbW)
  clear p0 p1 p2 p3 p4 F2 E1 HVG HIS hb0 hb2
  by_cases hz : 1 ≤ z ∧ z ≤ 4
  rotate_left
  · have HF : Hid (isAlg ⟨s, ops⟩ ⟨z, tabs⟩ = false) := isAlg_false fun h => hz ⟨h.lo, h.hi⟩
    rw [decide_eq_false hz] at HIN
    clear hz
    go_wp2_with (go_at_call 64; refine (HIN.out _).mono ?_; rintro e w4 ⟨rfl, rfl⟩)
    go_ret
    exact ⟨ret_bool HF.out.symm, hbW⟩
  rw [decide_eq_true hz] at HIN
  by_cases hmm : mt = m
  rotate_left
  · have HF : Hid (isAlg ⟨s, ops⟩ ⟨z, tabs⟩ = false) := isAlg_false fun h => hmm (by have := h.len; have := HM.out; have := HMT.out; simp only at *; omega)
    have n1 : (mt == m) = false := by simp [hmm]
    have n2 : ((mt : Int) == (m : Int)) = false := by simp; omega
    have n3 : ((mt : Int) != (m : Int)) = true := by simp; omega
    go_wp2_with (go_at_call 64; refine (HIN.out _).mono ?_; rintro e w4 ⟨rfl, rfl⟩)
    go_ret
    exact ⟨ret_bool HF.out.symm, hbW⟩
  obtain rfl : m = mt := hmm.symm
  have n1 : (m == m) = true := by simp
  obtain ⟨zn, rfl⟩ := Int.eq_ofNat_of_zero_le (show 0 ≤ z by omega)
  go_wp2_with (go_at_call 64; refine (HIN.out _).mono ?_; rintro e w4 ⟨rfl, rfl⟩)
  clear HIN n1
  go_loopw [5] (fun i wr => ∃ k : Nat, k ≤ m ∧ i = .int .i64 k ∧ (∀ (j : Nat) (o : Opr) (d : Dcl) (t : List Int), j < k → ops[j]? = some o → o.decls[0]? = some d → tabs[j]? = some t → TabOk zn d.args.length t) ∧ Below W.heap.size W wr) (fun i _ => m - (intOf i).toNat)
  case atStart => exact ⟨0, Nat.zero_le _, rfl, fun j o d t h => by omega, Below.refl _ _⟩
  case round =>
    obtain ⟨k, hk, rfl, hall, hb⟩ := hrel
    have HALL := Lib.hid hall
    clear hall
    have q2 := keepB hb r2
    have q3 := keepB hb r3
    have q4 := keepB hb r4
    by_cases hkn : k < m
    · obtain ⟨o, ho⟩ : ∃ o, ops[k]? = some o := ⟨_, List.getElem?_eq_getElem (by have := HM.out; omega)⟩
      obtain ⟨t, ht⟩ : ∃ t, tabs[k]? = some t := ⟨_, List.getElem?_eq_getElem (by have := HMT.out; omega)⟩
      obtain ⟨d, hd, hdd⟩ := (HSO.out.decls o (List.mem_of_getElem? ho)).first
      have har := (HSO.out.decls o (List.mem_of_getElem? ho)).ar d hd
      have HOO := Lib.hid (HOKG.out.2 o (List.mem_of_getElem? ho))
      have HTO := Lib.hid (HOKA.out.2 t (List.mem_of_getElem? ht))
      obtain ⟨b, off, vd, rfl, hbz, c0, c1, c2, c3, c4, rd⟩ := Rep.opAt HOKG.out.2 (F2W.out.below hb) ho
      obtain ⟨bt, ot, Ax, cx, rfl, hbt, x0, hx1, hx2, rt⟩ := Rep.intsAt HOKA.out.2 (E1W.out.below hb) ht
      have HO := Lib.hid ho
      have HT := Lib.hid ht
      have HD := Lib.hid hd
      obtain ⟨name, decls, ac, cm, un⟩ := o
      simp only at c0 c2 c3 c4 rd hd
      have hrv : RepVals wr S (encOpr ⟨name, decls, ac, cm, un⟩) [.string name, vd, .bool ac, .bool cm, .int .i64 un] := by simp only [encOpr, RepVals, Rep.lit_iff, and_true, true_and]; exact rd
      obtain ⟨Ad, capd, rfl, _, _⟩ := rd.shape
      have HRV := Lib.hid hrv
      have RT := Lib.hid rt
      clear ho ht hd hdd rd hrv rt
      generalize decls.length = ld at *
      have HCA : Hid (∀ dd os, Calls Tryz.prog 115 #[.agg #[.string name, .slice Ad ld capd, .bool ac, .bool cm, .int .i64 un]] (grow (redrawn wr dd) os) fun e w'' => e = .returned (.int .i64 d.args.length) ∧ ∃ p : Regrown, w'' = grow (redrawn wr p.d) p.os) := fun dd os =>
        Calls.regrown_of (specArity ⟨name, decls, ac, cm, un⟩ d S _ _ HOO.out (HRV.out.below (below_regrown wr dd os)) HD.out)
      have HCP : Hid (∀ dd os, Calls Tryz.prog 75 #[.int .i64 zn, .int .i64 d.args.length] (grow (redrawn wr dd) os) fun e w'' => e = .returned (.int .i64 ((zn ^ d.args.length : Nat) : Int)) ∧ ∃ p : Regrown, w'' = grow (redrawn wr p.d) p.os) := fun dd os =>
        Calls.regrown_of ((specPower zn d.args.length (by omega) har _).mono fun e w' h => ⟨h.1, by rw [← h.2]; exact Below.refl _ _⟩)
      have k2 := cell_regrown q2
      have k3 := cell_regrown q3
      have k4 := cell_regrown q4
      have y0 := cell_regrown c0
      have y1 := cell_regrown c1
      have y2 := cell_regrown c2
      have y3 := cell_regrown c3
      have y4 := cell_regrown c4
      have y5 := cell_regrown x0
      have hpw := pow_le64 (show zn ≤ 4 by omega) har
      have HLT := Lib.hid (rfl : t.length = t.length)
      generalize hLT : t.length = lt at *
      have HLT2 := Lib.hid hLT
      clear hLT HLT har
      have HDD := Lib.hid (rfl : d.args.length = d.args.length)
      generalize hDL : d.args.length = dl at *
      have HDL := Lib.hid hDL
      clear hDL HDD
      generalize hPW : zn ^ dl = pw at *
      have HPW := Lib.hid hPW
      clear hPW
      unfold maxLen at hx2
      by_cases hlen : lt = pw
      rotate_left
      · have HF : Hid (isAlg ⟨s, ops⟩ ⟨zn, tabs⟩ = false) := isAlg_false fun h => hlen (by have := (h.tab k _ d t HO.out HD.out HT.out).len; rw [HLT2.out, HDL.out] at this; simpa [HPW.out] using this)
        have n1 : (lt == pw) = false := by simp [hlen]
        have n2 : ((lt : Int) == (pw : Int)) = false := by simp; omega
        have n3 : ((lt : Int) != (pw : Int)) = true := by simp; omega
        go_wp2_with fail
        (refine wp_region_quiet_below (by kernel_rfl) (by kernel_rfl) ?_
         repeat (first | go_big_quiet_step (first | (go_at_call 115; exact HCA.out _ _) | (go_at_call 75; exact HCP.out _ _)) | quiet_step (first | (go_at_call 115; exact HCA.out _ _) | (go_at_call 75; exact HCP.out _ _)))
         refine wpQuiet_nil ?_
         intro _ hw'
         obtain ⟨⟨dq, osq⟩, hw''⟩ := hw'
         subst hw'')
        go_wp2
        go_ret
        exact ⟨ret_bool HF.out.symm, hbW.trans ((hb.trans ((below_regrown wr dq osq).mono hb.size)).mono hbW.size)⟩
      obtain rfl : lt = pw := hlen
      go_wp2_with fail
      (refine wp_region_quiet_below (by kernel_rfl) (by kernel_rfl) ?_
       repeat (first | go_big_quiet_step (first | (go_at_call 115; exact HCA.out _ _) | (go_at_call 75; exact HCP.out _ _)) | quiet_step (first | (go_at_call 115; exact HCA.out _ _) | (go_at_call 75; exact HCP.out _ _)))
       refine wpQuiet_nil ?_
       intro _ hw'
       obtain ⟨⟨dq, osq⟩, hw''⟩ := hw'
       subst hw'')
      have hb5 : Below W.heap.size W (grow (redrawn wr dq) osq) := hb.trans ((below_regrown wr dq osq).mono hb.size)
      have RT5 := Lib.hid (RT.out.below (below_regrown wr dq osq))
      have y6 := y5 dq osq
      clear k2 k3 k4 y0 y1 y2 y3 y4 y5 q2 q3 q4 c0 c1 c2 c3 c4 HCA HCP HRV hb hbz x0 hbt RT
      generalize grow (redrawn wr dq) osq = W5 at *
      go_wp2
      obtain ⟨wo, rfl⟩ : ∃ x : World, x = wr := ⟨_, rfl⟩
      go_loopw [6] (fun i wr => ∃ j : Nat, j ≤ lt ∧ i = .int .i64 j ∧ (∀ (i : Nat) (x : Int), i < j → t[i]? = some x → 0 ≤ x ∧ x < (zn : Int)) ∧ Below W5.heap.size W5 wr) (fun i _ => lt - (intOf i).toNat)
      case atStart => exact ⟨0, Nat.zero_le _, rfl, fun i x h => by omega, Below.refl _ _⟩
      case round =>
        obtain ⟨j, hj, rfl, hno, hbr⟩ := hrel
        have HNO := Lib.hid hno
        clear hno
        have hb6 : Below W.heap.size W wr := hb5.trans (hbr.mono hb5.size)
        have q3 := keepB hb6 r3
        have q4 := keepB hb6 r4
        have y7 := keepB hbr y6
        by_cases hjk : j < lt
        · obtain ⟨x, hx⟩ : ∃ x, t[j]? = some x := ⟨_, List.getElem?_eq_getElem (by have := HLT2.out; omega)⟩
          obtain ⟨bx, ox, rfl, hbx, cx0⟩ := Rep.int HTO.out (RT5.out.below hbr) hx
          have HX := Lib.hid hx
          clear hx
          have HCI := Lib.hid (fun w => specInR zn x w)
          by_cases hxr : 0 ≤ x ∧ x < (zn : Int)
          · rw [inR_true hxr] at HCI
            go_wp2_with fail
            have hwr : IntKind.i64.wrap ((zn : Int) - 1) = (zn : Int) - 1 := IntWalk.i64_in _ (by omega)
            go_quiet (first | (go_at_call 64; exact quietC (fun n => HCI.out _) _))
            clear hwr
            go_wp2
            go_roundw
            case rel =>
              refine ⟨j + 1, by omega, by go_num, fun i y hi hy => ?_, below_drewN hbr _⟩
              by_cases hij : i = j
              · subst hij
                rw [HX.out] at hy
                injection hy with hy
                rw [← hy]
                exact hxr
              · exact HNO.out i y (by omega) hy
            case measure => simp [intOf]; omega
          · have HF : Hid (isAlg ⟨s, ops⟩ ⟨zn, tabs⟩ = false) := isAlg_false fun h => hxr ((h.tab k _ d t HO.out HD.out HT.out).all x (List.mem_of_getElem? HX.out))
            rw [inR_false hxr] at HCI
            clear hxr
            go_wp2_with fail
            have hwr : IntKind.i64.wrap ((zn : Int) - 1) = (zn : Int) - 1 := IntWalk.i64_in _ (by omega)
            go_quiet (first | (go_at_call 64; exact quietC (fun n => HCI.out _) _))
            go_wp2
            go_ret
            exact ⟨ret_bool HF.out.symm, hbW.trans (below_drewN (hb6.mono hbW.size) _)⟩
        · obtain rfl : lt = j := by omega
          go_wp2
          go_roundw
          case rel =>
            refine ⟨k + 1, by omega, by go_num, fun j o' d' t' hj ho hd ht => ?_, hb6⟩
            by_cases hjk' : j = k
            · subst hjk'
              rw [HO.out] at ho
              injection ho with ho
              subst ho
              rw [HD.out] at hd
              injection hd with hd
              subst hd
              rw [HT.out] at ht
              injection ht with ht
              subst ht
              refine ⟨by rw [HLT2.out, HDL.out]; simp [HPW.out], fun x hx => ?_⟩
              obtain ⟨i, hi⟩ := List.mem_iff_getElem?.1 hx
              exact HNO.out i x (by have hil := (List.getElem?_eq_some_iff.1 hi).1; rw [HLT2.out] at hil; exact hil) hi
            · exact HALL.out j o' d' t' (by omega) ho hd ht
          case measure => simp [intOf]; omega
    · obtain rfl : m = k := by omega
      have HF : Hid (isAlg ⟨s, ops⟩ ⟨zn, tabs⟩ = true) := isAlg_true ⟨HSO.out, hz.1, hz.2, by have := HM.out; have := HMT.out; simp only; omega, fun i o d t ho hd ht => HALL.out i o d t (by have hil : i < ops.length := (List.getElem?_eq_some_iff.1 ho).1; have := HM.out; omega) ho hd ht⟩
      go_wp2
      go_ret
      exact ⟨ret_bool HF.out.symm, hbW.trans (hb.mono hbW.size)⟩
end Go.Proofs.YtpbikjkjfojjiaaGreat

namespace Go.Proofs.YtpbikjkjfojjiaaGreat
open Go.RowKit

theorem con_szSignature {row : List C} (hok : okRow (sigF) row) {left : Int} (h0 : 0 ≤ left) (h1 : left ≤ 1048576) : Con e0 9 [.agg row, .one (.lit (.int .i64 left))] [.one (.lit (.int .i64 (sub left (bulkRow row))))] := by
  refine con_below e0_ok (by kernel_rfl) fun w S vs h => ?_
  match vs, h with
  | [v, u], h =>
    obtain ⟨⟨us, rfl, hu⟩, h2, _⟩ := h
    have h2 : u = .int .i64 left := by simpa [DRel, Rep] using h2
    subst h2
    exact (szSignature_any row S us left w hok hu h0 h1).mono fun e w' ⟨h1, h2⟩ => ⟨_, h1, h2, by simp [retA, ARel, DRel, Rep]⟩
theorem con_toSignature {row : List C} (hok : okRow (sigF) row) (hb : bulkRow row ≤ 1048576) : Con e0 12 [.agg row] [.agg row] := by
  refine con_below e0_ok (by kernel_rfl) fun w S vs h => ?_
  match vs, h with
  | [v], h =>
    obtain ⟨⟨us, rfl, hu⟩, _⟩ := h
    exact (toSignature_any row S us w hok hu hb).mono fun e w' ⟨us', h1, h2, h3⟩ => ⟨_, h1, h3, us', rfl, OwnVals.rep row _ _ us' (fun x hx => .inr hx) h2⟩
theorem con_eqSignature {row : List C} (hok : okRow (sigF) row) : Con e0 15 [.agg row, .agg row] [.one (.lit (.bool true))] := by
  refine con_below e0_ok (by kernel_rfl) fun w S vs h => ?_
  match vs, h with
  | [v, u], h =>
    obtain ⟨⟨us, rfl, hu⟩, ⟨us', rfl, hu'⟩, _⟩ := h
    exact (eqSignature_any row S S us us' w hok hu hu').mono fun e w' ⟨h1, h2⟩ => ⟨_, h1, h2, by simp [retA, ARel, DRel, Rep]⟩
end Go.Proofs.YtpbikjkjfojjiaaGreat

namespace Go.Proofs.YtpbikjkjfojjiaaGreat
open Go.RowKit

theorem con_szAlgebra {row : List C} (hok : okRow (algF) row) {left : Int} (h0 : 0 ≤ left) (h1 : left ≤ 1048576) : Con e0 22 [.agg row, .one (.lit (.int .i64 left))] [.one (.lit (.int .i64 (sub left (bulkRow row))))] := by
  refine con_below e0_ok (by kernel_rfl) fun w S vs h => ?_
  match vs, h with
  | [v, u], h =>
    obtain ⟨⟨us, rfl, hu⟩, h2, _⟩ := h
    have h2 : u = .int .i64 left := by simpa [DRel, Rep] using h2
    subst h2
    exact (szAlgebra_any row S us left w hok hu h0 h1).mono fun e w' ⟨h1, h2⟩ => ⟨_, h1, h2, by simp [retA, ARel, DRel, Rep]⟩
theorem con_toAlgebra {row : List C} (hok : okRow (algF) row) (hb : bulkRow row ≤ 1048576) : Con e0 25 [.agg row] [.agg row] := by
  refine con_below e0_ok (by kernel_rfl) fun w S vs h => ?_
  match vs, h with
  | [v], h =>
    obtain ⟨⟨us, rfl, hu⟩, _⟩ := h
    exact (toAlgebra_any row S us w hok hu hb).mono fun e w' ⟨us', h1, h2, h3⟩ => ⟨_, h1, h3, us', rfl, OwnVals.rep row _ _ us' (fun x hx => .inr hx) h2⟩
theorem con_eqAlgebra {row : List C} (hok : okRow (algF) row) : Con e0 29 [.agg row, .agg row] [.one (.lit (.bool true))] := by
  refine con_below e0_ok (by kernel_rfl) fun w S vs h => ?_
  match vs, h with
  | [v, u], h =>
    obtain ⟨⟨us, rfl, hu⟩, ⟨us', rfl, hu'⟩, _⟩ := h
    exact (eqAlgebra_any row S S us us' w hok hu hu').mono fun e w' ⟨h1, h2⟩ => ⟨_, h1, h2, by simp [retA, ARel, DRel, Rep]⟩
end Go.Proofs.YtpbikjkjfojjiaaGreat

namespace Go.Proofs.YtpbikjkjfojjiaaGreat
open Go.RowKit

theorem con_szTerm {row : List C} (hok : okRow (fieldsOf .term) row) {left : Int} (h0 : 0 ≤ left) (h1 : left ≤ 1048576) : Con e0 23 [.agg row, .one (.lit (.int .i64 left))] [.one (.lit (.int .i64 (sub left (bulkRow row))))] := by
  refine con_below e0_ok (by kernel_rfl) fun w S vs h => ?_
  match vs, h with
  | [v, u], h =>
    obtain ⟨⟨us, rfl, hu⟩, h2, _⟩ := h
    have h2 : u = .int .i64 left := by simpa [DRel, Rep] using h2
    subst h2
    exact (szTerm_any row S us left w hok hu h0 h1).mono fun e w' ⟨h1, h2⟩ => ⟨_, h1, h2, by simp [retA, ARel, DRel, Rep]⟩
theorem con_toTerm {row : List C} (hok : okRow (fieldsOf .term) row) (hb : bulkRow row ≤ 1048576) : Con e0 26 [.agg row] [.agg row] := by
  refine con_below e0_ok (by kernel_rfl) fun w S vs h => ?_
  match vs, h with
  | [v], h =>
    obtain ⟨⟨us, rfl, hu⟩, _⟩ := h
    exact (toTerm_any row S us w hok hu hb).mono fun e w' ⟨us', h1, h2, h3⟩ => ⟨_, h1, h3, us', rfl, OwnVals.rep row _ _ us' (fun x hx => .inr hx) h2⟩
theorem con_eqTerm {row : List C} (hok : okRow (fieldsOf .term) row) : Con e0 30 [.agg row, .agg row] [.one (.lit (.bool true))] := by
  refine con_below e0_ok (by kernel_rfl) fun w S vs h => ?_
  match vs, h with
  | [v, u], h =>
    obtain ⟨⟨us, rfl, hu⟩, ⟨us', rfl, hu'⟩, _⟩ := h
    exact (eqTerm_any row S S us us' w hok hu hu').mono fun e w' ⟨h1, h2⟩ => ⟨_, h1, h2, by simp [retA, ARel, DRel, Rep]⟩
end Go.Proofs.YtpbikjkjfojjiaaGreat

namespace Go.Proofs.YtpbikjkjfojjiaaGreat
open Go.RowKit

theorem con_szIntS {rows : List (List C)} (hok : okRows (fieldsOf .int) rows) {left : Int} (h0 : 0 ≤ left) (h1 : left ≤ 1048576) : Con e0 114 [.one (.sl rows), .one (.lit (.int .i64 left))] [.one (.lit (.int .i64 (sub left (rows.length + bulkRows rows))))] := by
  refine con_below e0_ok (by kernel_rfl) fun w S vs h => ?_
  match vs, h with
  | [v, u], h =>
    obtain ⟨hv, h2, _⟩ := h
    have h2 : u = .int .i64 left := by simpa [DRel, Rep] using h2
    subst h2
    exact (szIntS_any rows S v left w hok hv h0 h1).mono fun e w' ⟨h1, h2⟩ => ⟨_, h1, h2, by simp [retA, ARel, DRel, Rep]⟩
theorem con_eqIntS {rows : List (List C)} (hok : okRows (fieldsOf .int) rows) : Con e0 31 [.one (.sl rows), .one (.sl rows)] [.one (.lit (.bool true))] := by
  refine con_below e0_ok (by kernel_rfl) fun w S vs h => ?_
  match vs, h with
  | [v, u], h =>
    obtain ⟨hv, hu, _⟩ := h
    exact (eqIntS_any rows S S v u w hok hv hu).mono fun e w' ⟨h1, h2⟩ => ⟨_, h1, h2, by simp [retA, ARel, DRel, Rep]⟩
theorem con_toIntS {rows : List (List C)} (hok : okRows (fieldsOf .int) rows) (hb : rows.length + bulkRows rows ≤ 1048576) : Con e0 27 [.one (.sl rows)] [.one (.sl rows)] := by
  refine con_below e0_ok (by kernel_rfl) fun w S vs h => ?_
  match vs, h with
  | [v], h =>
    obtain ⟨hv, _⟩ := h
    exact (toIntS_any rows S v w hok hv hb).mono fun e w' ⟨v', h1, h2, h3⟩ => ⟨_, h1, h3, (Own.rep _ _ v' h2).mono fun b hb => .inr hb⟩
theorem ints_bulk0 : ∀ {rows : List (List C)}, okRows (fieldsOf .int) rows → bulkRows rows = 0
  | [], _ => by simp [bulkRows]
  | r :: rs, h => by
    simp only [okRows] at h
    obtain ⟨n, rfl, _⟩ := okRow_Int h.1
    simp only [bulkRows, bulkRow, bulkC, ints_bulk0 h.2]
theorem ints_bulk {rows : List (List C)} (h : okRows (fieldsOf .int) rows) : rows.length + bulkRows rows = rows.length := by rw [ints_bulk0 h]; rfl
end Go.Proofs.YtpbikjkjfojjiaaGreat

