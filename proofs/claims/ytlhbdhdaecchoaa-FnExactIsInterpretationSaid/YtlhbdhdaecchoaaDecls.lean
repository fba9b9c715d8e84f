/-
  Whether an operator's declarations fit together: the program's declsOK (walked).
-/
import Derived.Test.YtlhbdhdaecchoaaOrder
import Derived.Lib.QuietBelow
set_option linter.unusedSimpArgs false
set_option linter.unusedVariables false
namespace Go.Proofs.Ytlhbdhdaecchoaa
open Go.RowKit Go.Sort

def inR (n : Nat) (k : Int) : Bool := decide (0 ≤ k ∧ k < n)
theorem inR_true {n : Nat} {k : Int} (h : 0 ≤ k ∧ k < n) : inR n k = true := decide_eq_true h
theorem inR_false {n : Nat} {k : Int} (h : ¬ (0 ≤ k ∧ k < n)) : inR n k = false := decide_eq_false h
theorem inR_iff {n : Nat} {k : Int} : inR n k = true ↔ 0 ≤ k ∧ k < n := by simp [inR]

set_option maxRecDepth 100000 in
theorem implHas (A : Option Addr) (n cap : Nat) (vb vk : Value) (k : Int) (w : World) (hb1 : vb.oneCell' = true) (hk1 : vk.oneCell' = true) (hcap : cap ≤ maxLen) (hn : n ≤ cap) :
    Calls Try.prog 72 #[.agg #[.slice A n cap, vb, vk], .int .i64 k] w fun e w' => e = .returned (.bool (inR n k)) ∧ Below w.heap.size w w' := by
  unfold maxLen at hcap
  by_cases h0 : 0 ≤ k
  · by_cases h1 : k < n
    · go_enter Try.func72, Try.ntmps72
      go_wp2
      all_goals
        go_ret
        exact ⟨ret_bool (by rw [Bool.eq_iff_iff]; simp [inR]; try omega), belowA _ _⟩
    · go_enter Try.func72, Try.ntmps72
      go_wp2
      all_goals
        go_ret
        exact ⟨ret_bool (by rw [Bool.eq_iff_iff]; simp [inR]; try omega), belowA _ _⟩
  · go_enter Try.func72, Try.ntmps72
    go_wp2
    all_goals
      go_ret
      exact ⟨ret_bool (by rw [Bool.eq_iff_iff]; simp [inR]; try omega), belowA _ _⟩

def kd (s : Srt) (k : Int) : Nat := (kinds s).getD k.toNat 0
structure DeclOk (s : Srt) (f d : Dcl) : Prop where
  len : d.args.length = f.args.length
  res : 0 ≤ d.res ∧ d.res < s.names.length
  args : ∀ k ∈ d.args, 0 ≤ k ∧ k < s.names.length
  kres : kd s d.res = kd s f.res
  kargs : ∀ (i : Nat) (a b : Int), d.args[i]? = some a → f.args[i]? = some b → kd s a = kd s b
structure DeclsOk (s : Srt) (o : Opr) : Prop where
  len1 : 1 ≤ o.decls.length
  len4 : o.decls.length ≤ 4
  ar : ∀ f, o.decls[0]? = some f → f.args.length ≤ 3
  all : ∀ f, o.decls[0]? = some f → ∀ d ∈ o.decls, DeclOk s f d
open Classical in
noncomputable def declsOk (s : Srt) (o : Opr) : Bool := decide (DeclsOk s o)
theorem declsOk_true {s : Srt} {o : Opr} (h : DeclsOk s o) : declsOk s o = true := by simp [declsOk, h]
theorem declsOk_false {s : Srt} {o : Opr} (h : ¬ DeclsOk s o) : declsOk s o = false := by simp [declsOk, h]
theorem declsOk_iff {s : Srt} {o : Opr} : declsOk s o = true ↔ DeclsOk s o := by simp [declsOk]
theorem Rep.int {w : World} {S : Nat → Prop} {l : List Int} {A : Option Addr} {m cap k : Nat} {x : Int} (hl : ∀ x ∈ l, I64 x) (h : Rep w S (.sl (l.map encInt)) (.slice A m cap)) (hx : l[k]? = some x) : ∃ b off, A = some ⟨b, off, none⟩ ∧ b < w.heap.size ∧ w.cell? ⟨b, off + k, none⟩ = some (.int .i64 x) := by
  obtain ⟨b, off, hA, _, hb, hr⟩ := Rep.at okInt hl h hx
  simp only [encInt, RepRow, and_true, fieldsOf, List.length_cons, List.length_nil, Nat.zero_add, Nat.mul_one, Rep.lit_iff] at hr
  obtain ⟨_, hc, rfl⟩ := hr
  exact ⟨b, off, hA, hb, hc⟩
theorem casts_I64 {l : List Nat} (h : ∀ x ∈ l, x < 1000) : ∀ x ∈ casts l, I64 x := by
  intro x hx
  obtain ⟨y, hy, rfl⟩ := List.mem_map.1 hx
  have := h y hy
  exact ⟨by omega, by omega⟩
theorem info_Decl' : (Try.prog.info? 69).map (fun i => (i.zero, i.size, i.bytes)) = some (some (.agg #[.slice none 0 0, .int .i64 0]), 2, 32) := by kernel_rfl
/-- The number of a kind, as it lies. -/
theorem kd_cell {w : World} {S : Nat → Prop} {s : Srt} {A : Option Addr} {m cap : Nat} (hK : KOk s.names.length (kinds s)) (h8 : s.names.length ≤ 8) (h : Rep w S (.sl ((casts (kinds s)).map encInt)) (.slice A m cap)) {k : Nat} (hk : k < s.names.length) :
    ∃ b off, A = some ⟨b, off, none⟩ ∧ b < w.heap.size ∧ w.cell? ⟨b, off + k, none⟩ = some (.int .i64 (kd s (k : Int))) := by
  obtain ⟨h1, h2⟩ := hK.get hk
  have := Rep.int (casts_I64 fun x hx => by have := hK.2 x hx; omega) h (casts_get h1)
  simpa [kd] using this

set_option maxHeartbeats 4000000 in
set_option maxRecDepth 100000 in
theorem implDeclsOK (s : Srt) (o : Opr) (S : Nat → Prop) (Aa Ak : Option Addr) (n ca ck : Nat) (vb : Value) (us : List Value) (w : World) (hN : s.names.length = n) (h8 : n ≤ 8) (hK : KOk n (kinds s)) (hok : okOpr o) (hv : RepVals w S (encOpr o) us)
    (hb1 : vb.oneCell' = true) (hca : ca ≤ maxLen) (hna : n ≤ ca) (hk : Rep w S (.sl ((casts (kinds s)).map encInt)) (.slice Ak n ck)) :
    Calls Try.prog 54 #[.agg #[.slice Aa n ca, vb, .slice Ak n ck], .agg us.toArray] w fun e w' => e = .returned (.bool (declsOk s o)) ∧ Below w.heap.size w w' := by
  have hkl : (kinds s).length = n := hK.1
  have hkm : ck ≤ maxLen := by
    obtain ⟨_, _, h, _, h2⟩ := hk.shape
    injection h with _ _ h
    rw [h]
    exact h2
  obtain ⟨name, decls, ac, cm, un⟩ := o
  simp only [encOpr] at hv
  obtain ⟨v1, rfl, e1⟩ := repVals_Op hv
  obtain ⟨A1, cap1, rfl, hc1, hm1⟩ := e1.shape
  obtain ⟨ic, hci, _, hcs, _⟩ := info_parts info_Decl'
  have hne : ∀ {P : Prop}, P → P := id
  clear hne
  have HOK := Lib.hid hok
  have E1 := Lib.hid e1
  have HK := Lib.hid hK
  have HKR := Lib.hid hk
  have HN := Lib.hid hN
  clear hv e1 hok hkl hK hk hN
  generalize hM : decls.length = m at *
  have HM := Lib.hid hM
  clear hM
  have HH := Lib.hid (fun (k : Int) (w : World) => implHas Aa n ca vb (.slice Ak n ck) k w hb1 rfl hca hna)
  unfold maxLen at hm1 hca hkm
  by_cases hm0 : m = 0
  · subst hm0
    have HF : Hid (declsOk s ⟨name, decls, ac, cm, un⟩ = false) := declsOk_false fun h => by have := h.len1; have := HM.out; simp only at *; omega
    go_enter Try.func54, Try.ntmps54
    go_wp2
    go_ret
    exact ⟨ret_bool HF.out.symm, (belowA _ _).trans ((belowA _ _).mono (belowA _ _).size)⟩
  by_cases hm4 : 4 < m
  · have HF : Hid (declsOk s ⟨name, decls, ac, cm, un⟩ = false) := declsOk_false fun h => by have := h.len4; have := HM.out; simp only at *; omega
    go_enter Try.func54, Try.ntmps54
    go_wp2
    go_ret
    exact ⟨ret_bool HF.out.symm, (belowA _ _).trans ((belowA _ _).mono (belowA _ _).size)⟩
  obtain ⟨f, hf⟩ : ∃ f, decls[0]? = some f := ⟨_, List.getElem?_eq_getElem (by have := HM.out; omega)⟩
  obtain ⟨b1, o1, rfl, _, hz1, hrow⟩ := Rep.at okDclR HOK.out.2.1 E1.out hf
  have HFOK := Lib.hid (HOK.out.2.1 f (List.mem_of_getElem? hf))
  have HF0 := Lib.hid hf
  obtain ⟨fargs, fres⟩ := f
  simp only [encDcl, RepRow, and_true, fieldsOf, List.length_cons, List.length_nil, Nat.reduceAdd, Nat.zero_mul, Nat.add_zero, Rep.lit_iff] at hrow
  obtain ⟨⟨u0, c0, r0⟩, ⟨_, c1, rfl⟩⟩ := hrow
  obtain ⟨Af, capf, rfl, hcf, hmf⟩ := r0.shape
  have RF := Lib.hid r0
  clear hf r0
  unfold maxLen at hmf
  generalize hLF : fargs.length = lf at *
  have HLF := Lib.hid hLF
  clear hLF
  by_cases hl3 : 3 < lf
  · have HF : Hid (declsOk s ⟨name, decls, ac, cm, un⟩ = false) := declsOk_false fun h => by have := h.ar _ HF0.out; have := HLF.out; simp only at *; omega
    go_enter Try.func54, Try.ntmps54
    go_wp2
    go_ret
    exact ⟨ret_bool HF.out.symm, (belowA _ _).trans ((belowA _ _).mono (belowA _ _).size)⟩
  go_enter Try.func54, Try.ntmps54
  go_wp2_with (refine wpList_store_new rfl 69 _ _ rfl _ _ _ rfl _ rfl (by simp) [.slice Af lf capf, .int .i64 fres] rfl ic hci hcs rfl (by simp [Value.oneCell']) ?_)
  generalize hW : ((w.alloc _).alloc _).alloc _ = W
  have hbW : Below w.heap.size w W := by rw [← hW]; exact (((Below.refl _ _).alloc (Nat.le_refl _) _).alloc (by simp) _).alloc (by simp; omega) _
  have p0 : W.cell? ⟨w.heap.size, 0, none⟩ = some (.slice Aa n ca) := (by rw [← hW]; repeat' (first | (simp; done) | exact keepNew (by simp) rfl | refine keepA _ ?_))
  have p1 : W.cell? ⟨w.heap.size, 1, none⟩ = some vb := (by rw [← hW]; repeat' (first | (simp; done) | exact keepNew (by simp) rfl | refine keepA _ ?_))
  have p2 : W.cell? ⟨w.heap.size, 2, none⟩ = some (.slice Ak n ck) := (by rw [← hW]; repeat' (first | (simp; done) | exact keepNew (by simp) rfl | refine keepA _ ?_))
  have p3 : W.cell? ⟨w.heap.size + 1, 1, none⟩ = some (.slice (some ⟨b1, o1, none⟩) m cap1) := (by rw [← hW]; repeat' (first | (simp; done) | exact keepNew (by simp) rfl | refine keepA _ ?_))
  have p4 : W.cell? ⟨w.heap.size + 1 + 1, 0, none⟩ = some (.slice Af lf capf) := (by rw [← hW]; repeat' (first | (simp; done) | exact keepNew (by simp) rfl | refine keepA _ ?_))
  have p5 : W.cell? ⟨w.heap.size + 1 + 1, 1, none⟩ = some (.int .i64 fres) := (by rw [← hW]; repeat' (first | (simp; done) | exact keepNew (by simp) rfl | refine keepA _ ?_))
  have z1 : w.heap.size + 1 + 1 < W.heap.size := by rw [← hW]; simp
  clear hW c0 c1
  generalize hg1 : w.heap.size + 1 + 1 = g5 at *
  generalize hg2 : w.heap.size + 1 = g3 at *
  clear hg1 hg2
  have V5 := Lib.hid (RF.out.below hbW)
  have VK := Lib.hid (HKR.out.below hbW)
  have V1 := Lib.hid (E1.out.below hbW)
  clear E1 HKR RF
  by_cases hfr : 0 ≤ fres ∧ fres < n
  rotate_left
  · have HF : Hid (declsOk s ⟨name, decls, ac, cm, un⟩ = false) := declsOk_false fun h => hfr (by have := (h.all _ HF0.out _ (List.mem_of_getElem? HF0.out)).res; rw [HN.out] at this; exact this)
    have hin := inR_false hfr
    refine (HH.out _ _).mono ?_
    rintro e w2 ⟨rfl, hb2⟩
    rw [hin]
    clear hin hfr
    go_wp2
    go_ret
    exact ⟨ret_bool HF.out.symm, hbW.trans (hb2.mono hbW.size)⟩
  have hin := inR_true hfr
  refine (HH.out _ _).mono ?_
  rintro e w2 ⟨rfl, hb2⟩
  rw [hin]
  clear hin
  have q4 := keepB hb2 p4
  go_wp2
  clear q4
  go_loopw [43] (fun i wr => ∃ k : Nat, k ≤ lf ∧ i = .int .i64 k ∧ (∀ j x, j < k → fargs[j]? = some x → 0 ≤ x ∧ x < n) ∧ Below W.heap.size W wr) (fun i _ => lf - (intOf i).toNat)
  case atStart => exact ⟨0, Nat.zero_le _, rfl, fun j x h => by omega, hb2⟩
  case round =>
    obtain ⟨k, hk, rfl, hall, hb⟩ := hrel
    have HALL := Lib.hid hall
    clear hall
    have q0 := keepB hb p0
    have q1 := keepB hb p1
    have q2 := keepB hb p2
    by_cases hkn : k < lf
    · obtain ⟨x, hx⟩ : ∃ x, fargs[k]? = some x := ⟨_, List.getElem?_eq_getElem (by have := HLF.out; omega)⟩
      obtain ⟨bf, of, rfl, hbz, cx⟩ := Rep.int HFOK.out.1 (V5.out.below hb) hx
      have HX := Lib.hid hx
      clear hx
      by_cases hxr : 0 ≤ x ∧ x < n
      · have hin := inR_true hxr
        go_wp2_with (go_at_call 72; refine (HH.out _ _).mono ?_; rintro e w3 ⟨rfl, hb3⟩; rw [hin])
        go_roundw
        case rel =>
          refine ⟨k + 1, by omega, by go_num, fun j y hj hy => ?_, hb.trans (hb3.mono hb.size)⟩
          by_cases hjk : j = k
          · subst hjk
            rw [HX.out] at hy
            injection hy with hy
            rw [← hy]
            exact hxr
          · exact HALL.out j y (by omega) hy
        case measure => simp [intOf]; omega
      · have hin := inR_false hxr
        have HF : Hid (declsOk s ⟨name, decls, ac, cm, un⟩ = false) := declsOk_false fun h => hxr (by have := (h.all _ HF0.out _ (List.mem_of_getElem? HF0.out)).args x (List.mem_of_getElem? HX.out); rw [HN.out] at this; exact this)
        go_wp2_with (go_at_call 72; refine (HH.out _ _).mono ?_; rintro e w3 ⟨rfl, hb3⟩; rw [hin])
        go_ret
        exact ⟨ret_bool HF.out.symm, hbW.trans ((hb.trans (hb3.mono hb.size)).mono hbW.size)⟩
    · obtain rfl : lf = k := by omega
      have HFA : Hid (∀ x ∈ fargs, 0 ≤ x ∧ x < (n : Int)) := fun x hx => by
        obtain ⟨j, hj⟩ := List.mem_iff_getElem?.1 hx
        exact HALL.out j x (by have := (List.getElem?_eq_some_iff.1 hj).1; have := HLF.out; omega) hj
      have q3 := keepB hb p3
      go_wp2
      clear q0 q1 q2 q3 HALL
      have hb4 := hb
      clear hb
      obtain ⟨wo, rfl⟩ : ∃ x : World, x = wr := ⟨_, rfl⟩
      go_loopw [55] (fun i wr => ∃ k : Nat, k ≤ m ∧ i = .int .i64 k ∧ (∀ j d, j < k → decls[j]? = some d → DeclOk s ⟨fargs, fres⟩ d) ∧ Below W.heap.size W wr) (fun i _ => m - (intOf i).toNat)
      case atStart => exact ⟨0, Nat.zero_le _, rfl, fun j x h => by omega, hb4⟩
      case round =>
        obtain ⟨k, hk, rfl, hall, hb⟩ := hrel
        have HALL := Lib.hid hall
        clear hall
        by_cases hkm' : k < m
        · obtain ⟨d, hd⟩ : ∃ d, decls[k]? = some d := ⟨_, List.getElem?_eq_getElem (by have := HM.out; omega)⟩
          obtain ⟨_, _, hA, _, hbz, hrow⟩ := Rep.at okDclR HOK.out.2.1 (V1.out.below hb) hd
          injection hA with hA
          injection hA with hA hA'
          subst hA hA'
          have HDOK := Lib.hid (HOK.out.2.1 d (List.mem_of_getElem? hd))
          have HD := Lib.hid hd
          clear hd
          obtain ⟨dargs, dres⟩ := d
          simp only [encDcl, RepRow, and_true, fieldsOf, List.length_cons, List.length_nil, Nat.reduceAdd, Rep.lit_iff] at hrow
          obtain ⟨⟨u0, c0, r0⟩, ⟨_, c1, rfl⟩⟩ := hrow
          obtain ⟨Ad, capd, rfl, hcd, hmd⟩ := r0.shape
          have RD := Lib.hid r0
          clear r0
          unfold maxLen at hmd
          generalize hLD : dargs.length = ld at *
          have HLD := Lib.hid hLD
          clear hLD
          have hone : ∀ u ∈ [Value.slice Ad ld capd, Value.int .i64 dres], u.oneCell' = true := by simp [Value.oneCell']
          have HONE := Lib.hid hone
          clear hone
          go_wp2_with (refine wpList_store_new rfl 69 _ _ rfl _ _ _ rfl _ rfl (by simp) [.slice Ad ld capd, .int .i64 dres] rfl ic hci hcs rfl HONE.out ?_)
          generalize hW9 : wr.alloc _ = W9
          have hb9 : Below wr.heap.size wr W9 := by rw [← hW9]; exact belowA _ _
          have y0 : W9.cell? ⟨wr.heap.size, 0, none⟩ = some (.slice Ad ld capd) := (by rw [← hW9]; repeat' (first | (simp; done) | exact keepNew (by simp) rfl | refine keepA _ ?_))
          have y1 : W9.cell? ⟨wr.heap.size, 1, none⟩ = some (.int .i64 dres) := (by rw [← hW9]; repeat' (first | (simp; done) | exact keepNew (by simp) rfl | refine keepA _ ?_))
          clear hW9 c0 c1
          have hb5 : Below W.heap.size W W9 := hb.trans (hb9.mono hb.size)
          have k0 := cell_regrown (keepB hb5 p0)
          have k1 := cell_regrown (keepB hb5 p1)
          have k2 := cell_regrown (keepB hb5 p2)
          have k4 := cell_regrown (keepB hb5 p4)
          have k5 := cell_regrown (keepB hb5 p5)
          have k6 := cell_regrown y0
          have k7 := cell_regrown y1
          have HC : Hid (∀ (x : Int) d os, Calls Try.prog 72 #[.agg #[.slice Aa n ca, vb, .slice Ak n ck], .int .i64 x] (grow (redrawn W9 d) os) fun e w'' => e = .returned (.bool (inR n x)) ∧ ∃ p : Regrown, w'' = grow (redrawn W9 p.d) p.os) := fun x d os => Calls.regrown_of (HH.out x _)
          by_cases hc1 : ld = lf
          rotate_left
          · have HF : Hid (declsOk s ⟨name, decls, ac, cm, un⟩ = false) := declsOk_false fun h => hc1 (by have := (h.all _ HF0.out _ (List.mem_of_getElem? HD.out)).len; have := HLD.out; have := HLF.out; simp only at *; omega)
            have n1 : (ld == lf) = false := by simp [hc1]
            have n2 : ((ld : Int) == (lf : Int)) = false := by simp; omega
            have n3 : ((ld : Int) != (lf : Int)) = true := by simp; omega
            (refine wp_region_quiet_below (by kernel_rfl) (by kernel_rfl) ?_
             repeat (first | go_big_quiet_step (first | (go_at_call 72; exact HC.out _ _ _)) | quiet_step (first | (go_at_call 72; exact HC.out _ _ _)))
             refine wpQuiet_nil ?_
             intro _ hw'
             obtain ⟨⟨dq, osq⟩, hw''⟩ := hw'
             subst hw'')
            go_wp2
            go_ret
            exact ⟨ret_bool HF.out.symm, hbW.trans ((hb5.trans ((below_regrown W9 dq osq).mono hb5.size)).mono hbW.size)⟩
          obtain rfl : lf = ld := hc1.symm
          by_cases hc2 : 0 ≤ dres ∧ dres < n
          rotate_left
          · have HF : Hid (declsOk s ⟨name, decls, ac, cm, un⟩ = false) := declsOk_false fun h => hc2 (by have := (h.all _ HF0.out _ (List.mem_of_getElem? HD.out)).res; rw [HN.out] at this; exact this)
            have hin := inR_false hc2
            have HCd := Lib.hid (fun d os => HC.out dres d os)
            rw [hin] at HCd
            clear hc2 hin
            (refine wp_region_quiet_below (by kernel_rfl) (by kernel_rfl) ?_
             repeat (first | go_big_quiet_step (first | (go_at_call 72; exact HCd.out _ _)) | quiet_step (first | (go_at_call 72; exact HCd.out _ _)))
             refine wpQuiet_nil ?_
             intro _ hw'
             obtain ⟨⟨dq, osq⟩, hw''⟩ := hw'
             subst hw'')
            go_wp2
            go_ret
            exact ⟨ret_bool HF.out.symm, hbW.trans ((hb5.trans ((below_regrown W9 dq osq).mono hb5.size)).mono hbW.size)⟩
          have HCd := Lib.hid (fun d os => HC.out dres d os)
          rw [inR_true hc2] at HCd
          obtain ⟨dn, rfl⟩ := Int.eq_ofNat_of_zero_le hc2.1
          obtain ⟨fn, rfl⟩ := Int.eq_ofNat_of_zero_le hfr.1
          obtain ⟨bk, ok, rfl, hbk, kc1⟩ := kd_cell (by rw [HN.out]; exact HK.out) (by rw [HN.out]; exact h8) (VK.out.below hb5) (k := dn) (by rw [HN.out]; omega)
          obtain ⟨_, _, hA, _, kc2⟩ := kd_cell (by rw [HN.out]; exact HK.out) (by rw [HN.out]; exact h8) (VK.out.below hb5) (k := fn) (by rw [HN.out]; omega)
          injection hA with hA
          injection hA with hA hA'
          subst hA hA'
          have k8 := cell_regrown kc1
          have k9 := cell_regrown kc2
          by_cases hc3 : kd s dn = kd s fn
          rotate_left
          · have HF : Hid (declsOk s ⟨name, decls, ac, cm, un⟩ = false) := declsOk_false fun h => hc3 (h.all _ HF0.out _ (List.mem_of_getElem? HD.out)).kres
            generalize kd s dn = kx at *
            generalize kd s fn = ky at *
            have n1 : (kx == ky) = false := by simp [hc3]
            have n2 : ((kx : Int) == (ky : Int)) = false := by simp; omega
            have n3 : ((kx : Int) != (ky : Int)) = true := by simp; omega
            (refine wp_region_quiet_below (by kernel_rfl) (by kernel_rfl) ?_
             repeat (first | go_big_quiet_step (first | (go_at_call 72; exact HCd.out _ _)) | quiet_step (first | (go_at_call 72; exact HCd.out _ _)))
             refine wpQuiet_nil ?_
             intro _ hw'
             obtain ⟨⟨dq, osq⟩, hw''⟩ := hw'
             subst hw'')
            go_wp2
            go_ret
            exact ⟨ret_bool HF.out.symm, hbW.trans ((hb5.trans ((below_regrown W9 dq osq).mono hb5.size)).mono hbW.size)⟩
          have HC3 := Lib.hid hc3
          rw [hc3] at k8 kc1
          generalize kd s fn = ky at k8 k9 kc1 kc2
          clear hc3
          (refine wp_region_quiet_below (by kernel_rfl) (by kernel_rfl) ?_
           repeat (first | go_big_quiet_step (first | (go_at_call 72; exact HCd.out _ _)) | quiet_step (first | (go_at_call 72; exact HCd.out _ _)))
           refine wpQuiet_nil ?_
           intro _ hw'
           obtain ⟨⟨dq, osq⟩, hw''⟩ := hw'
           subst hw'')
          have hb6 : Below W.heap.size W (grow (redrawn W9 dq) osq) := hb5.trans ((below_regrown W9 dq osq).mono hb5.size)
          have y2 := k6 dq osq
          have y3 := k7 dq osq
          clear k0 k1 k2 k4 k5 k6 k7 k8 k9 kc1 kc2 HCd HC y0 y1
          have hb10 := below_regrown W9 dq osq
          have RD2 := Lib.hid ((RD.out.below hb9).below hb10)
          clear RD
          generalize grow (redrawn W9 dq) osq = W10 at *
          go_wp2
          have hb11 := hb6
          clear y2 y3 hb5 hb6 hb9 hb10
          obtain ⟨wo2, rfl⟩ : ∃ x : World, x = wr := ⟨_, rfl⟩
          go_loopw [91] (fun i wr => ∃ j : Nat, j ≤ lf ∧ i = .int .i64 j ∧ (∀ (i : Nat) (a b : Int), i < j → dargs[i]? = some a → fargs[i]? = some b → (0 ≤ a ∧ a < n) ∧ kd s a = kd s b) ∧ Below W10.heap.size W10 wr) (fun i _ => lf - (intOf i).toNat)
          case atStart => exact ⟨0, Nat.zero_le _, rfl, fun i a b h => by omega, Below.refl _ _⟩
          case round =>
            obtain ⟨j, hj, rfl, hall, hb⟩ := hrel
            have HA2 := Lib.hid hall
            clear hall
            by_cases hjn : j < lf
            · obtain ⟨x, hx⟩ : ∃ x, dargs[j]? = some x := ⟨_, List.getElem?_eq_getElem (by have := HLD.out; omega)⟩
              obtain ⟨y, hy⟩ : ∃ y, fargs[j]? = some y := ⟨_, List.getElem?_eq_getElem (by have := HLF.out; omega)⟩
              obtain ⟨bd, od, rfl, hbd, cx⟩ := Rep.int HDOK.out.1 (RD2.out.below hb) hx
              have hb12 : Below W.heap.size W wr := hb11.trans (hb.mono hb11.size)
              obtain ⟨bf, of, rfl, hbf, cy⟩ := Rep.int HFOK.out.1 (V5.out.below hb12) hy
              have hyr := HFA.out y (List.mem_of_getElem? hy)
              have HX := Lib.hid hx
              have HY := Lib.hid hy
              clear hx hy
              have k0 := cell_regrown (keepB hb12 p0)
              have k1 := cell_regrown (keepB hb12 p1)
              have k2 := cell_regrown (keepB hb12 p2)
              have k4 := cell_regrown (keepB hb12 p4)
              have k5 := cell_regrown cy
              have HC : Hid (∀ (x : Int) d os, Calls Try.prog 72 #[.agg #[.slice Aa n ca, vb, .slice (some ⟨bk, ok, none⟩) n ck], .int .i64 x] (grow (redrawn wr d) os) fun e w'' => e = .returned (.bool (inR n x)) ∧ ∃ p : Regrown, w'' = grow (redrawn wr p.d) p.os) := fun x d os => Calls.regrown_of (HH.out x _)
              by_cases hxr : 0 ≤ x ∧ x < n
              rotate_left
              · have HF : Hid (declsOk s ⟨name, decls, ac, cm, un⟩ = false) := declsOk_false fun h => hxr (by have := (h.all _ HF0.out _ (List.mem_of_getElem? HD.out)).args x (List.mem_of_getElem? HX.out); rw [HN.out] at this; exact this)
                have HCd := Lib.hid (fun d os => HC.out x d os)
                rw [inR_false hxr] at HCd
                clear hxr
                go_wp2_with fail
                (refine wp_region_quiet_below (by kernel_rfl) (by kernel_rfl) ?_
                 repeat (first | go_big_quiet_step (first | (go_at_call 72; exact HCd.out _ _)) | quiet_step (first | (go_at_call 72; exact HCd.out _ _)))
                 refine wpQuiet_nil ?_
                 intro _ hw'
                 obtain ⟨⟨dq, osq⟩, hw''⟩ := hw'
                 subst hw'')
                go_wp2
                go_ret
                exact ⟨ret_bool HF.out.symm, hbW.trans ((hb12.trans ((below_regrown wr dq osq).mono hb12.size)).mono hbW.size)⟩
              have HCd := Lib.hid (fun d os => HC.out x d os)
              rw [inR_true hxr] at HCd
              obtain ⟨xn, rfl⟩ := Int.eq_ofNat_of_zero_le hxr.1
              obtain ⟨yn, rfl⟩ := Int.eq_ofNat_of_zero_le hyr.1
              obtain ⟨_, _, hA, _, kc1⟩ := kd_cell (by rw [HN.out]; exact HK.out) (by rw [HN.out]; exact h8) (VK.out.below hb12) (k := xn) (by rw [HN.out]; omega)
              injection hA with hA
              injection hA with hA hA'
              subst hA hA'
              obtain ⟨_, _, hA, _, kc2⟩ := kd_cell (by rw [HN.out]; exact HK.out) (by rw [HN.out]; exact h8) (VK.out.below hb12) (k := yn) (by rw [HN.out]; omega)
              injection hA with hA
              injection hA with hA hA'
              subst hA hA'
              have k8 := cell_regrown kc1
              have k9 := cell_regrown kc2
              by_cases hc3 : kd s xn = kd s yn
              rotate_left
              · have HF : Hid (declsOk s ⟨name, decls, ac, cm, un⟩ = false) := declsOk_false fun h => hc3 ((h.all _ HF0.out _ (List.mem_of_getElem? HD.out)).kargs j _ _ HX.out HY.out)
                generalize kd s xn = kx at *
                generalize kd s yn = kz at *
                have n1 : (kx == kz) = false := by simp [hc3]
                have n2 : ((kx : Int) == (kz : Int)) = false := by simp; omega
                have n3 : ((kx : Int) != (kz : Int)) = true := by simp; omega
                go_wp2_with fail
                (refine wp_region_quiet_below (by kernel_rfl) (by kernel_rfl) ?_
                 repeat (first | go_big_quiet_step (first | (go_at_call 72; exact HCd.out _ _)) | quiet_step (first | (go_at_call 72; exact HCd.out _ _)))
                 refine wpQuiet_nil ?_
                 intro _ hw'
                 obtain ⟨⟨dq, osq⟩, hw''⟩ := hw'
                 subst hw'')
                go_wp2
                go_ret
                exact ⟨ret_bool HF.out.symm, hbW.trans ((hb12.trans ((below_regrown wr dq osq).mono hb12.size)).mono hbW.size)⟩
              have HC4 := Lib.hid hc3
              rw [hc3] at k8 kc1
              generalize kd s yn = kz at k8 k9 kc1 kc2
              clear hc3
              go_wp2_with fail
              (refine wp_region_quiet_below (by kernel_rfl) (by kernel_rfl) ?_
               repeat (first | go_big_quiet_step (first | (go_at_call 72; exact HCd.out _ _)) | quiet_step (first | (go_at_call 72; exact HCd.out _ _)))
               refine wpQuiet_nil ?_
               intro _ hw'
               obtain ⟨⟨dq, osq⟩, hw''⟩ := hw'
               subst hw'')
              go_wp2
              go_roundw
              case rel =>
                refine ⟨j + 1, by omega, by go_num, fun i a b hi ha hb' => ?_, hb.trans ((below_regrown wr dq osq).mono hb.size)⟩
                by_cases hij : i = j
                · subst hij
                  rw [HX.out] at ha
                  rw [HY.out] at hb'
                  injection ha with ha
                  injection hb' with hb'
                  rw [← ha, ← hb']
                  exact ⟨hxr, HC4.out⟩
                · exact HA2.out i a b (by omega) ha hb'
              case measure => simp [intOf]; omega
            · obtain rfl : lf = j := by omega
              have HDO : Hid (DeclOk s ⟨fargs, fn⟩ ⟨dargs, dn⟩) := by
                refine ⟨by have := HLD.out; have := HLF.out; simp only; omega, by rw [HN.out]; exact hc2, fun x hx => ?_, HC3.out, fun i a b ha hb' => ?_⟩
                · rw [HN.out]
                  obtain ⟨i, hi⟩ := List.mem_iff_getElem?.1 hx
                  have hil : i < dargs.length := (List.getElem?_eq_some_iff.1 hi).1
                  have hil2 := HLD.out
                  have hil3 := HLF.out
                  exact (HA2.out i x fargs[i] (by omega) hi (List.getElem?_eq_getElem (by omega))).1
                · have hil : i < fargs.length := (List.getElem?_eq_some_iff.1 hb').1
                  have hil3 := HLF.out
                  exact (HA2.out i a b (by omega) ha hb').2
              go_wp2
              go_roundw
              case rel =>
                refine ⟨k + 1, by omega, by go_num, fun i d hi hd => ?_, hb11.trans (hb.mono hb11.size)⟩
                by_cases hik : i = k
                · subst hik
                  rw [HD.out] at hd
                  injection hd with hd
                  rw [← hd]
                  exact HDO.out
                · exact HALL.out i d (by omega) hd
              case measure => simp [intOf]; omega
        · obtain rfl : m = k := by omega
          have HF : Hid (declsOk s ⟨name, decls, ac, cm, un⟩ = true) := declsOk_true (by
            have hm' := HM.out
            have hl' := HLF.out
            refine ⟨by simp only; omega, by simp only; omega, fun f hf => ?_, fun f hf d hd => ?_⟩
            · rw [HF0.out] at hf
              injection hf with hf
              subst hf
              simp only
              omega
            · rw [HF0.out] at hf
              injection hf with hf
              subst hf
              obtain ⟨i, hi⟩ := List.mem_iff_getElem?.1 hd
              exact HALL.out i d (by have hil : i < decls.length := (List.getElem?_eq_some_iff.1 hi).1; omega) hi)
          go_wp2
          go_ret
          exact ⟨ret_bool HF.out.symm, hbW.trans (hb.mono hbW.size)⟩
end Go.Proofs.Ytlhbdhdaecchoaa
