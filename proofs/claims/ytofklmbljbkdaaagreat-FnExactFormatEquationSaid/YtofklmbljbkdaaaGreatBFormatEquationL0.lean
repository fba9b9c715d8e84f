/-
  FnExactFormatEquation returns true for every signature and equation, and turns nothing: proved without conditions.
-/
import Derived.Test.YtofklmbljbkdaaaGreatBBase0
import Derived.Test.YtofklmbljbkdaaaGreatBBase1
import Derived.Test.YtofklmbljbkdaaaGreatBBase2
import Derived.Test.YtofklmbljbkdaaaGreatBBase3
import Derived.Test.YtofklmbljbkdaaaGreatBBase4
import Derived.Test.YtofklmbljbkdaaaGreatBFormatEquation0
import Derived.Test.YtofklmbljbkdaaaGreatBBaseL0
import Derived.Shelf.Lays
import Derived.Test.YtofklmbljbkdaaaGreatChecked
import Derived.Shelf.Strings.OnBuilder
set_option linter.unusedSimpArgs false
set_option linter.unusedVariables false
namespace Go.Proofs.YtofklmbljbkdaaaGreat
open Go.Shelf
def joinS_ren : Ren := ⟨fun | 156 => 216 | 165 => 240 | 166 => 241 | 169 => 242 | 240 => 257 | 241 => 258 | 276 => 265 | 277 => 266 | n => n, fun | 31 => 22 | 9 => 9 | 3 => 3 | 4 => 4 | 0 => 0 | 20 => 20 | 72 => 278 | 76 => 282 | 70 => 276 | 37 => 223 | 75 => 281 | 127 => 297 | 164 => 304 | 5 => 5 | 80 => 284 | n => n, fun | n => n⟩
theorem joinS : Go.Proofs.Lays.n156 Tryz.prog joinS_ren := {
  mixed := by kernel_rfl,
  f156 := Tryz.func216.trans (congrArg some (by kernel_rfl)),
  f165 := Tryz.func240.trans (congrArg some (by kernel_rfl)),
  f166 := Tryz.func241.trans (congrArg some (by kernel_rfl)),
  f169 := Tryz.func242.trans (congrArg some (by kernel_rfl)),
  f240 := Tryz.func257.trans (congrArg some (by kernel_rfl)),
  f241 := Tryz.func258.trans (congrArg some (by kernel_rfl)),
  f276 := Tryz.func265.trans (congrArg some (by kernel_rfl)),
  f277 := Tryz.func266.trans (congrArg some (by kernel_rfl)),
  t0 := Tryz.underlying0,
  a0 := Tryz.isAgg0,
  z0 := Tryz.sizeOf0,
  v0 := Tryz.zeroValue0,
  t3 := Tryz.underlying3,
  a3 := Tryz.isAgg3,
  z3 := Tryz.sizeOf3,
  v3 := Tryz.zeroValue3,
  t4 := Tryz.underlying4,
  a4 := Tryz.isAgg4,
  z4 := Tryz.sizeOf4,
  v4 := Tryz.zeroValue4,
  t9 := Tryz.underlying9,
  a9 := Tryz.isAgg9,
  z9 := Tryz.sizeOf9,
  v9 := Tryz.zeroValue9,
  t20 := Tryz.underlying20,
  a20 := Tryz.isAgg20,
  z20 := Tryz.sizeOf20,
  v20 := Tryz.zeroValue20,
  t31 := Tryz.underlying22,
  a31 := Tryz.isAgg22,
  z31 := Tryz.sizeOf22,
  v31 := Tryz.zeroValue22,
  t37 := Tryz.underlying223,
  a37 := Tryz.isAgg223,
  z37 := Tryz.sizeOf223,
  v37 := Tryz.zeroValue223,
  t70 := Tryz.underlying276,
  a70 := Tryz.isAgg276,
  z70 := Tryz.sizeOf276,
  v70 := Tryz.zeroValue276,
  t72 := Tryz.underlying278,
  a72 := Tryz.isAgg278,
  z72 := Tryz.sizeOf278,
  v72 := Tryz.zeroValue278,
  t75 := Tryz.underlying281,
  a75 := Tryz.isAgg281,
  z75 := Tryz.sizeOf281,
  v75 := Tryz.zeroValue281,
  t76 := Tryz.underlying282,
  a76 := Tryz.isAgg282,
  z76 := Tryz.sizeOf282,
  v76 := Tryz.zeroValue282,
  t127 := Tryz.underlying297,
  a127 := Tryz.isAgg297,
  z127 := Tryz.sizeOf297,
  v127 := Tryz.zeroValue297,
  t164 := Tryz.underlying304,
  a164 := Tryz.isAgg304,
  z164 := Tryz.sizeOf304,
  v164 := Tryz.zeroValue304 }
end Go.Proofs.YtofklmbljbkdaaaGreat
namespace Go.Proofs.YtofklmbljbkdaaaGreat
open Go.RowKit
theorem joinX : Go.Proofs.Builder.Extra Tryz.prog joinS_ren :=
  { sizeBuilder := by kernel_rfl, liesBuilder := by kernel_rfl, t5 := by kernel_rfl, a5 := Tryz.isAgg5, z5 := Tryz.sizeOf5, v5 := Tryz.zeroValue5, infoByte := by kernel_rfl, cellsByte := by kernel_rfl, sizeByte := by kernel_rfl, neB5 := by decide }
def joinB (l : List ByteArray) (sep : ByteArray) : ByteArray := ⟨(Lib.join (l.map (·.data.toList)) sep.data.toList).toArray⟩
theorem con_join {l : List ByteArray} {sep : ByteArray} (hN : l.length ≤ 1000000) (hlen : (Lib.join (l.map (·.data.toList)) sep.data.toList).length ≤ 140737488355328) : Con e0 216 [.one (.sl (l.map encStr)), .one (.lit (.string sep))] [.one (.lit (.string (joinB l sep)))] := by
  refine con_below e0_ok (by kernel_rfl) fun w S vs hv => ?_
  match vs, hv with
  | [v, u], hv =>
    obtain ⟨hv, hu, _⟩ := hv
    have hu : u = .string sep := by simpa [DRel, Rep] using hu
    subst hu
    simp only [DRel, Rep] at hv
    obtain ⟨A, n, cap, rfl, hn, hc, hm, hr⟩ := hv
    rw [List.length_map] at hn
    cases l with
    | nil =>
      simp only [List.length_nil] at hn
      subst hn
      refine (Any.strings_Join_none joinS joinX A cap sep w).mono fun e w' ⟨h1, h2⟩ => ⟨_, h1, by subst h2; exact Below.refl _ _, ?_⟩
      simp [retA, ARel, DRel, Rep, joinB, Lib.join]
    | cons x r =>
      obtain ⟨b, off, rfl, hS, hbk, hrr⟩ := hr (by rw [List.length_cons] at hn; omega)
      have hcells : ∀ (j : Nat) y, (x :: r)[j]? = some y → w.cell? ⟨b, off + j, none⟩ = some (.string y) := fun j y hj => by
        have h1 := RepRows.get ((x :: r).map encStr) off j (encStr y) (k := 1) (fun z hz => by obtain ⟨q, _, rfl⟩ := List.mem_map.1 hz; rfl) hrr (by rw [List.getElem?_map, hj]; rfl)
        simpa [encStr, RepRow, Rep] using h1
      subst hn
      refine (Any.strings_Join joinS joinX b off cap (x :: r) sep w hcells hbk (by omega) hc hlen).mono fun e w' ⟨h1, h2⟩ => ⟨_, h1, h2, ?_⟩
      simp [retA, ARel, DRel, Rep, joinB]
end Go.Proofs.YtofklmbljbkdaaaGreat
namespace Go.Proofs.YtofklmbljbkdaaaGreat
open Go.RowKit
theorem join_snoc (sep : List UInt8) : ∀ (l : List (List UInt8)) (x : List UInt8), Lib.join (l ++ [x]) sep = (if l = [] then [] else Lib.join l sep ++ sep) ++ x
  | [], x => by simp [Lib.join]
  | a :: r, x => by
    rw [List.cons_append, Lib.join_cons, Lib.join_cons, if_neg (by simp)]
    simp [Lib.joinTail, List.append_assoc]
theorem joinB_step {l : List ByteArray} {sep x : ByteArray} {i : Nat} (h : l[i]? = some x) : joinB (l.take (i + 1)) sep = (if i = 0 then joinB (l.take i) sep else joinB (l.take i) sep ++ sep) ++ x := by
  have hi := (List.getElem?_eq_some_iff.1 h).1
  rw [take_snoc h]
  unfold joinB
  rw [List.map_append, List.map_cons, List.map_nil, join_snoc]
  by_cases h0 : i = 0
  · subst h0
    simp [Lib.join]
    rfl
  · have hne : (l.take i).map (fun x => x.data.toList) ≠ [] := fun e => by
      have := congrArg List.length e
      simp only [List.length_map, List.length_take, List.length_nil] at this
      omega
    rw [if_neg hne, if_neg h0]
    apply ByteArray.ext
    simp [ByteArray.data_append]
theorem join_0 (sep : ByteArray) : byR (joinB [] sep) = [] := rfl
theorem bytesTyS : bytesTy e0.P 223 9 = true := by kernel_rfl
theorem un_strB : e0.P.underlying 9 = some .string := by kernel_rfl
set_option maxHeartbeats 8000000 in
set_option maxRecDepth 100000 in
theorem con_specJoin {l : List ByteArray} {sep : ByteArray} (hl : l.length ≤ 1000000) (hs : sep.size ≤ 1048576) (hB : ∀ i, (joinB (l.take i) sep).size ≤ 1048576) : Con e0 163 [.one (.sl (l.map encStr)), .one (.lit (.string sep))] [.one (.lit (.string (joinB l sep)))] := by
  have hrs := rb_str l
  refine gI 134252659 Tryz.func163 ?_
  (have F := @e0P; refine gG ?_; clear F)
  (have F := @join_0; refine gL (ι := Nat) [4, 5, 6, 11, 15, 27] [5] (fun i => [(6, A.d (.one (.lit (.int .i64 i)))), (5, .buf 5)]) (fun i => [(5, .buf none 5 1 (byR (joinB (l.take i) sep)))]) (fun i => i ≤ l.length) (fun i => l.length - i) (0) (Nat.zero_le _) (fun i hi => ?_); clear F)
  by_cases hlt : i < l.length
  rotate_left
  · obtain rfl : i = l.length := by omega
    have q1 : ¬ ((l.length : Int) < (l.length : Int)) := by omega
    rw [List.take_length]
    (have F := @q1; have NN : StopAt 10 := trivial; refine gGn ?_; clear F NN)
    refine gB ?_
    (have F := @e0P; refine gP 1 ?_; clear F)
    refine (have F := q1; gTx (k := 5) (joinB l sep) bytesTyS ?_)
    (have F := @e0P; refine gR ?_; clear F)
    (have F := @e0P; refine gG ?_; exact gT)
  have q1 : (i : Int) < (l.length : Int) := by omega
  have hw := wrap1 (k := i) (by omega)
  obtain ⟨x, hx⟩ : ∃ x, l[i]? = some x := ⟨_, List.getElem?_eq_getElem hlt⟩
  have hst := joinB_step (sep := sep) hx
  have hb1 := hB i
  have hb2 := hB (i + 1)
  have hl1 := byR_len (joinB (l.take i) sep)
  have hl2 := byR_len (joinB (l.take (i + 1)) sep)
  have hsz := byR_len sep
  by_cases h0 : i = 0
  · have z0 : ((0 : Int) < (i : Int)) = False := eq_false (by omega)
    rw [if_pos h0] at hst
    have hap := byR_app (joinB (l.take i) sep) x
    rw [← hst] at hap
    have hle : (byR (joinB (l.take i) sep)).length + (byR x).length ≤ maxApp := by
      rw [← List.length_append, hap, hl2]; unfold maxApp; omega
    have z1 : ((1048576 : Int) < (((joinB (l.take (i + 1)) sep).size : Nat) : Int)) = False := eq_false (by omega)
    (have F := And.intro @q1 @z0; have NN : StopAt 7 := trivial; refine gGn ?_; clear F NN)
    refine gB ?_
    (have F := And.intro @hx (And.intro @encStr_u (And.intro @hrs @q1)); refine gP 5 ?_; clear F)
    refine (have F := q1; gSt (k := 5) hle un_strB ?_)
    rw [hap]
    (have F := @e0P; refine gR ?_; clear F)
    (have F := And.intro @hl2 (And.intro @z1 @hw); refine gG ?_; exact ⟨i + 1, hlt, gw, gw, by omega⟩)
  · have z0 : ((0 : Int) < (i : Int)) = True := eq_true (by omega)
    rw [if_neg h0] at hst
    have hap1 := byR_app (joinB (l.take i) sep) sep
    have hap := byR_app (joinB (l.take i) sep ++ sep) x
    rw [← hst] at hap
    have hle1 : (byR (joinB (l.take i) sep)).length + (byR sep).length ≤ maxApp := by
      rw [hl1, hsz]; unfold maxApp; omega
    have hle : (byR (joinB (l.take i) sep ++ sep)).length + (byR x).length ≤ maxApp := by
      rw [← List.length_append, hap, hl2]; unfold maxApp; omega
    have z1 : ((1048576 : Int) < (((joinB (l.take (i + 1)) sep).size : Nat) : Int)) = False := eq_false (by omega)
    (have F := And.intro @q1 @z0; have NN : StopAt 6 := trivial; refine gGn ?_; clear F NN)
    refine gB ?_
    (have F := @q1; refine gP 2 ?_; clear F)
    refine (have F := q1; gSt (k := 5) hle1 un_strB ?_)
    rw [hap1]
    (have F := @e0P; refine gR ?_; clear F)
    (have F := And.intro @q1 @z0; have NN : StopAt 7 := trivial; refine gGn ?_; clear F NN)
    refine gB ?_
    (have F := And.intro @hx (And.intro @encStr_u (And.intro @hrs @q1)); refine gP 5 ?_; clear F)
    refine (have F := q1; gSt (k := 5) hle un_strB ?_)
    rw [hap]
    (have F := @e0P; refine gR ?_; clear F)
    (have F := And.intro @hl2 (And.intro @z1 @hw); refine gG ?_; exact ⟨i + 1, hlt, gw, gw, by omega⟩)
end Go.Proofs.YtofklmbljbkdaaaGreat
namespace Go.Proofs.YtofklmbljbkdaaaGreat
open Go.RowKit
def srtNm (g : Sgn) (k : Int) : ByteArray := (g.sorts.names[k.toNat]?).getD ByteArray.empty
def oprNm (g : Sgn) (k : Int) : ByteArray := ((g.ops[k.toNat]?).map (·.name)).getD ByteArray.empty
mutual
def fmtTm (g : Sgn) : Tm → ByteArray
  | .mk op nm so args => if op = -1 then nm ++ ⟨#[58]⟩ ++ srtNm g so else if args.length = 0 then oprNm g op else oprNm g op ++ ⟨#[40]⟩ ++ joinB (fmtTms g args) ⟨#[44, 32]⟩ ++ ⟨#[41]⟩
def fmtTms (g : Sgn) : List Tm → List ByteArray
  | [] => []
  | t :: ts => fmtTm g t :: fmtTms g ts
end
theorem fmtTms_eq (g : Sgn) : ∀ ts : List Tm, fmtTms g ts = ts.map (fmtTm g)
  | [] => by simp [fmtTms]
  | t :: ts => by simp [fmtTms, fmtTms_eq g ts]
theorem fmt_var {g : Sgn} {t : Tm} (h : t.op = -1) : fmtTm g t = t.name ++ ⟨#[58]⟩ ++ srtNm g t.sort := by
  obtain ⟨op, nm, so, args⟩ := t
  simp only [Tm.op, Tm.name, Tm.sort] at h ⊢
  simp only [fmtTm, if_pos h]
theorem fmt_one {g : Sgn} {t : Tm} (h : t.op ≠ -1) (h0 : t.args.length = 0) : fmtTm g t = oprNm g t.op := by
  obtain ⟨op, nm, so, args⟩ := t
  simp only [Tm.op, Tm.args] at h h0 ⊢
  simp only [fmtTm, if_neg h, if_pos h0]
theorem fmt_app {g : Sgn} {t : Tm} (h : t.op ≠ -1) (h0 : ¬ t.args.length = 0) : fmtTm g t = oprNm g t.op ++ ⟨#[40]⟩ ++ joinB (fmtTms g t.args) ⟨#[44, 32]⟩ ++ ⟨#[41]⟩ := by
  obtain ⟨op, nm, so, args⟩ := t
  simp only [Tm.op, Tm.args] at h h0 ⊢
  simp only [fmtTm, if_neg h, if_neg h0]
theorem name12 {s : ByteArray} (h : isName s = true) : s.size ≤ 12 := by
  simp only [isName, Bool.and_eq_true, decide_eq_true_eq] at h
  omega
theorem opr12 {g : Sgn} (hg : SgnOk g) (k : Int) : (oprNm g k).size ≤ 12 := by
  unfold oprNm
  rcases h : g.ops[k.toNat]? with _ | o
  · exact Nat.zero_le _
  · exact name12 (hg.names _ o h).1
theorem srt12 {g : Sgn} (hg : SgnOk g) (k : Int) : (srtNm g k).size ≤ 12 := by
  unfold srtNm
  rcases h : g.sorts.names[k.toNat]? with _ | s
  · exact Nat.zero_le _
  · have hl := (List.getElem?_eq_some_iff.1 h).1
    exact name12 (hg.sorts.names _ hl s h).1
def pieces (l : List ByteArray) (n : Nat) : Nat := (l.map fun x => x.size + n).sum
theorem joinB_size (sep : ByteArray) : ∀ l : List ByteArray, (joinB l sep).size ≤ pieces l sep.size
  | [] => by show 0 ≤ _; omega
  | a :: r => by
    have ht : ∀ r : List ByteArray, (Lib.joinTail sep.data.toList (r.map (·.data.toList))).length ≤ pieces r sep.size := fun r => by
      induction r with
      | nil => simp [Lib.joinTail, pieces]
      | cons b r ih =>
        simp only [Lib.joinTail, pieces, List.map_cons, List.flatten_cons, List.length_append, List.sum_cons] at ih ⊢
        have h1 : b.data.toList.length = b.size := by rw [Array.length_toList]; rfl
        have h2 : sep.data.toList.length = sep.size := by rw [Array.length_toList]; rfl
        omega
    have h0 : (joinB (a :: r) sep).size = (Lib.join ((a :: r).map (·.data.toList)) sep.data.toList).length := by
      show (Lib.join ((a :: r).map (·.data.toList)) sep.data.toList).toArray.size = _
      exact List.size_toArray
    rw [h0, List.map_cons, Lib.join_cons, List.length_append]
    have h1 : a.data.toList.length = a.size := by rw [Array.length_toList]; rfl
    have := ht r
    simp only [pieces, List.map_cons, List.sum_cons] at this ⊢
    omega
mutual
theorem fmt_size {g : Sgn} (hg : SgnOk g) : ∀ (t : Tm), FormOk g t → (fmtTm g t).size + 2 ≤ 32 * sizeTm t
  | .mk op nm so args, h => by
    have h2 := opr12 hg op
    simp only [sizeTm]
    rcases op_cases h.node with ⟨h1, _⟩ | ⟨h1, o, d, hap⟩
    · have hop : op = -1 := h1.1
      have h3 := srt12 hg so
      have h4 := name12 h1.2.1
      simp only [Tm.name] at h4
      simp only [fmtTm, if_pos hop, ByteArray.size_append]
      have h5 : (ByteArray.mk #[58]).size = 1 := rfl
      omega
    · have hop : ¬ op = -1 := by simp only [Tm.op] at h1; omega
      simp only [fmtTm, if_neg hop]
      split
      · omega
      · simp only [FormOk] at h
        have h5 := fmts_size hg args h.2.1
        have h6 := joinB_size ⟨#[44, 32]⟩ (fmtTms g args)
        have h7 : (ByteArray.mk #[44, 32]).size = 2 := rfl
        have h8 : (ByteArray.mk #[40]).size = 1 := rfl
        have h9 : (ByteArray.mk #[41]).size = 1 := rfl
        rw [h7] at h6
        simp only [ByteArray.size_append]
        omega
theorem fmts_size {g : Sgn} (hg : SgnOk g) : ∀ (ts : List Tm), FormOks g ts → pieces (fmtTms g ts) 2 ≤ 32 * sizeTms ts
  | [], _ => by simp [fmtTms, pieces]
  | t :: ts, h => by
    simp only [FormOks] at h
    have h1 := fmt_size hg t h.1
    have h2 := fmts_size hg ts h.2
    simp only [fmtTms, pieces, List.map_cons, List.sum_cons, sizeTms] at h2 ⊢
    omega
end
theorem fmt_take (g : Sgn) (ts : List Tm) (i : Nat) : (fmtTms g ts).take i = fmtTms g (ts.take i) := by rw [fmtTms_eq, fmtTms_eq, List.map_take]
theorem forms_take {g : Sgn} {ts : List Tm} (h : FormOks g ts) (i : Nat) : FormOks g (ts.take i) := FormOks_iff.2 fun a ha => FormOks_iff.1 h a (List.mem_of_mem_take ha)
theorem fmt_snoc {g : Sgn} {ts : List Tm} {i : Nat} {a : Tm} (h : ts[i]? = some a) : (fmtTms g (ts.take i)).map encStr ++ [[.lit (.string (fmtTm g a))]] = (fmtTms g (ts.take (i + 1))).map encStr := by
  rw [take_snoc h, fmtTms_eq, fmtTms_eq, List.map_append, List.map_append]
  rfl
theorem fmt_0 (g : Sgn) : (fmtTms g []).map encStr = [] := by simp [fmtTms]
theorem fmtTms_len (g : Sgn) (ts : List Tm) : (fmtTms g ts).length = ts.length := by rw [fmtTms_eq, List.length_map]
theorem size_take (ts : List Tm) (i : Nat) : sizeTms (ts.take i) ≤ sizeTms ts := sizeTms_take ts i
section
variable {g : Sgn} {mc : C}
set_option maxHeartbeats 8000000 in
set_option maxRecDepth 100000 in
theorem con_format (hg : SgnOk g) : ∀ (n : Nat) (t : Tm), sizeTm t < n → FormOk g t → sizeTm t ≤ 60 → Con e0 166 [.one (.ptr (encX g mc)), .agg (encTm t)] [.one (.lit (.string (fmtTm g t)))] := by
  intro n
  induction n with
  | zero => exact fun _ h => by omega
  | succ n ih =>
    intro t hn hf hs
    have k58 : (ByteArray.mk #[58]).size = 1 := rfl
    have k40 : (ByteArray.mk #[40]).size = 1 := rfl
    have k41 : (ByteArray.mk #[41]).size = 1 := rfl
    have h12 := opr12 hg t.op
    have s12 := srt12 hg t.sort
    rcases op_cases hf.node with ⟨hvar, hop⟩ | ⟨hop, o, d, hap⟩
    · obtain ⟨v1, v2, v3, v4, v5⟩ := hvar
      have q1 : (t.op < 0) = True := eq_true hop
      have n12 := name12 v2
      rw [fmt_var v1]
      obtain ⟨sn, hsn⟩ : ∃ sn, g.sorts.names[t.sort.toNat]? = some sn := ⟨_, List.getElem?_eq_getElem (by omega)⟩
      have e1 : srtNm g t.sort = sn := by rw [srtNm, hsn]; rfl
      rw [e1] at s12 ⊢
      have hrb := rb_str g.sorts.names
      have z1 : (t.name.size + (ByteArray.mk #[58]).size ≤ 9223372036854775807) = True := eq_true (by omega)
      have z2 : ((t.name ++ ⟨#[58]⟩).size + sn.size ≤ 9223372036854775807) = True := eq_true (by rw [ByteArray.size_append]; omega)
      refine gI 132491151149435 Tryz.func166 ?_
      (have F := And.intro @tmz (And.intro @q1 (And.intro @encX_u (And.intro @hrb (And.intro @hsn (And.intro @encStr_u (And.intro @v3 (And.intro @z1 @z2))))))); refine gG ?_; exact gT)
    · have q1 : (t.op < 0) = False := eq_false (by omega)
      have hne : t.op ≠ -1 := by omega
      have hat := hap.at'
      have hnm : oprNm g t.op = o.name := by rw [oprNm, hat]; rfl
      rw [hnm] at h12
      by_cases hl0 : t.args.length = 0
      · rw [fmt_one hne hl0, hnm]
        have z0 : ((t.args.length : Int) = 0) = True := eq_true (by omega)
        refine gI 132491151149435 Tryz.func166 ?_
        (have F := And.intro @tmz (And.intro @q1 (And.intro @encX_u (And.intro @hat (And.intro @encOpr_u (And.intro @hop @z0))))); refine gG ?_; exact gT)
      have hl60 : t.args.length < 60 := by
        have h1 := sizeTms_len t.args
        have h2 : sizeTm t = 1 + sizeTms t.args := by obtain ⟨op, nm, so, args⟩ := t; rfl
        omega
      have hst : sizeTms t.args < 60 := by
        have h2 : sizeTm t = 1 + sizeTms t.args := by obtain ⟨op, nm, so, args⟩ := t; rfl
        omega
      have hfs : FormOks g t.args := FormOks_iff.2 (FormOk_iff.1 hf).2.1
      rw [fmt_app hne hl0, hnm]
      have z0 : ((t.args.length : Int) = 0) = False := eq_false (by omega)
      have hjs := joinB_size ⟨#[44, 32]⟩ (fmtTms g t.args)
      have hps := fmts_size hg t.args hfs
      have k2 : (ByteArray.mk #[44, 32]).size = 2 := rfl
      rw [k2] at hjs
      have hfl := fmtTms_len g t.args
      have cJ := con_join (l := fmtTms g t.args) (sep := ⟨#[44, 32]⟩) (by omega) (by
        have h0 : (joinB (fmtTms g t.args) ⟨#[44, 32]⟩).size = (Lib.join ((fmtTms g t.args).map (·.data.toList)) (ByteArray.mk #[44, 32]).data.toList).length := List.size_toArray
        omega)
      have z1 : (o.name.size + (ByteArray.mk #[40]).size ≤ 9223372036854775807) = True := eq_true (by omega)
      have z2 : ((o.name ++ ⟨#[40]⟩).size + (joinB (fmtTms g t.args) ⟨#[44, 32]⟩).size ≤ 9223372036854775807) = True := eq_true (by rw [ByteArray.size_append]; omega)
      have z3 : ((o.name ++ ⟨#[40]⟩ ++ joinB (fmtTms g t.args) ⟨#[44, 32]⟩).size + (ByteArray.mk #[41]).size ≤ 9223372036854775807) = True := eq_true (by rw [ByteArray.size_append, ByteArray.size_append]; omega)
      refine gI 132491151149435 Tryz.func166 ?_
      (have F := And.intro @tmz (And.intro @q1 (And.intro @encX_u (And.intro @hat (And.intro @encOpr_u (And.intro @hop @z0))))); refine gG ?_; clear F)
      (have F := @fmt_0; refine gL (ι := Nat) [6, 8, 45, 46] [6] (fun i => [(45, A.d (.one (.lit (.int .i64 i)))), (6, .buf 6)]) (fun i => [(6, .buf none 9 1 ((fmtTms g (t.args.take i)).map encStr))]) (fun i => i ≤ t.args.length) (fun i => t.args.length - i) (0) (Nat.zero_le _) (fun i hi => ?_); clear F)
      by_cases hlt : i < t.args.length
      · have q2 : (i : Int) < (t.args.length : Int) := by omega
        have hw := wrap1 (k := i) (by omega)
        obtain ⟨b, hb⟩ : ∃ b, t.args[i]? = some b := ⟨_, List.getElem?_eq_getElem hlt⟩
        have hbm := List.mem_of_getElem? hb
        have hsz : sizeTm b < sizeTm t := by
          have h1 := sizeTms_mem hbm
          have h2 : sizeTm t = 1 + sizeTms t.args := by obtain ⟨op, nm, so, args⟩ := t; rfl
          omega
        have cI := ih b (by omega) ((FormOk_iff.1 hf).2.1 b hbm) (by omega)
        have hsn := fmt_snoc (g := g) hb
        have hll : ((fmtTms g (t.args.take i)).map encStr).length = i := by rw [List.length_map, fmtTms_len, List.length_take]; omega
        have hrr := rb_str (fmtTms g (t.args.take i))
        have hmx : (i + 1 ≤ maxApp) = True := eq_true (by unfold maxApp; omega)
        (have F := And.intro @tmz (And.intro @q2 @hb); refine gG ?_; clear F)
        refine gB ?_
        (have F := @tmz; refine gC (cI) ?_; clear F)
        (have F := And.intro @hll (And.intro @hrr (And.intro @hmx @hsn)); refine gR ?_; clear F)
        (have F := @hw; refine gG ?_; exact ⟨i + 1, hlt, gw, gw, by omega⟩)
      obtain rfl : i = t.args.length := by omega
      have q2 : ¬ ((t.args.length : Int) < (t.args.length : Int)) := by omega
      rw [List.take_length]
      (have F := @q2; have NN : StopAt 12 := trivial; refine gGn ?_; clear F NN)
      refine pS 6 fun a cap => ?_
      refine pD 6 [6] [] ?_
      refine gB ?_
      (have F := @z1; refine gC (cJ) ?_; clear F)
      (have F := And.intro @z1 (And.intro @z2 @z3); refine gR ?_; clear F)
      (have F := @e0P; refine gG ?_; exact gT)
end
end Go.Proofs.YtofklmbljbkdaaaGreat
namespace Go.Proofs.YtofklmbljbkdaaaGreat
open Go.RowKit
section
variable {g : Sgn}
set_option maxHeartbeats 8000000 in
set_option maxRecDepth 100000 in
theorem con_l8Format (hg : SgnOk g) : ∀ (n : Nat) (t : Tm), sizeTm t < n → FormOk g t → sizeTm t ≤ 60 → Con e0 97 [.agg (encSgn g), .agg (encTm t)] [.one (.lit (.string (fmtTm g t)))] := by
  intro n
  induction n with
  | zero => exact fun _ h => by omega
  | succ n ih =>
    intro t hn hf hs
    rw [encSgn] at ih ⊢
    have k58 : (ByteArray.mk #[58]).size = 1 := rfl
    have k40 : (ByteArray.mk #[40]).size = 1 := rfl
    have k41 : (ByteArray.mk #[41]).size = 1 := rfl
    have h12 := opr12 hg t.op
    have s12 := srt12 hg t.sort
    rcases op_cases hf.node with ⟨hvar, hop⟩ | ⟨hop, o, d, hap⟩
    · obtain ⟨v1, v2, v3, v4, v5⟩ := hvar
      have q1 : (t.op = -1) = True := eq_true v1
      have n12 := name12 v2
      rw [fmt_var v1]
      obtain ⟨sn, hsn⟩ : ∃ sn, g.sorts.names[t.sort.toNat]? = some sn := ⟨_, List.getElem?_eq_getElem (by omega)⟩
      have e1 : srtNm g t.sort = sn := by rw [srtNm, hsn]; rfl
      rw [e1] at s12 ⊢
      have hrb := rb_str g.sorts.names
      have z1 : (t.name.size + (ByteArray.mk #[58]).size ≤ 9223372036854775807) = True := eq_true (by omega)
      have z2 : ((t.name ++ ⟨#[58]⟩).size + sn.size ≤ 9223372036854775807) = True := eq_true (by rw [ByteArray.size_append]; omega)
      refine gI 137455731327 Tryz.func97 ?_
      (have F := And.intro @tmz (And.intro @q1 (And.intro @hrb (And.intro @hsn (And.intro @encStr_u (And.intro @v3 (And.intro @z1 @z2)))))); refine gG ?_; exact gT)
    · have hne : t.op ≠ -1 := by omega
      have q1 : (t.op = -1) = False := eq_false hne
      have hat := hap.at'
      have hnm : oprNm g t.op = o.name := by rw [oprNm, hat]; rfl
      rw [hnm] at h12
      by_cases hl0 : t.args.length = 0
      · rw [fmt_one hne hl0, hnm]
        have z0 : ((t.args.length : Int) = 0) = True := eq_true (by omega)
        refine gI 137455731327 Tryz.func97 ?_
        (have F := And.intro @tmz (And.intro @q1 (And.intro @hat (And.intro @encOpr_u (And.intro @hop @z0)))); refine gG ?_; exact gT)
      have hl60 : t.args.length < 60 := by
        have h1 := sizeTms_len t.args
        have h2 : sizeTm t = 1 + sizeTms t.args := by obtain ⟨op, nm, so, args⟩ := t; rfl
        omega
      have hst : sizeTms t.args < 60 := by
        have h2 : sizeTm t = 1 + sizeTms t.args := by obtain ⟨op, nm, so, args⟩ := t; rfl
        omega
      have hfs : FormOks g t.args := FormOks_iff.2 (FormOk_iff.1 hf).2.1
      rw [fmt_app hne hl0, hnm]
      have z0 : ((t.args.length : Int) = 0) = False := eq_false (by omega)
      have hjs := joinB_size ⟨#[44, 32]⟩ (fmtTms g t.args)
      have hps := fmts_size hg t.args hfs
      have k2 : (ByteArray.mk #[44, 32]).size = 2 := rfl
      rw [k2] at hjs
      have hfl := fmtTms_len g t.args
      have cJ := con_specJoin (l := fmtTms g t.args) (sep := ⟨#[44, 32]⟩) (by omega) (by rw [k2]; omega) (fun i => by
        rw [fmt_take]
        have h1 := joinB_size ⟨#[44, 32]⟩ (fmtTms g (t.args.take i))
        rw [k2] at h1
        have h2 := fmts_size hg (t.args.take i) (forms_take hfs i)
        have h3 := size_take t.args i
        omega)
      have z1 : (o.name.size + (ByteArray.mk #[40]).size ≤ 9223372036854775807) = True := eq_true (by omega)
      have z2 : ((o.name ++ ⟨#[40]⟩).size + (joinB (fmtTms g t.args) ⟨#[44, 32]⟩).size ≤ 9223372036854775807) = True := eq_true (by rw [ByteArray.size_append]; omega)
      have z3 : ((o.name ++ ⟨#[40]⟩ ++ joinB (fmtTms g t.args) ⟨#[44, 32]⟩).size + (ByteArray.mk #[41]).size ≤ 9223372036854775807) = True := eq_true (by rw [ByteArray.size_append, ByteArray.size_append]; omega)
      refine gI 137455731327 Tryz.func97 ?_
      (have F := And.intro @tmz (And.intro @q1 @z0); refine gG ?_; clear F)
      (have F := @fmt_0; refine gL (ι := Nat) [5, 6, 37] [5] (fun i => [(6, A.d (.one (.lit (.int .i64 i)))), (5, .buf 5)]) (fun i => [(5, .buf none 9 1 ((fmtTms g (t.args.take i)).map encStr))]) (fun i => i ≤ t.args.length) (fun i => t.args.length - i) (0) (Nat.zero_le _) (fun i hi => ?_); clear F)
      by_cases hlt : i < t.args.length
      · have q2 : (i : Int) < (t.args.length : Int) := by omega
        have hw := wrap1 (k := i) (by omega)
        obtain ⟨b, hb⟩ : ∃ b, t.args[i]? = some b := ⟨_, List.getElem?_eq_getElem hlt⟩
        have hbm := List.mem_of_getElem? hb
        have hsz : sizeTm b < sizeTm t := by
          have h1 := sizeTms_mem hbm
          have h2 : sizeTm t = 1 + sizeTms t.args := by obtain ⟨op, nm, so, args⟩ := t; rfl
          omega
        have cI := ih b (by omega) ((FormOk_iff.1 hf).2.1 b hbm) (by omega)
        have hsn := fmt_snoc (g := g) hb
        have hll : ((fmtTms g (t.args.take i)).map encStr).length = i := by rw [List.length_map, fmtTms_len, List.length_take]; omega
        have hrr := rb_str (fmtTms g (t.args.take i))
        have hmx : (i + 1 ≤ maxApp) = True := eq_true (by unfold maxApp; omega)
        (have F := And.intro @tmz @q2; refine gG ?_; clear F)
        refine gB ?_
        (have F := And.intro @tmz @hb; refine gC (cI) ?_; clear F)
        (have F := And.intro @hll (And.intro @hrr (And.intro @hmx @hsn)); refine gR ?_; clear F)
        (have F := @hw; refine gG ?_; exact ⟨i + 1, hlt, gw, gw, by omega⟩)
      obtain rfl : i = t.args.length := by omega
      have q2 : ¬ ((t.args.length : Int) < (t.args.length : Int)) := by omega
      rw [List.take_length]
      (have F := And.intro @tmz @q2; have NN : StopAt 10 := trivial; refine gGn ?_; clear F NN)
      refine pS 5 fun a cap => ?_
      refine pD 5 [5] [] ?_
      refine gB ?_
      (have F := And.intro @tmz (And.intro @hat (And.intro @encOpr_u (And.intro @hop @z1))); refine gC (cJ) ?_; clear F)
      (have F := And.intro @z1 (And.intro @z2 @z3); refine gR ?_; clear F)
      (have F := @e0P; refine gG ?_; exact gT)
end
end Go.Proofs.YtofklmbljbkdaaaGreat
namespace Go.Proofs.YtofklmbljbkdaaaGreat
open Go.RowKit
def fmtE (g : Sgn) (e : Eqn) : Nat → ByteArray
  | 0 => fmtTm g e.l ++ ⟨#[32, 61, 32]⟩ ++ fmtTm g e.r
  | i + 1 => match e.cs[i]? with
    | some c => fmtE g e i ++ (if i = 0 then ⟨#[32, 105, 102, 32]⟩ else ⟨#[32, 97, 110, 100, 32]⟩) ++ fmtTm g c.1 ++ ⟨#[32, 61, 32]⟩ ++ fmtTm g c.2
    | none => fmtE g e i
noncomputable def fmtEq (g : Sgn) (e : Eqn) : ByteArray := if isEqn g e = true then fmtE g e e.cs.length else ⟨#[]⟩
theorem fmtE_0 (g : Sgn) (e : Eqn) : fmtE g e 0 = fmtTm g e.l ++ ⟨#[32, 61, 32]⟩ ++ fmtTm g e.r := rfl
theorem fmtE_s {g : Sgn} {e : Eqn} {i : Nat} {c : Tm × Tm} (h : e.cs[i]? = some c) : fmtE g e (i + 1) = fmtE g e i ++ (if i = 0 then ⟨#[32, 105, 102, 32]⟩ else ⟨#[32, 97, 110, 100, 32]⟩) ++ fmtTm g c.1 ++ ⟨#[32, 61, 32]⟩ ++ fmtTm g c.2 := by
  rw [fmtE, h]
theorem eqn_facts {g : Sgn} {e : Eqn} (h : eqnB g e = true) : isTerm g e.l = true ∧ isTerm g e.r = true ∧ e.cs.length ≤ 2 ∧ ∀ c ∈ e.cs, isTerm g c.1 = true ∧ isTerm g c.2 = true := by
  simp only [eqnB, pairB, Bool.and_eq_true, decide_eq_true_eq, List.all_eq_true] at h
  refine ⟨h.1.1, h.1.2.1, h.2.2.1, fun c hc => ?_⟩
  have h1 := h.2.2.2.2.2 c hc
  simp only [cndB, pairB, Bool.and_eq_true] at h1
  exact ⟨h1.1.1, h1.1.2.1⟩
theorem fmt_big {g : Sgn} (hg : SgnOk g) {t : Tm} (h : isTerm g t = true) : (fmtTm g t).size ≤ 1920 := by
  have h1 := isTerm_iff.1 h
  have h2 := fmt_size hg t h1.form
  have h3 := h1.size
  omega
theorem fmtE_size {g : Sgn} (hg : SgnOk g) {e : Eqn} (h : eqnB g e = true) : ∀ i, (fmtE g e i).size ≤ 4000 * (i + 1)
  | 0 => by
    obtain ⟨h1, h2, _⟩ := eqn_facts h
    have k1 := fmt_big hg h1
    have k2 := fmt_big hg h2
    have k3 : (ByteArray.mk #[32, 61, 32]).size = 3 := rfl
    rw [fmtE_0, ByteArray.size_append, ByteArray.size_append]
    omega
  | i + 1 => by
    have ih := fmtE_size hg h i
    rcases hc : e.cs[i]? with _ | c
    · rw [fmtE, hc]; show (fmtE g e i).size ≤ _; omega
    · obtain ⟨_, _, _, h4⟩ := eqn_facts h
      have h5 := h4 c (List.mem_of_getElem? hc)
      have k1 := fmt_big hg h5.1
      have k2 := fmt_big hg h5.2
      have k3 : (ByteArray.mk #[32, 61, 32]).size = 3 := rfl
      have k4 : (ByteArray.mk #[32, 105, 102, 32]).size = 4 := rfl
      have k5 : (ByteArray.mk #[32, 97, 110, 100, 32]).size = 5 := rfl
      rw [fmtE_s hc]
      simp only [ByteArray.size_append]
      split <;> omega
section
variable {g : Sgn} {e : Eqn}
set_option maxHeartbeats 8000000 in
set_option maxRecDepth 100000 in
theorem con_fmtEq {mc : C} (hg : SgnOk g) (hQ : eqnB g e = true) : Con e0 100 [.one (.ptr (encX g mc)), .agg (encEqn e)] [.one (.lit (.string (fmtE g e e.cs.length)))] := by
  obtain ⟨hl, hr, hcl, hcs⟩ := eqn_facts hQ
  have k3 : (ByteArray.mk #[32, 61, 32]).size = 3 := rfl
  have k4 : (ByteArray.mk #[32, 105, 102, 32]).size = 4 := rfl
  have k5 : (ByteArray.mk #[32, 97, 110, 100, 32]).size = 5 := rfl
  have cF := fun (t : Tm) (h : isTerm g t = true) => con_format (mc := mc) hg (sizeTm t + 1) t (Nat.lt_succ_self _) (isTerm_iff.1 h).form (isTerm_iff.1 h).size
  have b1 := fmt_big hg hl
  have b2 := fmt_big hg hr
  have y1 : ((fmtTm g e.l).size + (ByteArray.mk #[32, 61, 32]).size ≤ 9223372036854775807) = True := eq_true (by omega)
  have y2 : ((fmtTm g e.l ++ ⟨#[32, 61, 32]⟩).size + (fmtTm g e.r).size ≤ 9223372036854775807) = True := eq_true (by rw [ByteArray.size_append]; omega)
  refine gI 284164603 Tryz.func100 ?_
  (have F := And.intro @tmz @eqz; refine gG ?_; clear F)
  refine gB ?_
  (have F := And.intro @tmz @eqz; refine gC (cF e.l hl) ?_; clear F)
  (have F := And.intro @tmz (And.intro @eqz @y1); refine gC (cF e.r hr) ?_; clear F)
  (have F := @y2; refine gR ?_; clear F)
  (have F := And.intro @tmz @eqz; refine gG ?_; clear F)
  (have F := ((fmtE_0 g e)); refine gL (ι := Nat) [5, 6, 7, 8, 22, 23, 28] [] (fun i => [(22, A.d (.one (.lit (.int .i64 i)))), (5, .d (.one (.lit (.string (fmtE g e i)))))]) (fun i => []) (fun i => i ≤ e.cs.length) (fun i => e.cs.length - i) (0) (Nat.zero_le _) (fun i hi => ?_); clear F)
  by_cases hlt : i < e.cs.length
  rotate_left
  · obtain rfl : i = e.cs.length := by omega
    have q1 : ¬ ((e.cs.length : Int) < (e.cs.length : Int)) := by omega
    (have F := And.intro @tmz (And.intro @eqz @q1); refine gG ?_; exact gT)
  have q1 : (i : Int) < (e.cs.length : Int) := by omega
  have hw := wrap1 (k := i) (by omega)
  obtain ⟨c, hc⟩ : ∃ c, e.cs[i]? = some c := ⟨_, List.getElem?_eq_getElem hlt⟩
  obtain ⟨c1, c2⟩ := hcs c (List.mem_of_getElem? hc)
  have d1 := fmt_big hg c1
  have d2 := fmt_big hg c2
  have dE := fmtE_size hg hQ i
  have hst := fmtE_s (g := g) hc
  have hgo : ∀ W : ByteArray, W.size ≤ 5 → (((fmtE g e i).size + W.size ≤ 9223372036854775807) = True ∧ ((fmtE g e i ++ W).size + (fmtTm g c.1).size ≤ 9223372036854775807) = True ∧ ((fmtE g e i ++ W ++ fmtTm g c.1).size + (ByteArray.mk #[32, 61, 32]).size ≤ 9223372036854775807) = True ∧ ((fmtE g e i ++ W ++ fmtTm g c.1 ++ ⟨#[32, 61, 32]⟩).size + (fmtTm g c.2).size ≤ 9223372036854775807) = True) := fun W hW => by
    refine ⟨eq_true ?_, eq_true ?_, eq_true ?_, eq_true ?_⟩ <;> (try simp only [ByteArray.size_append]) <;> omega
  by_cases h0 : i = 0
  · have z0 : ((i : Int) = 0) = True := eq_true (by omega)
    rw [if_pos h0] at hst
    obtain ⟨w1, w2, w3, w4⟩ := hgo ⟨#[32, 105, 102, 32]⟩ (by omega)
    (have F := And.intro @tmz (And.intro @eqz (And.intro @q1 (And.intro @hc @z0))); refine gG ?_; clear F)
    refine gB ?_
    (have F := And.intro @tmz (And.intro @eqz (And.intro @hc @w1)); refine gC (cF c.1 c1) ?_; clear F)
    (have F := And.intro @tmz (And.intro @eqz (And.intro @hc (And.intro @w1 (And.intro @w2 @w3)))); refine gC (cF c.2 c2) ?_; clear F)
    (have F := @w4; refine gR ?_; clear F)
    rw [← hst]
    (have F := @hw; refine gG ?_; exact ⟨i + 1, hlt, gw, gw, by omega⟩)
  · have z0 : ((i : Int) = 0) = False := eq_false (by omega)
    rw [if_neg h0] at hst
    obtain ⟨w1, w2, w3, w4⟩ := hgo ⟨#[32, 97, 110, 100, 32]⟩ (by omega)
    (have F := And.intro @tmz (And.intro @eqz (And.intro @q1 (And.intro @hc @z0))); refine gG ?_; clear F)
    refine gB ?_
    (have F := And.intro @tmz (And.intro @eqz (And.intro @hc @w1)); refine gC (cF c.1 c1) ?_; clear F)
    (have F := And.intro @tmz (And.intro @eqz (And.intro @hc (And.intro @w1 (And.intro @w2 @w3)))); refine gC (cF c.2 c2) ?_; clear F)
    (have F := @w4; refine gR ?_; clear F)
    rw [← hst]
    (have F := @hw; refine gG ?_; exact ⟨i + 1, hlt, gw, gw, by omega⟩)
set_option maxHeartbeats 8000000 in
set_option maxRecDepth 100000 in
theorem con_specFmt (hok : okSgn g) (he : okEqn e) (hb : bulkRow (encEqn e) ≤ 1048576) : Con e0 40 [.agg (encSgn g), .agg (encEqn e)] [.one (.lit (.string (fmtEq g e)))] := by
  have cE := con_specEqn hok he hb
  cases hE : isEqn g e with
  | false =>
    have hf : fmtEq g e = ⟨#[]⟩ := by simp [fmtEq, hE]
    rw [hE, encSgn] at cE
    rw [encSgn]
    refine gI 1140852991 Tryz.func40 ?_
    (have F := And.intro @tmz @eqz; refine gG ?_; clear F)
    refine gB ?_
    (have F := And.intro @tmz @eqz; refine gC (cE) ?_; clear F)
    (have F := And.intro @tmz @eqz; refine gR ?_; clear F)
    (have F := And.intro @tmz @hf; refine gG ?_; exact gT)
  | true =>
  rw [hE] at cE
  have hEe := hE
  simp only [isEqn, Bool.and_eq_true] at hE
  have hg := isSgn_iff.1 hE.1
  have hQ := hE.2
  have ef : fmtEq g e = fmtE g e e.cs.length := by simp [fmtEq, hEe]
  rw [ef]
  obtain ⟨hl, hr, hcl, hcs⟩ := eqn_facts hQ
  have k3 : (ByteArray.mk #[32, 61, 32]).size = 3 := rfl
  have k4 : (ByteArray.mk #[32, 105, 102, 32]).size = 4 := rfl
  have k5 : (ByteArray.mk #[32, 97, 110, 100, 32]).size = 5 := rfl
  have cF := fun (t : Tm) (h : isTerm g t = true) => con_l8Format hg (sizeTm t + 1) t (Nat.lt_succ_self _) (isTerm_iff.1 h).form (isTerm_iff.1 h).size
  have b1 := fmt_big hg hl
  have b2 := fmt_big hg hr
  have y1 : ((fmtTm g e.l).size + (ByteArray.mk #[32, 61, 32]).size ≤ 9223372036854775807) = True := eq_true (by omega)
  have y2 : ((fmtTm g e.l ++ ⟨#[32, 61, 32]⟩).size + (fmtTm g e.r).size ≤ 9223372036854775807) = True := eq_true (by rw [ByteArray.size_append]; omega)
  rw [encSgn] at cF cE ⊢
  refine gI 1140852991 Tryz.func40 ?_
  (have F := And.intro @tmz @eqz; refine gG ?_; clear F)
  refine gB ?_
  (have F := And.intro @tmz @eqz; refine gC (cE) ?_; clear F)
  (have F := And.intro @tmz @eqz; refine gR ?_; clear F)
  (have F := And.intro @tmz @eqz; refine gG ?_; clear F)
  refine gB ?_
  (have F := And.intro @tmz @eqz; refine gC (cF e.l hl) ?_; clear F)
  (have F := And.intro @tmz (And.intro @eqz @y1); refine gC (cF e.r hr) ?_; clear F)
  (have F := @y2; refine gR ?_; clear F)
  (have F := And.intro @tmz @eqz; refine gG ?_; clear F)
  (have F := ((fmtE_0 g e)); refine gL (ι := Nat) [5, 6, 7, 26, 30] [] (fun i => [(6, A.d (.one (.lit (.int .i64 i)))), (5, .d (.one (.lit (.string (fmtE g e i)))))]) (fun i => []) (fun i => i ≤ e.cs.length) (fun i => e.cs.length - i) (0) (Nat.zero_le _) (fun i hi => ?_); clear F)
  by_cases hlt : i < e.cs.length
  rotate_left
  · obtain rfl : i = e.cs.length := by omega
    have q1 : ¬ ((e.cs.length : Int) < (e.cs.length : Int)) := by omega
    (have F := And.intro @tmz (And.intro @eqz @q1); refine gG ?_; exact gT)
  have q1 : (i : Int) < (e.cs.length : Int) := by omega
  have hw := wrap1 (k := i) (by omega)
  obtain ⟨c, hc⟩ : ∃ c, e.cs[i]? = some c := ⟨_, List.getElem?_eq_getElem hlt⟩
  obtain ⟨c1, c2⟩ := hcs c (List.mem_of_getElem? hc)
  have d1 := fmt_big hg c1
  have d2 := fmt_big hg c2
  have dE := fmtE_size hg hQ i
  have hst := fmtE_s (g := g) hc
  have hgo : ∀ W : ByteArray, W.size ≤ 5 → (((fmtE g e i).size + W.size ≤ 9223372036854775807) = True ∧ ((fmtE g e i ++ W).size + (fmtTm g c.1).size ≤ 9223372036854775807) = True ∧ ((fmtE g e i ++ W ++ fmtTm g c.1).size + (ByteArray.mk #[32, 61, 32]).size ≤ 9223372036854775807) = True ∧ ((fmtE g e i ++ W ++ fmtTm g c.1 ++ ⟨#[32, 61, 32]⟩).size + (fmtTm g c.2).size ≤ 9223372036854775807) = True) := fun W hW => by
    refine ⟨eq_true ?_, eq_true ?_, eq_true ?_, eq_true ?_⟩ <;> (try simp only [ByteArray.size_append]) <;> omega
  by_cases h0 : i = 0
  · have z0 : ((0 : Int) < (i : Int)) = False := eq_false (by omega)
    rw [if_pos h0] at hst
    obtain ⟨w1, w2, w3, w4⟩ := hgo ⟨#[32, 105, 102, 32]⟩ (by omega)
    (have F := And.intro @tmz (And.intro @eqz (And.intro @q1 (And.intro @hc @z0))); refine gG ?_; clear F)
    refine gB ?_
    (have F := And.intro @tmz (And.intro @eqz (And.intro @hc @w1)); refine gC (cF c.1 c1) ?_; clear F)
    (have F := And.intro @tmz (And.intro @eqz (And.intro @hc (And.intro @w1 (And.intro @w2 @w3)))); refine gC (cF c.2 c2) ?_; clear F)
    (have F := @w4; refine gR ?_; clear F)
    rw [← hst]
    (have F := @hw; refine gG ?_; exact ⟨i + 1, hlt, gw, gw, by omega⟩)
  · have z0 : ((0 : Int) < (i : Int)) = True := eq_true (by omega)
    rw [if_neg h0] at hst
    obtain ⟨w1, w2, w3, w4⟩ := hgo ⟨#[32, 97, 110, 100, 32]⟩ (by omega)
    (have F := And.intro @tmz (And.intro @eqz (And.intro @q1 (And.intro @hc @z0))); refine gG ?_; clear F)
    refine gB ?_
    (have F := And.intro @tmz (And.intro @eqz (And.intro @hc @w1)); refine gC (cF c.1 c1) ?_; clear F)
    (have F := And.intro @tmz (And.intro @eqz (And.intro @hc (And.intro @w1 (And.intro @w2 @w3)))); refine gC (cF c.2 c2) ?_; clear F)
    (have F := @w4; refine gR ?_; clear F)
    rw [← hst]
    (have F := @hw; refine gG ?_; exact ⟨i + 1, hlt, gw, gw, by omega⟩)
set_option maxHeartbeats 8000000 in
set_option maxRecDepth 100000 in
theorem con_implFmt (hok : okSgn g) (he : okEqn e) (hb : bulkRow (encEqn e) ≤ 1048576) : Con e0 42 [.agg (encSgn g), .agg (encEqn e)] [.one (.lit (.string (fmtEq g e)))] := by
  by_cases hg : SgnOk g
  rotate_left
  · have hf : fmtEq g e = ⟨#[]⟩ := by simp [fmtEq, isEqn, isSgn_false hg]
    have c := con_newAlg_not hok hg
    rw [encSgn] at c
    rw [encSgn]
    refine gI 524415 Tryz.func42 ?_
    (have F := And.intro @tmz @eqz; refine gG ?_; clear F)
    refine gB ?_
    (have F := @tmz; refine gC (c) ?_; clear F)
    (have F := @tmz; refine gR ?_; clear F)
    (have F := And.intro @tmz @hf; refine gG ?_; exact gT)
  have hs := isSgn_true hg
  have c := conE_newAlg hok hg
  rw [encSgn] at c
  rw [encSgn]
  refine gI 524415 Tryz.func42 ?_
  (have F := And.intro @tmz @eqz; refine gG ?_; clear F)
  refine gB ?_
  (have F := @tmz; refine gCE (c) ?_; clear F)
  rintro r ⟨b, rfl⟩
  have c1 := con_algEqn (mc := .lit (.map (some b))) hg he hb
  have c2 := con_fmtEq (e := e) (mc := .lit (.map (some b))) hg
  generalize C.lit (.map (some b)) = mc at c1 c2 ⊢
  (have F := And.intro @retA_u @sa_some; refine gR ?_; clear F)
  (have F := @tmz; refine gG ?_; clear F)
  refine gB ?_
  (have F := And.intro @tmz @eqz; refine gC (c1) ?_; clear F)
  cases hQ : eqnB g e with
  | false =>
    have hf : fmtEq g e = ⟨#[]⟩ := by simp [fmtEq, isEqn, hQ]
    (have F := @tmz; refine gR ?_; clear F)
    (have F := And.intro @tmz @hf; refine gG ?_; exact gT)
  | true =>
  have ef : fmtEq g e = fmtE g e e.cs.length := by simp [fmtEq, isEqn, hQ, hs]
  rw [ef]
  (have F := @tmz; refine gR ?_; clear F)
  (have F := And.intro @tmz @eqz; refine gG ?_; clear F)
  refine gB ?_
  (have F := And.intro @tmz @eqz; refine gC (c2 hQ) ?_; clear F)
  (have F := @tmz; refine gR ?_; clear F)
  (have F := @tmz; refine gG ?_; exact gT)
end
end Go.Proofs.YtofklmbljbkdaaaGreat
namespace Go.Proofs.YtofklmbljbkdaaaGreat
open Go.RowKit
set_option maxHeartbeats 40000000 in
set_option maxRecDepth 100000 in
theorem con_lawFormatEquation {row0 : List C} (hok0 : okRow (sigF) row0) {row1 : List C} (hok1 : okRow (fieldsOf .eqn) row1) {R0 : ByteArray} (hsp0 : bulkRow row0 ≤ 1048576 → bulkRow row1 ≤ 1048576 → Con e0 40 [.agg row0, .agg row1] [.one (.lit (.string R0))]) (him0 : bulkRow row0 ≤ 1048576 → bulkRow row1 ≤ 1048576 → Con e0 42 [.agg row0, .agg row1] [.one (.lit (.string R0))]) : Con e0 7 [.agg row0, .agg row1] [.one (.lit (.bool true))] := by
  have okc0 := hok0.cells
  obtain ⟨len0, tk0, dr0⟩ := hok0.take (n := 3) rfl
  have okc1 := hok1.cells
  obtain ⟨len1, tk1, dr1⟩ := hok1.take (n := 9) rfl
  refine gI 18159122269183 Tryz.func7 ?_
  (have F := And.intro @okc0 (And.intro @len0 (And.intro @tk0 (And.intro @dr0 (And.intro @okc1 (And.intro @len1 (And.intro @tk1 (And.intro @dr1 @drop0))))))); refine gG ?_; clear F)
  have hL0_0 : (0 : Int) ≤ 1048576 := by omega
  have hL0_1 : (1048576 : Int) ≤ 1048576 := by omega
  refine gB ?_
  (have F := And.intro @okc0 (And.intro @len0 (And.intro @tk0 (And.intro @dr0 (And.intro @okc1 (And.intro @len1 (And.intro @tk1 (And.intro @dr1 @drop0))))))); refine gC (con_szSignature hok0 hL0_0 hL0_1) ?_; clear F)
  (have F := And.intro @okc0 (And.intro @len0 (And.intro @tk0 (And.intro @dr0 (And.intro @okc1 (And.intro @len1 (And.intro @tk1 (And.intro @dr1 @drop0))))))); refine gR ?_; clear F)
  by_cases hb0 : ((bulkRow row0) : Int) ≤ 1048576
  rotate_left
  · have n1 : sub 1048576 (bulkRow row0) = -1 := sub_neg (by omega)
    have n2 : (-1 : Int) < 0 := by omega
    (have F := And.intro @n1 @n2; refine gG ?_; exact gT)
  have nq0 : sub 1048576 (bulkRow row0) = 1048576 - ((bulkRow row0) : Nat) := sub_pos (by omega)
  rw [nq0]
  clear nq0
  have hB0 : bulkRow row0 ≤ 1048576 := by omega
  have hL1_0 : (0 : Int) ≤ 1048576 - ((bulkRow row0) : Nat) := by omega
  have hL1_1 : (1048576 : Int) - ((bulkRow row0) : Nat) ≤ 1048576 := by omega
  generalize hgl0 : (1048576 : Int) - ((bulkRow row0) : Nat) = L1 at *
  clear hgl0
  have n2 : ¬ (L1 < 0) := by omega
  (have F := And.intro @n2 (And.intro @okc0 (And.intro @len0 (And.intro @tk0 (And.intro @dr0 (And.intro @okc1 (And.intro @len1 (And.intro @tk1 (And.intro @dr1 @drop0)))))))); refine gG ?_; clear F)
  clear n2 hb0
  refine gB ?_
  (have F := And.intro @okc0 (And.intro @len0 (And.intro @tk0 (And.intro @dr0 (And.intro @okc1 (And.intro @len1 (And.intro @tk1 (And.intro @dr1 @drop0))))))); refine gC (con_szEquation hok1 hL1_0 hL1_1) ?_; clear F)
  (have F := And.intro @okc0 (And.intro @len0 (And.intro @tk0 (And.intro @dr0 (And.intro @okc1 (And.intro @len1 (And.intro @tk1 (And.intro @dr1 @drop0))))))); refine gR ?_; clear F)
  by_cases hb1 : ((bulkRow row1) : Int) ≤ L1
  rotate_left
  · have n1 : sub L1 (bulkRow row1) = -1 := sub_neg (by omega)
    have n2 : (-1 : Int) < 0 := by omega
    (have F := And.intro @n1 @n2; refine gG ?_; exact gT)
  have nq1 : sub L1 (bulkRow row1) = L1 - ((bulkRow row1) : Nat) := sub_pos (by omega)
  rw [nq1]
  clear nq1
  have hB1 : bulkRow row1 ≤ 1048576 := by omega
  have hL2_0 : (0 : Int) ≤ L1 - ((bulkRow row1) : Nat) := by omega
  have hL2_1 : (L1 : Int) - ((bulkRow row1) : Nat) ≤ 1048576 := by omega
  generalize hgl1 : (L1 : Int) - ((bulkRow row1) : Nat) = L2 at *
  clear hgl1
  have n2 : ¬ (L2 < 0) := by omega
  (have F := And.intro @n2 (And.intro @okc0 (And.intro @len0 (And.intro @tk0 (And.intro @dr0 (And.intro @okc1 (And.intro @len1 (And.intro @tk1 (And.intro @dr1 @drop0)))))))); refine gG ?_; clear F)
  clear n2 hb1
  have hsp := hsp0 hB0 hB1
  have him := him0 hB0 hB1
  have cT0 := con_toSignature hok0 hB0
  have cT1 := con_toEquation hok1 hB1
  refine gB ?_
  (have F := And.intro @okc0 (And.intro @len0 (And.intro @tk0 (And.intro @dr0 (And.intro @okc1 (And.intro @len1 (And.intro @tk1 (And.intro @dr1 @drop0))))))); refine gC (cT0) ?_; clear F)
  (have F := And.intro @okc0 (And.intro @len0 (And.intro @tk0 (And.intro @dr0 (And.intro @okc1 (And.intro @len1 (And.intro @tk1 (And.intro @dr1 @drop0))))))); refine gC (cT1) ?_; clear F)
  (have F := And.intro @okc0 (And.intro @len0 (And.intro @tk0 (And.intro @dr0 (And.intro @okc1 (And.intro @len1 (And.intro @tk1 (And.intro @dr1 @drop0))))))); refine gC (hsp) ?_; clear F)
  (have F := And.intro @okc0 (And.intro @len0 (And.intro @tk0 (And.intro @dr0 (And.intro @okc1 (And.intro @len1 (And.intro @tk1 (And.intro @dr1 @drop0))))))); refine gR ?_; clear F)
  (have F := And.intro @okc0 (And.intro @len0 (And.intro @tk0 (And.intro @dr0 (And.intro @okc1 (And.intro @len1 (And.intro @tk1 (And.intro @dr1 @drop0))))))); refine gG ?_; clear F)
  refine gB ?_
  (have F := And.intro @okc0 (And.intro @len0 (And.intro @tk0 (And.intro @dr0 (And.intro @okc1 (And.intro @len1 (And.intro @tk1 (And.intro @dr1 @drop0))))))); refine gC (cT0) ?_; clear F)
  (have F := And.intro @okc0 (And.intro @len0 (And.intro @tk0 (And.intro @dr0 (And.intro @okc1 (And.intro @len1 (And.intro @tk1 (And.intro @dr1 @drop0))))))); refine gR ?_; clear F)
  (have F := And.intro @okc0 (And.intro @len0 (And.intro @tk0 (And.intro @dr0 (And.intro @okc1 (And.intro @len1 (And.intro @tk1 (And.intro @dr1 @drop0))))))); refine gG ?_; clear F)
  refine gB ?_
  (have F := And.intro @okc0 (And.intro @len0 (And.intro @tk0 (And.intro @dr0 (And.intro @okc1 (And.intro @len1 (And.intro @tk1 (And.intro @dr1 @drop0))))))); refine gC (cT1) ?_; clear F)
  (have F := And.intro @okc0 (And.intro @len0 (And.intro @tk0 (And.intro @dr0 (And.intro @okc1 (And.intro @len1 (And.intro @tk1 (And.intro @dr1 @drop0))))))); refine gR ?_; clear F)
  (have F := And.intro @okc0 (And.intro @len0 (And.intro @tk0 (And.intro @dr0 (And.intro @okc1 (And.intro @len1 (And.intro @tk1 (And.intro @dr1 @drop0))))))); refine gG ?_; clear F)
  refine gB ?_
  (have F := And.intro @okc0 (And.intro @len0 (And.intro @tk0 (And.intro @dr0 (And.intro @okc1 (And.intro @len1 (And.intro @tk1 (And.intro @dr1 @drop0))))))); refine gC (him) ?_; clear F)
  (have F := And.intro @okc0 (And.intro @len0 (And.intro @tk0 (And.intro @dr0 (And.intro @okc1 (And.intro @len1 (And.intro @tk1 (And.intro @dr1 @drop0))))))); refine gR ?_; clear F)
  (have F := And.intro @okc0 (And.intro @len0 (And.intro @tk0 (And.intro @dr0 (And.intro @okc1 (And.intro @len1 (And.intro @tk1 (And.intro @dr1 (And.intro @drop0 @beq_self_eq_true.{0})))))))); refine gG ?_; clear F)
  refine gB ?_
  (have F := And.intro @okc0 (And.intro @len0 (And.intro @tk0 (And.intro @dr0 (And.intro @okc1 (And.intro @len1 (And.intro @tk1 (And.intro @dr1 @drop0))))))); refine gC (cT0) ?_; clear F)
  (have F := And.intro @okc0 (And.intro @len0 (And.intro @tk0 (And.intro @dr0 (And.intro @okc1 (And.intro @len1 (And.intro @tk1 (And.intro @dr1 @drop0))))))); refine gC (con_eqSignature hok0) ?_; clear F)
  (have F := And.intro @okc0 (And.intro @len0 (And.intro @tk0 (And.intro @dr0 (And.intro @okc1 (And.intro @len1 (And.intro @tk1 (And.intro @dr1 @drop0))))))); refine gR ?_; clear F)
  (have F := And.intro @okc0 (And.intro @len0 (And.intro @tk0 (And.intro @dr0 (And.intro @okc1 (And.intro @len1 (And.intro @tk1 (And.intro @dr1 @drop0))))))); refine gG ?_; clear F)
  refine gB ?_
  (have F := And.intro @okc0 (And.intro @len0 (And.intro @tk0 (And.intro @dr0 (And.intro @okc1 (And.intro @len1 (And.intro @tk1 (And.intro @dr1 @drop0))))))); refine gC (cT1) ?_; clear F)
  (have F := And.intro @okc0 (And.intro @len0 (And.intro @tk0 (And.intro @dr0 (And.intro @okc1 (And.intro @len1 (And.intro @tk1 (And.intro @dr1 @drop0))))))); refine gC (con_eqEquation hok1) ?_; clear F)
  (have F := And.intro @okc0 (And.intro @len0 (And.intro @tk0 (And.intro @dr0 (And.intro @okc1 (And.intro @len1 (And.intro @tk1 (And.intro @dr1 @drop0))))))); refine gR ?_; clear F)
  (have F := And.intro @okc0 (And.intro @len0 (And.intro @tk0 (And.intro @dr0 (And.intro @okc1 (And.intro @len1 (And.intro @tk1 (And.intro @dr1 @drop0))))))); refine gG ?_; exact gT)
theorem lawExactFormatEquation (w : World) (row0 : List C) (S0 : Nat → Prop) (us0 : List Value) (hok0 : okRow (sigF) row0) (hv0 : RepVals w S0 row0 us0) (row1 : List C) (S1 : Nat → Prop) (us1 : List Value) (hok1 : okRow (fieldsOf .eqn) row1) (hv1 : RepVals w S1 row1 us1) :
    Calls Tryz.prog 7 #[(.agg us0.toArray : Value), (.agg us1.toArray : Value)] w fun e w' => e = .returned (.bool true) ∧ Below w.heap.size w w' := by
  obtain ⟨g, rfl, k0⟩ := decSgn hok0
  obtain ⟨e, rfl, k1⟩ := decEqn hok1
  have hc := (con_lawFormatEquation hok0 hok1 (fun b0 b1 => con_specFmt k0 k1 b1) (fun b0 b1 => con_implFmt k0 k1 b1)).2 w (fun b => b < w.heap.size) [(.agg us0.toArray : Value), (.agg us1.toArray : Value)] (fun b hb => ⟨hb, id⟩) (fun b hb => hb.elim) trivial
    ⟨⟨us0, rfl, hv0.inside'⟩, ⟨us1, rfl, hv1.inside'⟩, trivial⟩
  refine hc.mono fun e w' ⟨v, h1, h2, _, h4⟩ => ⟨?_, h2.below⟩
  have h4 : v = .bool true := by simpa [retA, ARel, DRel, Rep] using h4
  rw [h1, h4]
end Go.Proofs.YtofklmbljbkdaaaGreat
namespace Go.Proofs.YtofklmbljbkdaaaGreat
open Go.ChangeShapes Go.WideShapes Go.ChangeAt Go.RowKit Go.Deep
set_option maxRecDepth 100000 in
theorem formatEquation_holds_lifted (os : Os) (started : os.Started) (H : Type) (enc : TypeId × Value → H) :
    ReturnsInHanded {} Tryz.checked os 7 .any (Rows.fnExactFormatEquationSpec.pre6 enc Tryz.prog Tryz.f7 Rows.fnExactFormatEquationRow.domain false) (Rows.fnExactFormatEquationSpec.post enc Tryz.prog Tryz.f7 false true false false) := by
  refine returnsInHanded_of_change (C := Tryz.checked) own started (by kernel_rfl) Tryz.func7
    (ChangeSpec.witness6 (enc := enc) (C := Tryz.checked) false ⟨#[], #[.agg #[.slice none 0 0, .slice none 0 0, .slice none 0 0], .agg #[.int .i64 0, .string .empty, .int .i64 0, .slice none 0 0, .int .i64 0, .string .empty, .int .i64 0, .slice none 0 0, .slice none 0 0]], []⟩ 8 (by kernel_rfl) (by kernel_rfl) (by kernel_rfl) (by kernel_rfl)) ?_
  intro W base args ds gs before hval0 hW _ _
  have hval : ∀ (j : Nat) t v, Tryz.f7.params[j]? = some t → args[j]? = some v → Value.okWide Tryz.prog W .any base t v := hval0
  have hW' := hW
  obtain ⟨p, q, hA0, hV, rfl, _, _⟩ := hW
  have hA : DataW.TrodAll enc Tryz.prog W 0 (fun _ => true) true Tryz.f7.params.toList args.toList ds p := hA0
  rw [Tryz.params7] at hA hval
  obtain ⟨v0, vs0, d0, ds0, p0, q0, hargs0, hd0, hp0, h0, r0⟩ := trodAll_cons hA
  obtain ⟨v1, vs1, d1, ds1, p1, q1, hargs1, hd1, hp1, h1, r1⟩ := trodAll_cons r0
  obtain ⟨e2, e2d, _⟩ := trodAll_nil r1
  rw [e2] at hargs1
  rw [hargs1] at hargs0
  obtain rfl : args = #[v0, v1] := by cases args; simp_all
  rw [e2d] at hd1
  rw [hd1] at hd0
  subst hd0
  obtain ⟨rfl, rfl⟩ := trodVars_none hV
  obtain ⟨cs0, rfl, _⟩ := okWide_struct Tryz.underlying28 (hval 0 28 v0 rfl rfl)
  obtain ⟨fuel0, hf0⟩ := h0
  obtain ⟨row0, hok0, hrep0⟩ := open_row seatTR fuel0 _ _ _ _ ty_Signature hf0
  have e0c : (Value.agg cs0).cells.toList.toArray = cs0 := by simp [Value.cells]
  obtain ⟨cs1, rfl, _⟩ := okWide_struct Tryz.underlying85 (hval 1 85 v1 rfl rfl)
  obtain ⟨fuel1, hf1⟩ := h1
  obtain ⟨row1, hok1, hrep1⟩ := open_row seatTR fuel1 _ _ _ _ ty_Equation hf1
  have e1c : (Value.agg cs1).cells.toList.toArray = cs1 := by simp [Value.cells]
  have hlaw := lawExactFormatEquation W row0 _ _ hok0 hrep0 row1 _ _ hok1 hrep1
  rw [e0c, e1c] at hlaw
  refine hlaw.mono fun e W' ⟨he, hb⟩ => ?_
  subst he
  exact ⟨_, rfl, law_post laidOut rfl rfl Tryz.underlying4 (by rw [Tryz.params7]; decide +kernel) hW' rfl hb⟩
set_option maxHeartbeats 400000000 in
set_option maxRecDepth 100000 in
theorem formatEquation_holds_closed : joinedFacts Tryz.checked.prog 7 Tryz.f7 Rows.fnExactFormatEquationSpec Rows.fnExactFormatEquationRow = true := by
  unfold joinedFacts
  simp only [Bool.and_eq_true]
  and_intros
  all_goals as_aux_lemma => kernel_rfl
theorem formatEquation_holds_named : Tryz.checked.prog.funcNamed Rows.fnExactFormatEquationRow.func = some 7 := by kernel_rfl
theorem formatEquation_holds : Rows.FnExactFormatEquationSaid :=
  OpenClaim.holds_of_wide 7 Tryz.f7 rfl rfl rfl rfl rfl rfl rfl ⟨rfl, rfl, rfl, rfl, rfl⟩ rfl rfl rfl rfl rfl formatEquation_holds_named Tryz.func7 formatEquation_holds_closed
    (of_decide_eq_true (by kernel_rfl)) (by unfold Func.isWrapper; rw [if_neg (of_decide_eq_false (by kernel_rfl))]; exact ⟨rfl, rfl⟩)
    (fun os started H enc _ => formatEquation_holds_lifted os started H enc)
#print axioms formatEquation_holds
end Go.Proofs.YtofklmbljbkdaaaGreat
