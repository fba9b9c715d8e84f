/-
  Comparing terms: the program's CompareTerms (walked).
-/
import Derived.Test.YtiglacjigkcgkaaCmp2
set_option linter.unusedSimpArgs false
set_option linter.unusedVariables false
namespace Go.Proofs.Ytiglacjigkcgkaa
open Go.RowKit
theorem cell_alloc_drew (W : World) (o : Obj) (p : Addr) (h : p.block < W.heap.size) : (W.alloc o).drew.cell? p = W.cell? p := (show (W.alloc o).drew.cell? p = (W.alloc o).cell? p from rfl).trans (World.cell?_alloc_lt W o p h)
theorem cells_of_list {W : World} {l : List Int} {t : TypeId} : ∀ (i : Nat) x, l[i]? = some x → (W.alloc (.cells (l.map (Value.int .i64)).toArray t)).drew.cell? ⟨W.heap.size, i, none⟩ = some (.int .i64 x) := by
  intro i x h
  show (W.alloc (.cells (l.map (Value.int .i64)).toArray t)).cell? ⟨W.heap.size, i, none⟩ = _
  rw [cell_of_row _ _ _ _ _ _ (heap_alloc_new W _)]
  simp [h]
set_option maxHeartbeats 2000000 in
set_option maxRecDepth 100000 in
theorem implCompareTerms_of (a b : Tm) (h : cmpTmsC 46 a.args b.args) : cmpTmC 47 a b := by
  intro S S' us us' w ha hb hv hv'
  obtain ⟨o, n, s, x⟩ := a
  obtain ⟨o', n', s', y⟩ := b
  simp only [encTm] at hv hv'
  obtain ⟨v3, rfl, e3⟩ := repVals_Term hv
  obtain ⟨v3', rfl, e3'⟩ := repVals_Term hv'
  simp only [okTm] at ha hb
  have HX := Lib.hid ha.2.2.2
  have HY := Lib.hid hb.2.2.2
  have H := Lib.hid h
  have E := Lib.hid e3
  have E' := Lib.hid e3'
  have HF : Hid (cmpTm (.mk o n s x) (.mk o' n' s' y) = firstNZ [firstNZ [cmpInt o o', cmpStr n n', cmpInt s s'], cmpTms x y]) := by
    show _ = _
    simp only [cmpTm, firstNZ]
    repeat' split
    all_goals first | rfl | simp_all
  clear ha hb h e3 e3' hv hv'
  go_enter Try.func47, Try.ntmps47
  go_wp2_with fail
  generalize hW : (w.alloc _).alloc _ = W
  have hbW : Below w.heap.size w W := by rw [← hW]; exact ((Below.refl _ _).alloc (Nat.le_refl _) _).alloc (by simp) _
  have p0 : W.cell? ⟨w.heap.size, 0, none⟩ = some (.int .i64 o) := by rw [← hW]; simp
  have p1 : W.cell? ⟨w.heap.size, 1, none⟩ = some (.string n) := by rw [← hW]; simp
  have p2 : W.cell? ⟨w.heap.size, 2, none⟩ = some (.int .i64 s) := by rw [← hW]; simp
  have p3 : W.cell? ⟨w.heap.size, 3, none⟩ = some v3 := by rw [← hW]; simp
  have q0 : W.cell? ⟨w.heap.size + 1, 0, none⟩ = some (.int .i64 o') := by rw [← hW]; simp
  have q1 : W.cell? ⟨w.heap.size + 1, 1, none⟩ = some (.string n') := by rw [← hW]; simp
  have q2 : W.cell? ⟨w.heap.size + 1, 2, none⟩ = some (.int .i64 s') := by rw [← hW]; simp
  have q3 : W.cell? ⟨w.heap.size + 1, 3, none⟩ = some v3' := by rw [← hW]; simp
  have z0 : w.heap.size < W.heap.size := by rw [← hW]; simp; omega
  have z1 : w.heap.size + 1 < W.heap.size := by rw [← hW]; simp
  have HOR := Lib.hid (fun w => cmpOr [cmpInt o o', cmpStr n n', cmpInt s s'] W.heap.size 3 3 w rfl (by omega))
  clear hW
  go_region_held3 (fun w' => ∀ b o, b < W.heap.size → w'.cell? ⟨b, o, none⟩ = W.cell? ⟨b, o, none⟩) (first | exact fun b o h => cell_alloc_drew _ _ _ h | go_keep)
    (first
      | (go_at_call 59; refine (cmpCompare _ _ _).mono ?_; rintro e w' ⟨rfl, rfl⟩)
      | (go_at_call 60; refine (stringsCompare _ _ _).mono ?_; rintro e w' ⟨rfl, rfl⟩)
      | (go_at_call 44; refine (HOR.out _ (cells_of_list (W := W))).mono ?_; rintro e w' ⟨rfl, rfl⟩))
  have hbD : ∀ o1, Below w.heap.size w (W.alloc o1).drew := fun o1 => (hbW.alloc hbW.size o1).drew
  have hcd : ∀ o1 b o, b < W.heap.size → (W.alloc o1).drew.cell? ⟨b, o, none⟩ = W.cell? ⟨b, o, none⟩ := fun o1 b o h => cell_alloc_drew W o1 ⟨b, o, none⟩ h
  generalize hc : firstNZ [cmpInt o o', cmpStr n n', cmpInt s s'] = c at HF ⊢
  clear hc
  by_cases hc0 : c = 0
  · subst hc0
    go_wp2_with fail
    refine (H.out S S' _ _ _ HX.out HY.out (E.out.below (hbD _)) (E'.out.below (hbD _))).mono ?_
    rintro e w2 ⟨rfl, hb2⟩
    go_wp2
    go_ret
    exact ⟨ret_int (by rw [HF.out, firstNZ2_zero rfl]; rfl), (hbD _).trans (hb2.mono (hbD _).size)⟩
  · have hc1 : (c == 0) = false := by simpa using hc0
    have hc2 : (c != 0) = true := by simpa using hc0
    go_wp2
    go_ret
    exact ⟨ret_int (by rw [HF.out, firstNZ2_nz hc0]), hbD _⟩

mutual
def sizeTm : Tm → Nat
  | .mk _ _ _ a => 1 + sizeTms a
def sizeTms : List Tm → Nat
  | [] => 0
  | t :: ts => sizeTm t + sizeTms ts
end
theorem sizeTms_get : ∀ {ts : List Tm} {i : Nat} {t : Tm}, ts[i]? = some t → sizeTms t.args < sizeTms ts
  | [], _, _, h => by simp at h
  | x :: xs, 0, t, h => by
    simp at h
    subst h
    cases x
    simp only [sizeTms, sizeTm, Tm.args]
    omega
  | x :: xs, i + 1, t, h => by
    have := sizeTms_get (ts := xs) (i := i) (by simpa using h)
    simp only [sizeTms]
    omega
theorem implCompareFunc_all (n : Nat) : ∀ x y, sizeTms x < n → cmpTmsC 46 x y := by
  induction n with
  | zero => intro x y h; omega
  | succ n ih => exact fun x y h => implCompareFunc_of x y (fun i a b ha hb => implCompareTerms_of a b (ih _ _ (by have := sizeTms_get ha; omega)))
theorem implCompareFunc (x y : List Tm) : cmpTmsC 46 x y := implCompareFunc_all _ x y (Nat.lt_succ_self _)
theorem implCompareTerms (a b : Tm) : cmpTmC 47 a b := implCompareTerms_of a b (implCompareFunc _ _)
end Go.Proofs.Ytiglacjigkcgkaa
