/-
  Part of a proof.
-/
import Derived.WalkKit
import Derived.WalkSpells
import Derived.WalkLawsBesides
import Derived.Lib.Hide
import Derived.Deep.Draws
import Derived.Test.YtmdkimnlbaahbaaGreatDoorRows
import Derived.ChangeSame
import Derived.JoinedOf
import Derived.JoinedAt
import Derived.RowKit
import Derived.RowKit2
import Derived.OpenShut
import Derived.ProofKit
import Derived.Deep.Slices
import Derived.Carry
import Derived.StillTailTactics
import Derived.StillTail
import Derived.Great.BuildSlice
import Derived.Laws.AppendOwn
import Derived.Laws.MakeOwn
set_option linter.unusedSimpArgs false
set_option linter.unusedVariables false
set_option maxHeartbeats 400000000
set_option maxRecDepth 100000
namespace Go.Proofs.YtmdkimnlbaahbaaGreatDoor
open Go.RowKit
theorem ai {a b : Prop} (x : a) (y : b) : a ∧ b := And.intro x y
theorem aj3 {p0 p1 p2:Prop} (x0:p0) (x1:p1) (x2:p2) : p0∧p1∧p2 := ⟨x0,x1,x2⟩
theorem aj4 {p0 p1 p2 p3:Prop} (x0:p0) (x1:p1) (x2:p2) (x3:p3) : p0∧p1∧p2∧p3 := ⟨x0,x1,x2,x3⟩
theorem aj5 {p0 p1 p2 p3 p4:Prop} (x0:p0) (x1:p1) (x2:p2) (x3:p3) (x4:p4) : p0∧p1∧p2∧p3∧p4 := ⟨x0,x1,x2,x3,x4⟩
theorem aj6 {p0 p1 p2 p3 p4 p5:Prop} (x0:p0) (x1:p1) (x2:p2) (x3:p3) (x4:p4) (x5:p5) : p0∧p1∧p2∧p3∧p4∧p5 := ⟨x0,x1,x2,x3,x4,x5⟩
theorem aj7 {p0 p1 p2 p3 p4 p5 p6:Prop} (x0:p0) (x1:p1) (x2:p2) (x3:p3) (x4:p4) (x5:p5) (x6:p6) : p0∧p1∧p2∧p3∧p4∧p5∧p6 := ⟨x0,x1,x2,x3,x4,x5,x6⟩
theorem aj8 {p0 p1 p2 p3 p4 p5 p6 p7:Prop} (x0:p0) (x1:p1) (x2:p2) (x3:p3) (x4:p4) (x5:p5) (x6:p6) (x7:p7) : p0∧p1∧p2∧p3∧p4∧p5∧p6∧p7 := ⟨x0,x1,x2,x3,x4,x5,x6,x7⟩
theorem aj9 {p0 p1 p2 p3 p4 p5 p6 p7 p8:Prop} (x0:p0) (x1:p1) (x2:p2) (x3:p3) (x4:p4) (x5:p5) (x6:p6) (x7:p7) (x8:p8) : p0∧p1∧p2∧p3∧p4∧p5∧p6∧p7∧p8 := ⟨x0,x1,x2,x3,x4,x5,x6,x7,x8⟩
theorem aj10 {p0 p1 p2 p3 p4 p5 p6 p7 p8 p9:Prop} (x0:p0) (x1:p1) (x2:p2) (x3:p3) (x4:p4) (x5:p5) (x6:p6) (x7:p7) (x8:p8) (x9:p9) : p0∧p1∧p2∧p3∧p4∧p5∧p6∧p7∧p8∧p9 := ⟨x0,x1,x2,x3,x4,x5,x6,x7,x8,x9⟩
theorem aj11 {p0 p1 p2 p3 p4 p5 p6 p7 p8 p9 p10:Prop} (x0:p0) (x1:p1) (x2:p2) (x3:p3) (x4:p4) (x5:p5) (x6:p6) (x7:p7) (x8:p8) (x9:p9) (x10:p10) : p0∧p1∧p2∧p3∧p4∧p5∧p6∧p7∧p8∧p9∧p10 := ⟨x0,x1,x2,x3,x4,x5,x6,x7,x8,x9,x10⟩
theorem aj12 {p0 p1 p2 p3 p4 p5 p6 p7 p8 p9 p10 p11:Prop} (x0:p0) (x1:p1) (x2:p2) (x3:p3) (x4:p4) (x5:p5) (x6:p6) (x7:p7) (x8:p8) (x9:p9) (x10:p10) (x11:p11) : p0∧p1∧p2∧p3∧p4∧p5∧p6∧p7∧p8∧p9∧p10∧p11 := ⟨x0,x1,x2,x3,x4,x5,x6,x7,x8,x9,x10,x11⟩
theorem aj13 {p0 p1 p2 p3 p4 p5 p6 p7 p8 p9 p10 p11 p12:Prop} (x0:p0) (x1:p1) (x2:p2) (x3:p3) (x4:p4) (x5:p5) (x6:p6) (x7:p7) (x8:p8) (x9:p9) (x10:p10) (x11:p11) (x12:p12) : p0∧p1∧p2∧p3∧p4∧p5∧p6∧p7∧p8∧p9∧p10∧p11∧p12 := ⟨x0,x1,x2,x3,x4,x5,x6,x7,x8,x9,x10,x11,x12⟩
theorem aj14 {p0 p1 p2 p3 p4 p5 p6 p7 p8 p9 p10 p11 p12 p13:Prop} (x0:p0) (x1:p1) (x2:p2) (x3:p3) (x4:p4) (x5:p5) (x6:p6) (x7:p7) (x8:p8) (x9:p9) (x10:p10) (x11:p11) (x12:p12) (x13:p13) : p0∧p1∧p2∧p3∧p4∧p5∧p6∧p7∧p8∧p9∧p10∧p11∧p12∧p13 := ⟨x0,x1,x2,x3,x4,x5,x6,x7,x8,x9,x10,x11,x12,x13⟩
theorem aj15 {p0 p1 p2 p3 p4 p5 p6 p7 p8 p9 p10 p11 p12 p13 p14:Prop} (x0:p0) (x1:p1) (x2:p2) (x3:p3) (x4:p4) (x5:p5) (x6:p6) (x7:p7) (x8:p8) (x9:p9) (x10:p10) (x11:p11) (x12:p12) (x13:p13) (x14:p14) : p0∧p1∧p2∧p3∧p4∧p5∧p6∧p7∧p8∧p9∧p10∧p11∧p12∧p13∧p14 := ⟨x0,x1,x2,x3,x4,x5,x6,x7,x8,x9,x10,x11,x12,x13,x14⟩
theorem aj16 {p0 p1 p2 p3 p4 p5 p6 p7 p8 p9 p10 p11 p12 p13 p14 p15:Prop} (x0:p0) (x1:p1) (x2:p2) (x3:p3) (x4:p4) (x5:p5) (x6:p6) (x7:p7) (x8:p8) (x9:p9) (x10:p10) (x11:p11) (x12:p12) (x13:p13) (x14:p14) (x15:p15) : p0∧p1∧p2∧p3∧p4∧p5∧p6∧p7∧p8∧p9∧p10∧p11∧p12∧p13∧p14∧p15 := ⟨x0,x1,x2,x3,x4,x5,x6,x7,x8,x9,x10,x11,x12,x13,x14,x15⟩
theorem om {p : Prop} (h : p := by omega) : p := h
theorem lT (x y:Int) (h:x<y:=by omega):(x<y)=True:=eq_true h
theorem lF (x y:Int) (h:¬x<y:=by omega):(x<y)=False:=eq_false h
theorem Taa : type_of% @List.getElem?_eq_getElem := @List.getElem?_eq_getElem
theorem Tac : type_of% @List.mem_of_getElem? := @List.mem_of_getElem?
theorem Tad : type_of% @List.getElem?_eq_some_iff := @List.getElem?_eq_some_iff
theorem Tae : type_of% @List.length_append := @List.length_append
theorem Taf : type_of% @List.cons_append := @List.cons_append
theorem Tag : type_of% @List.length_cons := @List.length_cons
theorem Tah : type_of% @List.nil_append := @List.nil_append
theorem Tai : type_of% @Nat.le_refl := @Nat.le_refl
theorem Taj : type_of% @Nat.zero_le := @Nat.zero_le
theorem Tak : type_of% @List.length_nil := @List.length_nil
theorem Tal : type_of% @List.mem_cons_of_mem := @List.mem_cons_of_mem
theorem Tam : type_of% @Bool.false_eq_true := @Bool.false_eq_true
theorem Tan : type_of% @Nat.lt_succ_self := @Nat.lt_succ_self
theorem Tao : type_of% @List.eq_nil_of_length_eq_zero := @List.eq_nil_of_length_eq_zero
theorem Tap : type_of% @List.take_length := @List.take_length
theorem Taq : type_of% @Option.some.injEq := @Option.some.injEq
theorem Tar : type_of% @Bool.and_eq_true := @Bool.and_eq_true
theorem Tas : type_of% @List.mem_cons_self := @List.mem_cons_self
theorem Tat : type_of% @List.getElem?_cons_zero := @List.getElem?_cons_zero
theorem Tau : type_of% @List.getElem?_cons_succ := @List.getElem?_cons_succ
theorem Tav : type_of% @Option.map_eq_some_iff := @Option.map_eq_some_iff
theorem Taw : type_of% @List.length_take := @List.length_take
theorem Tax : type_of% @List.length_drop := @List.length_drop
theorem Tay : type_of% @List.length_map := @List.length_map
theorem Taz : type_of% @List.length_set := @List.length_set
theorem Tba : type_of% @List.getElem?_map := @List.getElem?_map
theorem Tbb : type_of% @List.getElem?_drop := @List.getElem?_drop
theorem Tbc : type_of% @List.take_succ_cons := @List.take_succ_cons
theorem Tbd : type_of% @Nat.lt_of_lt_of_le := @Nat.lt_of_lt_of_le
theorem Tbe : type_of% @Nat.le_trans := @Nat.le_trans
theorem Tbf : type_of% @List.append_assoc := @List.append_assoc
theorem Tbg : type_of% @List.mem_cons := @List.mem_cons
theorem Tbh : type_of% @List.mem_append := @List.mem_append
theorem Tbi : type_of% @List.mem_map := @List.mem_map
theorem Tbj : type_of% @List.mem_singleton := @List.mem_singleton
theorem Tbk : type_of% @List.getElem?_of_mem := @List.getElem?_of_mem
theorem Tbl : type_of% @Array.getElem?_eq_some_iff := @Array.getElem?_eq_some_iff
theorem Tbm : type_of% @List.take_append_drop := @List.take_append_drop
theorem Tbn : type_of% @List.getElem?_set_self := @List.getElem?_set_self
theorem Tbo : type_of% @List.getElem?_set_ne := @List.getElem?_set_ne
theorem Tbp : type_of% @List.getElem?_append_left := @List.getElem?_append_left
theorem Tbq : type_of% @List.getElem?_append_right := @List.getElem?_append_right
theorem Tbr : type_of% @List.getElem?_replicate := @List.getElem?_replicate
theorem Tbs : type_of% @Nat.pow_le_pow_right := @Nat.pow_le_pow_right
theorem Tbt : type_of% @Nat.testBit_lt_two_pow := @Nat.testBit_lt_two_pow
theorem Tbu : type_of% @List.map_cons := @List.map_cons
theorem Tbv : type_of% @List.map_append := @List.map_append
theorem Tbw : type_of% @Int.toNat_natCast := @Int.toNat_natCast
inductive C where
 | lit (v:Value)
 | sl (rows:List (List C))
 | ptr (cs:List C)
 | fn (f:Nat) (caps:List C)
mutual
def Rep (w:World) (S:Nat->Prop):C->Value->Prop
 | .lit x,v=>v=x
 | .sl rows,v=>∃ A n cap,v=.slice A n cap∧rows.length=n∧n<=cap∧cap<=maxLen ∧
   (0 < n->∃ b off,A=some ⟨b,off,none⟩∧S b∧b < w.heap.size∧Zap w S b off rows)
 | .ptr cs,v=>∃ b off,v=.pointer (some ⟨b,off,none⟩)∧S b∧b < w.heap.size∧Zaj w S b off cs
 | .fn f caps,v=>∃ us:List Value,v=.func (.func f) #[] us.toArray∧Zad w S caps us
def Zap (w:World) (S:Nat->Prop) (b:Nat):Nat->List (List C)->Prop
 | _,[]=>True
 | off,r::rs=>Zaj w S b off r∧Zap w S b (off+r.length) rs
def Zaj (w:World) (S:Nat->Prop) (b:Nat):Nat->List C->Prop
 | _,[]=>True
 | off,c::cs=>(∃ u,w.cell? ⟨b,off,none⟩=some u∧Rep w S c u)∧Zaj w S b (off+1) cs
def Zad (w:World) (S:Nat->Prop):List C->List Value->Prop
 | [],[]=>True
 | c::cs,v::vs=>Rep w S c v∧Zad w S cs vs
 | [],_::_=>False
 | _::_,[]=>False
end
section
variable {w w':World} {S S':Nat->Prop}
mutual
theorem Rep.keep (hz:w.heap.size<=w'.heap.size) (hk:∀ b o,S b->w'.cell? ⟨b,o,none⟩=w.cell? ⟨b,o,none⟩) (hS:∀ b,S b->S' b) :
  ∀ (c:C) (v:Value),Rep w S c v->Rep w' S' c v
 | .lit x,v,h=>by simpa [Rep] using h
 | .sl rows,v,h=>by
  simp only [Rep] at h ⊢;obtain ⟨A,n,cap,hv,hn,hc,hm,hr⟩:=h;refine ⟨A,n,cap,hv,hn,hc,hm,fun h0=>?_⟩;obtain ⟨b,off,hA,hs,hb,hrows⟩:=hr h0;exact ⟨b,off,hA,hS b hs,om,Zap.keep hz hk hS b hs off rows hrows⟩
 | .ptr cs,v,h=>by
  simp only [Rep] at h ⊢;obtain ⟨b,off,hv,hs,hb,hr⟩:=h;exact ⟨b,off,hv,hS b hs,om,Zaj.keep hz hk hS b hs off cs hr⟩
 | .fn f caps,v,h=>by
  simp only [Rep] at h ⊢;obtain ⟨us,hv,hr⟩:=h;exact ⟨us,hv,Zad.keepC hz hk hS caps us hr⟩
theorem Zad.keepC (hz:w.heap.size<=w'.heap.size) (hk:∀ b o,S b->w'.cell? ⟨b,o,none⟩=w.cell? ⟨b,o,none⟩) (hS:∀ b,S b->S' b) :
  ∀ (cs:List C) (us:List Value),Zad w S cs us->Zad w' S' cs us
 | [],[],_=>by simp [Zad]
 | c::cs,u::us,h=>by
  simp only [Zad] at h ⊢;exact ⟨Rep.keep hz hk hS c u h.1,Zad.keepC hz hk hS cs us h.2⟩
 | [],_::_,h=>by simp [Zad] at h
 | _::_,[],h=>by simp [Zad] at h
theorem Zap.keep (hz:w.heap.size<=w'.heap.size) (hk:∀ b o,S b->w'.cell? ⟨b,o,none⟩=w.cell? ⟨b,o,none⟩) (hS:∀ b,S b->S' b) (b:Nat) (hb:S b) :
  ∀ (off:Nat) (rows:List (List C)),Zap w S b off rows->Zap w' S' b off rows
 | _,[],_=>by simp [Zap]
 | off,r::rs,h=>by
  simp only [Zap] at h ⊢;exact ⟨Zaj.keep hz hk hS b hb off r h.1,Zap.keep hz hk hS b hb _ rs h.2⟩
theorem Zaj.keep (hz:w.heap.size<=w'.heap.size) (hk:∀ b o,S b->w'.cell? ⟨b,o,none⟩=w.cell? ⟨b,o,none⟩) (hS:∀ b,S b->S' b) (b:Nat) (hb:S b) :
  ∀ (off:Nat) (cs:List C),Zaj w S b off cs->Zaj w' S' b off cs
 | _,[],_=>by simp [Zaj]
 | off,c::cs,h=>by
  simp only [Zaj] at h ⊢;obtain ⟨⟨u,hu,hr⟩,h2⟩:=h;exact ⟨⟨u,by rw [hk b off hb];exact hu,Rep.keep hz hk hS c u hr⟩,Zaj.keep hz hk hS b hb _ cs h2⟩
end
mutual
theorem Rep.inside:∀ (c:C) (v:Value),Rep w S c v->Rep w (fun b=>S b∧b < w.heap.size) c v
 | .lit x,v,h=>by simpa [Rep] using h
 | .sl rows,v,h=>by
  simp only [Rep] at h ⊢;obtain ⟨A,n,cap,hv,hn,hc,hm,hr⟩:=h;refine ⟨A,n,cap,hv,hn,hc,hm,fun h0=>?_⟩;obtain ⟨b,off,hA,hs,hb,hrows⟩:=hr h0;exact ⟨b,off,hA,⟨hs,hb⟩,hb,Zap.inside b off rows hrows⟩
 | .ptr cs,v,h=>by
  simp only [Rep] at h ⊢;obtain ⟨b,off,hv,hs,hb,hr⟩:=h;exact ⟨b,off,hv,⟨hs,hb⟩,hb,Zaj.inside b off cs hr⟩
 | .fn f caps,v,h=>by
  simp only [Rep] at h ⊢;obtain ⟨us,hv,hr⟩:=h;exact ⟨us,hv,Zad.insideC caps us hr⟩
theorem Zad.insideC:∀ (cs:List C) (us:List Value),Zad w S cs us->Zad w (fun b=>S b∧b < w.heap.size) cs us
 | [],[],_=>by simp [Zad]
 | c::cs,u::us,h=>by
  simp only [Zad] at h ⊢;exact ⟨Rep.inside c u h.1,Zad.insideC cs us h.2⟩
 | [],_::_,h=>by simp [Zad] at h
 | _::_,[],h=>by simp [Zad] at h
theorem Zap.inside (b:Nat):∀ (off:Nat) (rows:List (List C)),Zap w S b off rows->Zap w (fun b=>S b∧b < w.heap.size) b off rows
 | _,[],_=>by simp [Zap]
 | off,r::rs,h=>by
  simp only [Zap] at h ⊢;exact ⟨Zaj.inside b off r h.1,Zap.inside b _ rs h.2⟩
theorem Zaj.inside (b:Nat):∀ (off:Nat) (cs:List C),Zaj w S b off cs->Zaj w (fun b=>S b∧b < w.heap.size) b off cs
 | _,[],_=>by simp [Zaj]
 | off,c::cs,h=>by
  simp only [Zaj] at h ⊢;obtain ⟨⟨u,hu,hr⟩,h2⟩:=h;exact ⟨⟨u,hu,Rep.inside c u hr⟩,Zaj.inside b _ cs h2⟩
end
theorem Rep.below {c:C} {v:Value} (h:Rep w S c v) (hb:Below w.heap.size w w'):Rep w' S c v :=
 Rep.keep hb.size (fun b o hs=>hb.cell (p:=⟨b,o,none⟩) hs.2) (fun _ hs=>hs.1) c v (Rep.inside c v h)
theorem Rep.mono {c:C} {v:Value} (h:Rep w S c v) (hS:∀ b,S b->S' b):Rep w S' c v :=
 Rep.keep (Tai _) (fun _ _ _=>rfl) hS c v h
theorem Zap.get {b k:Nat}:∀ (rows:List (List C)) (off i:Nat) (r:List C),(∀ x∈rows,x.length=k)->Zap w S b off rows->rows[i]?=some r->Zaj w S b (off+i * k) r
 | [],_,_,_,_,_,hi=>by simp at hi
 | x::xs,off,0,r,_,h,hi=>by
  simp only [Tat,Taq] at hi;subst hi;simpa using h.1
 | x::xs,off,i+1,r,hl,h,hi=>by
  have hx:=hl x (by simp);have:=Zap.get xs (off+x.length) i r (fun y hy=>hl y (by simp [hy])) h.2 (by simpa using hi);rw [hx] at this;rw [Nat.add_mul];have e:off+k+i * k=off+(i * k+1 * k):=om;rw [e] at this;exact this
theorem Zad.below:∀ {cs:List C} {us:List Value},Zad w S cs us->Below w.heap.size w w'->Zad w' S cs us
 | [],[],_,_=>by simp [Zad]
 | c::cs,u::us,h,hb=>by
  simp only [Zad] at h ⊢;exact ⟨h.1.below hb,Zad.below h.2 hb⟩
 | [],_::_,h,_=>by simp [Zad] at h
 | _::_,[],h,_=>by simp [Zad] at h
theorem Zad.mono:∀ {cs:List C} {us:List Value},Zad w S cs us->(∀ b,S b->S' b)->Zad w S' cs us
 | [],[],_,_=>by simp [Zad]
 | c::cs,u::us,h,hb=>by
  simp only [Zad] at h ⊢;exact ⟨h.1.mono hb,Zad.mono h.2 hb⟩
 | [],_::_,h,_=>by simp [Zad] at h
 | _::_,[],h,_=>by simp [Zad] at h
end
def Room (w:World) (b off cap:Nat) (rows:List (List C)):Prop :=
 (∀ o,w.frozen? ⟨b,o,none⟩=false)∧off=0∧∃ (cur:Array Value) (ety sz:Nat),w.heap[b]?=some (.cells cur ety (0,0))∧cur.size=cap * sz∧0 < sz∧∀ r∈rows,r.length=sz
mutual
def Own (w:World):C->(Nat->Prop)->Value->Prop
 | .lit x,_,v=>v=x
 | .sl rows,S,v=>∃ A n cap,v=.slice A n cap∧rows.length=n∧n<=cap∧cap<=maxLen ∧
   (0 < cap->∃ (b off:Nat) (S':Nat->Prop),A=some ⟨b,off,none⟩∧S b∧b < w.heap.size∧Room w b off cap rows∧(∀ x,S' x->S x∧x≠b)∧ZaZ w b rows S' off)
 | .ptr _,_,_=>False
 | .fn _ _,_,_=>False
def ZaZ (w:World) (b:Nat):List (List C)->(Nat->Prop)->Nat->Prop
 | [],_,_=>True
 | r::rs,S,off=>∃ (S1 S2:Nat->Prop),(∀ x,S1 x->S x)∧(∀ x,S2 x->S x)∧(∀ x,S1 x->S2 x->False)∧ZbJ w b r S1 off∧ZaZ w b rs S2 (off+r.length)
def ZbJ (w:World) (b:Nat):List C->(Nat->Prop)->Nat->Prop
 | [],_,_=>True
 | c::cs,S,off=>∃ (S1 S2:Nat->Prop) (u:Value),(∀ x,S1 x->S x)∧(∀ x,S2 x->S x)∧(∀ x,S1 x->S2 x->False)∧w.cell? ⟨b,off,none⟩=some u∧Own w c S1 u∧ZbJ w b cs S2 (off+1)
end
def Zal (w:World):List C->(Nat->Prop)->List Value->Prop
 | [],_,[]=>True
 | c::cs,S,u::us=>∃ (S1 S2:Nat->Prop),(∀ x,S1 x->S x)∧(∀ x,S2 x->S x)∧(∀ x,S1 x->S2 x->False)∧Own w c S1 u∧Zal w cs S2 us
 | _,_,_=>False
section
variable {w w':World}
mutual
theorem Own.rep:∀ (c:C) (S:Nat->Prop) (v:Value),Own w c S v->Rep w S c v
 | .lit x,_,v,h=>by simpa [Rep,Own] using h
 | .sl rows,S,v,h=>by
  simp only [Rep,Own] at h ⊢;obtain ⟨A,n,cap,hv,hn,hc,hm,hr⟩:=h;refine ⟨A,n,cap,hv,hn,hc,hm,fun h0=>?_⟩;obtain ⟨b,off,S',hA,hs,hb,_,hS,hrows⟩:=hr om;exact ⟨b,off,hA,hs,hb,ZaZ.rep rows S' S b off (fun x hx=>(hS x hx).1) hrows⟩
 | .ptr _,_,_,h=>by simp [Own] at h
 | .fn _ _,_,_,h=>by simp [Own] at h
theorem ZaZ.rep:∀ (rows:List (List C)) (S S0:Nat->Prop) (b off:Nat),(∀ x,S x->S0 x)->ZaZ w b rows S off->Zap w S0 b off rows
 | [],_,_,_,_,_,_=>by simp [Zap]
 | r::rs,S,S0,b,off,hS,h=>by
  simp only [Zap,ZaZ] at h ⊢;obtain ⟨S1,S2,h1,h2,_,hr,hrs⟩:=h;exact ⟨ZbJ.rep r S1 S0 b off (fun x hx=>hS x (h1 x hx)) hr,ZaZ.rep rs S2 S0 b _ (fun x hx=>hS x (h2 x hx)) hrs⟩
theorem ZbJ.rep:∀ (cs:List C) (S S0:Nat->Prop) (b off:Nat),(∀ x,S x->S0 x)->ZbJ w b cs S off->Zaj w S0 b off cs
 | [],_,_,_,_,_,_=>by simp [Zaj]
 | c::cs,S,S0,b,off,hS,h=>by
  simp only [Zaj,ZbJ] at h ⊢;obtain ⟨S1,S2,u,h1,h2,_,hu,hc,hcs⟩:=h;exact ⟨⟨u,hu,(Own.rep c S1 u hc).mono (fun x hx=>hS x (h1 x hx))⟩,ZbJ.rep cs S2 S0 b _ (fun x hx=>hS x (h2 x hx)) hcs⟩
end
theorem Zal.rep:∀ (cs:List C) (S S0:Nat->Prop) (us:List Value),(∀ x,S x->S0 x)->Zal w cs S us->Zad w S0 cs us
 | [],_,_,[],_,_=>by simp [Zad]
 | c::cs,S,S0,u::us,hS,h=>by
  simp only [Zad,Zal] at h ⊢;obtain ⟨S1,S2,h1,h2,_,hc,hcs⟩:=h;exact ⟨(Own.rep c S1 u hc).mono (fun x hx=>hS x (h1 x hx)),Zal.rep cs S2 S0 us (fun x hx=>hS x (h2 x hx)) hcs⟩
 | [],_,_,_::_,_,h=>by simp [Zal] at h
 | _::_,_,_,[],_,h=>by simp [Zal] at h
mutual
theorem Own.keep (hz:w.heap.size<=w'.heap.size):∀ (c:C) (S S':Nat->Prop) (v:Value),(∀ b,S b->w'.heap[b]?=w.heap[b]?)->(∀ b,S b->S' b)->Own w c S v->Own w' c S' v
 | .lit x,_,_,v,_,_,h=>by simpa [Own] using h
 | .sl rows,S,S',v,hk,hS,h=>by
  simp only [Own] at h ⊢;obtain ⟨A,n,cap,hv,hn,hc,hm,hr⟩:=h;refine ⟨A,n,cap,hv,hn,hc,hm,fun h0=>?_⟩;obtain ⟨b,off,T,hA,hs,hb,hf,hT,hrows⟩:=hr h0;obtain ⟨hf,hf0,cur,ety,sz,hf1,hf2⟩:=hf;refine ⟨b,off,T,hA,hS b hs,om,⟨fun o=>?_,hf0,cur,ety,sz,by rw [hk b hs];exact hf1,hf2⟩,fun x hx=>⟨hS x (hT x hx).1,(hT x hx).2⟩,?_⟩
  ·rw [<- hf o];exact World.frozen?_of_block (hk b hs)
  ·exact ZaZ.keep hz rows T T b off (fun o _=>World.cell?_of_block (hk b hs)) (fun x hx=>hk x (hT x hx).1) (fun _ h=>h) hrows
 | .ptr _,_,_,_,_,_,h=>by simp [Own] at h
 | .fn _ _,_,_,_,_,_,h=>by simp [Own] at h
theorem ZaZ.keep (hz:w.heap.size<=w'.heap.size):∀ (rows:List (List C)) (S S':Nat->Prop) (b off:Nat),(∀ o,o < off+rows.flatten.length->w'.cell? ⟨b,o,none⟩=w.cell? ⟨b,o,none⟩) ->
  (∀ x,S x->w'.heap[x]?=w.heap[x]?)->(∀ x,S x->S' x)->ZaZ w b rows S off->ZaZ w' b rows S' off
 | [],_,_,_,_,_,_,_,_=>by simp [ZaZ]
 | r::rs,S,S',b,off,hb,hk,hS,h=>by
  simp only [ZaZ] at h ⊢;obtain ⟨S1,S2,h1,h2,hd,hr,hrs⟩:=h;simp only [List.flatten_cons,Tae] at hb
  exact ⟨S1,S2,fun x hx=>hS x (h1 x hx),fun x hx=>hS x (h2 x hx),hd,ZbJ.keep hz r S1 S1 b off (fun o ho=>hb o om) (fun x hx=>hk x (h1 x hx)) (fun _ h=>h) hr,
   ZaZ.keep hz rs S2 S2 b _ (fun o ho=>hb o om) (fun x hx=>hk x (h2 x hx)) (fun _ h=>h) hrs⟩
theorem ZbJ.keep (hz:w.heap.size<=w'.heap.size):∀ (cs:List C) (S S':Nat->Prop) (b off:Nat),(∀ o,o < off+cs.length->w'.cell? ⟨b,o,none⟩=w.cell? ⟨b,o,none⟩) ->
  (∀ x,S x->w'.heap[x]?=w.heap[x]?)->(∀ x,S x->S' x)->ZbJ w b cs S off->ZbJ w' b cs S' off
 | [],_,_,_,_,_,_,_,_=>by simp [ZbJ]
 | c::cs,S,S',b,off,hb,hk,hS,h=>by
  simp only [ZbJ] at h ⊢;obtain ⟨S1,S2,u,h1,h2,hd,hu,hc,hcs⟩:=h;simp only [Tag] at hb
  exact ⟨S1,S2,u,fun x hx=>hS x (h1 x hx),fun x hx=>hS x (h2 x hx),hd,by rw [hb off om];exact hu,Own.keep hz c S1 S1 u (fun x hx=>hk x (h1 x hx)) (fun _ h=>h) hc,
   ZbJ.keep hz cs S2 S2 b _ (fun o ho=>hb o om) (fun x hx=>hk x (h2 x hx)) (fun _ h=>h) hcs⟩
end
theorem Zal.keep (hz:w.heap.size<=w'.heap.size):∀ (cs:List C) (S S':Nat->Prop) (us:List Value),(∀ b,S b->w'.heap[b]?=w.heap[b]?)->(∀ b,S b->S' b)->Zal w cs S us->Zal w' cs S' us
 | [],_,_,[],_,_,_=>by simp [Zal]
 | c::cs,S,S',u::us,hk,hS,h=>by
  simp only [Zal] at h ⊢;obtain ⟨S1,S2,h1,h2,hd,hc,hcs⟩:=h;exact ⟨S1,S2,fun x hx=>hS x (h1 x hx),fun x hx=>hS x (h2 x hx),hd,Own.keep hz c S1 S1 u (fun x hx=>hk x (h1 x hx)) (fun _ h=>h) hc,Zal.keep hz cs S2 S2 us (fun x hx=>hk x (h2 x hx)) (fun _ h=>h) hcs⟩
 | [],_,_,_::_,_,_,h=>by simp [Zal] at h
 | _::_,_,_,[],_,_,h=>by simp [Zal] at h
theorem ZbJ.of_vals {b:Nat}:∀ (cs:List C) (S:Nat->Prop) (us:List Value) (off:Nat),Zal w cs S us->(∀ j u,us[j]?=some u->w.cell? ⟨b,off+j,none⟩=some u)->ZbJ w b cs S off
 | [],_,_,_,_,_=>by simp [ZbJ]
 | c::cs,S,u::us,off,h,hc=>by
  simp only [ZbJ,Zal] at h ⊢;obtain ⟨S1,S2,h1,h2,hd,hu,hus⟩:=h;exact ⟨S1,S2,u,h1,h2,hd,by simpa using hc 0 u rfl,hu,ZbJ.of_vals cs S2 us (off+1) hus (fun j v hv=>by have:=hc (j+1) v (by simpa using hv);rw [<- this];congr 2;omega)⟩
 | _::_,_,[],_,h,_=>by simp [Zal] at h
theorem ZaZ.snoc {b:Nat}:∀ (rows:List (List C)) (r:List C) (S S1 S2:Nat->Prop) (off:Nat),ZaZ w b rows S1 off->ZbJ w b r S2 (off+rows.flatten.length)->(∀ x,S1 x->S x)->(∀ x,S2 x->S x)->(∀ x,S1 x->S2 x->False)->ZaZ w b (rows++[r]) S off
 | [],r,S,S1,S2,off,_,h2,_,e2,_=>by
  simp only [Tah,ZaZ,and_true];exact ⟨S2,fun _=>False,e2,fun _ h=>h.elim,fun _ _ h=>h,by simpa using h2⟩
 | x::xs,r,S,S1,S2,off,h1,h2,e1,e2,hd=>by
  simp only [Taf,ZaZ] at h1 ⊢;obtain ⟨T1,T2,t1,t2,td,hx,hxs⟩:=h1;refine ⟨T1,fun y=>T2 y∨S2 y,fun y hy=>e1 y (t1 y hy),fun y hy=>hy.elim (fun h=>e1 y (t2 y h)) (e2 y),fun y hy hy2=>hy2.elim (td y hy) (hd y (t1 y hy)),hx,?_⟩;refine ZaZ.snoc xs r _ T2 S2 _ hxs ?_ (fun y h=>.inl h) (fun y h=>.inr h) (fun y h=>hd y (t2 y h));simp only [List.flatten_cons,Tae] at h2;rw [Nat.add_assoc];exact h2
end
inductive TN where
 | int | str | ints | sub | decl | op | term | binding | bindings | occ | cond | eqn | step | link | chain | weight | pend
inductive F where
 | int | str | bool
 | sl (t:TN)
def Zfo:List F:=[.int,.str,.int,.sl .term]
def occF:List F:=[.sl .int,.sl .term,.sl .term,.sl .binding]
def Zgk:TN->List F
 | .int=>[.int]
 | .str=>[.str]
 | .ints=>[.sl .int]
 | .sub=>[.int,.int]
 | .decl=>[.sl .int,.int]
 | .op=>[.str,.sl .decl,.bool,.bool,.int]
 | .term=>Zfo
 | .binding=>Zfo++Zfo
 | .bindings=>[.sl .binding]
 | .occ=>occF
 | .cond=>Zfo++Zfo
 | .eqn=>Zfo++Zfo++[.sl .cond]
 | .step=>[.int]++occF++Zfo
 | .link=>[.int]++occF++[.sl .chain]
 | .chain=>Zfo++Zfo++[.sl .link]
 | .weight=>[.int,.sl .int]
 | .pend=>[.int,.sl .term,.sl .term]
def I64 (n:Int):Prop:=-9223372036854775808<=n∧n<=9223372036854775807
mutual
def okC:F->C->Prop
 | .int,.lit v=>∃ n:Int,v=.int .i64 n∧I64 n
 | .str,.lit v=>∃ s:ByteArray,v=.string s∧s.size<=maxLen
 | .bool,.lit v=>∃ b:Bool,v=.bool b
 | .sl t,.sl rows=>Zcd (Zgk t) rows
 | .int,.sl _=>False
 | .str,.sl _=>False
 | .bool,.sl _=>False
 | .sl _,.lit _=>False
 | _,.ptr _=>False
 | _,.fn _ _=>False
def Zcd (fs:List F):List (List C)->Prop
 | []=>True
 | r::rs=>Zbt fs r∧Zcd fs rs
def Zbt:List F->List C->Prop
 | [],[]=>True
 | f::fs,c::cs=>okC f c∧Zbt fs cs
 | [],_::_=>False
 | _::_,[]=>False
end
mutual
def Zdm:C->Nat
 | .lit (.string s)=>s.size
 | .lit _=>0
 | .sl rows=>rows.length+Zam rows
 | .ptr _=>0
 | .fn _ _=>0
def Zam:List (List C)->Nat
 | []=>0
 | r::rs=>Zan r+Zam rs
def Zan:List C->Nat
 | []=>0
 | c::cs=>Zdm c+Zan cs
end
theorem Zbt.len:∀ {fs:List F} {cs:List C},Zbt fs cs->cs.length=fs.length
 | [],[],_=>rfl
 | f::fs,c::cs,h=>by simp only [Zbt] at h;simp [Zbt.len h.2]
 | [],_::_,h=>by simp [Zbt] at h
 | _::_,[],h=>by simp [Zbt] at h
theorem Zcd.get {fs:List F}:∀ {rows:List (List C)} {i:Nat} {r:List C},Zcd fs rows->rows[i]?=some r->Zbt fs r
 | [],_,_,_,h=>by simp at h
 | x::xs,0,r,h,hi=>by simp at hi;subst hi;exact h.1
 | x::xs,i+1,r,h,hi=>Zcd.get (rows:=xs) (i:=i) h.2 (by simpa using hi)
theorem Zcd.lens {fs:List F}:∀ {rows:List (List C)},Zcd fs rows->∀ x∈rows,x.length=fs.length
 | [],_,x,hx=>by simp at hx
 | r::rs,h,x,hx=>by
  rcases Tbg.1 hx with rfl | hx
  ·exact Zbt.len h.1
  ·exact Zcd.lens h.2 x hx
mutual
def Zht:C->Nat
 | .lit _=>1
 | .sl rows=>1+ZfE rows
 | .ptr _=>1
 | .fn _ _=>1
def ZfE:List (List C)->Nat
 | []=>0
 | r::rs=>Zct r+ZfE rs
def Zct:List C->Nat
 | []=>0
 | c::cs=>Zht c+Zct cs
end
theorem ZeL:∀ {rows:List (List C)} {i:Nat} {r:List C},rows[i]?=some r->Zct r<=ZfE rows
 | [],_,_,h=>by simp at h
 | x::xs,0,r,h=>by simp at h;subst h;simp [ZfE]
 | x::xs,i+1,r,h=>by have:=ZeL (rows:=xs) (i:=i) (by simpa using h);simp only [ZfE];omega
def sub (left:Int) (b:Nat):Int:=if (b:Int)<=left then left - b else -1
section
variable {w:World} {S:Nat->Prop}
theorem Rep.form {rows:List (List C)} {v:Value} (h:Rep w S (.sl rows) v):∃ A n cap,v=.slice A n cap∧rows.length=n∧n<=cap∧cap<=maxLen:=by
 simp only [Rep] at h;obtain ⟨A,n,cap,hv,hn,hc,hm,_⟩:=h;exact ⟨A,n,cap,hv,hn,hc,hm⟩
theorem Rep.get {rows:List (List C)} {A:Option Addr} {n cap i:Nat} {fs:List F} (h:Rep w S (.sl rows) (.slice A n cap)) (hok:Zcd fs rows) (hi:i < n) :
  ∃ b off r,A=some ⟨b,off,none⟩∧S b∧b < w.heap.size∧rows[i]?=some r∧Zbt fs r∧Zaj w S b (off+i * fs.length) r:=by
 simp only [Rep] at h;obtain ⟨A',n',cap',hv,hn,hc,hm,hr⟩:=h;injection hv with e1 e2 e3
 subst e1 e2 e3;obtain ⟨b,off,hA,hs,hb,hrows⟩:=hr om;have hget:rows[i]?=some rows[i]:=Taa om;exact ⟨b,off,rows[i],hA,hs,hb,hget,hok.get hget,Zap.get rows off i _ (fun x hx=>hok.lens x hx) hrows hget⟩
end
theorem ZeD:∀ {rows:List (List C)} {i:Nat} {r:List C},rows[i]?=some r->Zan r<=Zam rows
 | [],_,_,h=>by simp at h
 | x::xs,0,r,h=>by simp at h;subst h;simp [Zam]
 | x::xs,i+1,r,h=>by have:=ZeD (rows:=xs) (i:=i) (by simpa using h);simp only [Zam];omega
structure Same (S:Nat->Prop) (w w':World):Prop where
 size:w.heap.size<=w'.heap.size
 block:∀ b,S b->w'.heap[b]?=w.heap[b]?
theorem Same.refl (S:Nat->Prop) (w:World):Same S w w:=⟨Tai _,fun _ _=>rfl⟩
theorem Same.trans {S:Nat->Prop} {a b c:World} (h:Same S a b) (k:Same S b c):Same S a c:=⟨Tbe h.size k.size,fun x hx=>(k.block x hx).trans (h.block x hx)⟩
theorem Same.mono {S S':Nat->Prop} {a b:World} (h:Same S a b) (hS:∀ x,S' x->S x):Same S' a b:=⟨h.size,fun x hx=>h.block x (hS x hx)⟩
theorem Same.drew (S:Nat->Prop) (w:World):Same S w w.drew:=⟨Tai _,fun _ _=>rfl⟩
theorem Same.below {B:Nat} {w w':World} (h:Below B w w'):Same (· < B) w w':=⟨h.size,h.block⟩
theorem Own.same {w w':World} {c:C} {S:Nat->Prop} {v:Value} (h:Own w c S v) (k:Same S w w'):Own w' c S v:=Own.keep k.size c S S v k.block (fun _ h=>h) h
theorem Zal.same {w w':World} {cs:List C} {S:Nat->Prop} {us:List Value} (h:Zal w cs S us) (k:Same S w w'):Zal w' cs S us:=Zal.keep k.size cs S S us k.block (fun _ h=>h) h
theorem Own.mono {w:World} {c:C} {S S':Nat->Prop} {v:Value} (h:Own w c S v) (k:∀ x,S x->S' x):Own w c S' v:=Own.keep (Tai _) c S S' v (fun _ _=>rfl) k h
theorem Zal.mono {w:World} {cs:List C} {S S':Nat->Prop} {us:List Value} (h:Zal w cs S us) (k:∀ x,S x->S' x):Zal w cs S' us:=Zal.keep (Tai _) cs S S' us (fun _ _=>rfl) k h
theorem Zal.lit {w:World} {cs:List C} {S:Nat->Prop} {us:List Value} {x:Value} (h:Zal w cs S us):Zal w (.lit x::cs) S (x::us) :=
 ⟨fun _=>False,S,fun _ h=>h.elim,fun _ h=>h,fun _ h _=>h,by simp [Own],h⟩
theorem Zal.nil {w:World} {S:Nat->Prop}:Zal w [] S []:=by simp [Zal]
theorem Zal.cons {w:World} {c:C} {cs:List C} {S:Nat->Prop} (S1 S2:Nat->Prop) {u:Value} {us:List Value} (h:Own w c S1 u) (h2:Zal w cs S2 us) (e1:∀ x,S1 x->S x) (e2:∀ x,S2 x->S x) (hd:∀ x,S1 x->S2 x->False):Zal w (c::cs) S (u::us) :=
 ⟨S1,S2,e1,e2,hd,h,h2⟩
theorem Zal.append {w:World}:∀ {cs ds:List C} {S:Nat->Prop} (S1 S2:Nat->Prop) {us vs:List Value},Zal w cs S1 us->Zal w ds S2 vs->(∀ x,S1 x->S x)->(∀ x,S2 x->S x)->(∀ x,S1 x->S2 x->False)->Zal w (cs++ds) S (us++vs)
 | [],ds,S,S1,S2,[],vs,_,h2,_,e2,_=>by simpa using h2.mono e2
 | c::cs,ds,S,S1,S2,u::us,vs,h1,h2,e1,e2,hd=>by
  simp only [Zal,Taf] at h1 ⊢;obtain ⟨T1,T2,t1,t2,td,hu,hus⟩:=h1
  exact ⟨T1,fun y=>T2 y∨S2 y,fun y hy=>e1 y (t1 y hy),fun y hy=>hy.elim (fun h=>e1 y (t2 y h)) (e2 y),fun y hy hy2=>hy2.elim (td y hy) (hd y (t1 y hy)),hu,
   Zal.append T2 S2 hus h2 (fun y h=>.inl h) (fun y h=>.inr h) (fun y h=>hd y (t2 y h))⟩
 | [],_,_,_,_,_::_,_,h,_,_,_,_=>by simp [Zal] at h
 | _::_,_,_,_,_,[],_,h,_,_,_,_=>by simp [Zal] at h
theorem Zal.len {w:World}:∀ {cs:List C} {S:Nat->Prop} {us:List Value},Zal w cs S us->us.length=cs.length
 | [],_,[],_=>rfl
 | c::cs,S,u::us,h=>by
  simp only [Zal] at h;obtain ⟨_,_,_,_,_,_,h2⟩:=h;simp [Zal.len h2]
 | [],_,_::_,h=>by simp [Zal] at h
 | _::_,_,[],h=>by simp [Zal] at h
theorem Zad.len {w:World} {S:Nat->Prop}:∀ {cs:List C} {us:List Value},Zad w S cs us->us.length=cs.length
 | [],[],_=>rfl
 | c::cs,u::us,h=>by simp only [Zad] at h;simp [Zad.len h.2]
 | [],_::_,h=>by simp [Zad] at h
 | _::_,[],h=>by simp [Zad] at h
theorem okC.one {w:World} {S:Nat->Prop} {f:F} {c:C} {u:Value} (h:okC f c) (hr:Rep w S c u):u.oneCell'=true:=by
 cases c with
 | lit v =>
  simp only [Rep] at hr;subst hr
  cases f <;> simp only [okC] at h
  ·obtain ⟨n,rfl,_⟩:=h;rfl
  ·obtain ⟨n,rfl,_⟩:=h;rfl
  ·obtain ⟨n,rfl⟩:=h;rfl
 | sl rows =>
  obtain ⟨A,n,cap,rfl,_⟩:=hr.form;rfl
 | ptr cs=>cases f <;> simp [okC] at h
 | fn f' caps=>cases f <;> simp [okC] at h
theorem Zbt.one {w:World} {S:Nat->Prop}:∀ {fs:List F} {cs:List C} {us:List Value},Zbt fs cs->Zad w S cs us->∀ u∈us,u.oneCell'=true
 | [],[],[],_,_,u,hu=>by simp at hu
 | f::fs,c::cs,x::us,h,hr,u,hu=>by
  simp only [Zbt] at h;simp only [Zad] at hr;rcases Tbg.1 hu with rfl | hu
  ·exact h.1.one hr.1
  ·exact Zbt.one h.2 hr.2 u hu
 | [],_::_,_,h,_,_,_=>by simp [Zbt] at h
 | _::_,[],_,h,_,_,_=>by simp [Zbt] at h
 | [],[],_::_,_,h,_,_=>by simp [Zad] at h
 | _::_,_::_,[],_,h,_,_=>by simp [Zad] at h
structure Put (w w':World) (g off:Nat) (us:List Value):Prop where
 os:w'.os=w.os
 tape:w'.tape=w.tape
 output:w'.output=w.output
 size:w'.heap.size=w.heap.size
 other:∀ k,k≠g->w'.heap[k]?=w.heap[k]?
 row:∀ cur t,w.heap[g]?=some (.cells cur t (0,0))->∃ cur',w'.heap[g]?=some (.cells cur' t (0,0))∧cur'.size=cur.size
 new:∀ j u,us[j]?=some u->w'.cell? ⟨g,off+j,none⟩=some u
 old:∀ o,(o < off∨off+us.length<=o)->w'.cell? ⟨g,o,none⟩=w.cell? ⟨g,o,none⟩
theorem Zf1 (w:World) (g off:Nat) (t:TypeId) (us:List Value) (cur:Array Value) (hg:w.heap[g]?=some (.cells cur t (0,0))) (hf:off+us.length<=cur.size) :
  Put w (w.setRow g (cur.toList.take off++us++cur.toList.drop (off+us.length)).toArray) g off us:=by
 have hl:(cur.toList.take off).length=off:=by simp;omega
 refine ⟨rfl,rfl,rfl,by simp,fun k hk=>setRow_other w g k _ hk,fun cur2 t2 h2=>?_,fun j u hu=>?_,fun o ho=>?_⟩
 ·rw [hg] at h2;injection h2 with h2
  injection h2 with h3 h4
  subst h3 h4;exact ⟨_,setRow_heap w g cur _ t _ hg,by simp;omega⟩
 ·have hj:j < us.length:=(Tad.1 hu).1;rw [cell_setRow_same w g _ cur _ t _ hg,List.getElem?_toArray,Tbf,Tbq om,hl,Tbp om];rw [<- hu];congr 1;omega
 ·rw [cell_setRow_same w g _ cur _ t _ hg,cell_of_row w g o cur t _ hg,List.getElem?_toArray,Tbf];rcases ho with ho | ho
  ·rw [Tbp om,List.getElem?_take];simp [ho]
  ·rw [Tbq om,hl,Tbq om,Tbb];have e:off+us.length+(o - off - us.length)=o:=om;rw [e];simp
def Zea (w0:World) (g:Nat) (E:TypeId) (m sz:Nat) (rows:List (List C)) (k:Nat) (wr:World):Prop :=
 Below g w0 wr∧g < wr.heap.size∧(∃ cur,wr.heap[g]?=some (.cells cur E (0,0))∧cur.size=m * sz)∧ZaZ wr g (rows.take k) (fun x=>g < x∧x < wr.heap.size) 0
theorem Zea.start {w0:World} {E:TypeId} {m sz:Nat} {rows:List (List C)} {cur:Array Value} (h:cur.size=m * sz):Zea w0 w0.heap.size E m sz rows 0 (w0.alloc (.cells cur E)) :=
 ⟨(Below.refl _ _).alloc (Tai _) _,by simp,⟨cur,heap_alloc_new w0 _,h⟩,by simp [ZaZ]⟩
theorem Zgl {fs:List F}:∀ {rows:List (List C)},Zcd fs rows->∀ k,k<=rows.length->(rows.take k).flatten.length=k * fs.length
 | [],_,k,hk=>by simp at hk;subst hk;simp
 | r::rs,h,0,_=>by simp
 | r::rs,h,k+1,hk=>by
  have:=Zgl h.2 k (by simpa using hk);have hl:=Zbt.len h.1;simp only [Tbc,List.flatten_cons,Tae,this,hl,Nat.add_mul];omega
theorem ZcC {α:Type} {l:List α} {k:Nat} {x:α} (h:l[k]?=some x):l.take (k+1)=l.take k++[x]:=by
 rw [List.take_add_one,h];rfl
theorem Zea.row {w0 wr w2:World} {g:Nat} {E:TypeId} {m sz:Nat} {rows:List (List C)} {k:Nat} (h:Zea w0 g E m sz rows k wr) (hb:Below wr.heap.size wr w2):∃ cur,w2.heap[g]?=some (.cells cur E (0,0))∧cur.size=m * sz:=by
 obtain ⟨cur,h1,h2⟩:=h.2.2.1;exact ⟨cur,by rw [hb.block g h.2.1];exact h1,h2⟩
theorem Zea.step {w0 wr w2 w3:World} {g:Nat} {E:TypeId} {m:Nat} {fs:List F} {rows:List (List C)} {k:Nat} {r:List C} {us:List Value} (h:Zea w0 g E m fs.length rows k wr) (hok:Zcd fs rows) (hk:rows[k]?=some r)
  (hb:Below wr.heap.size wr w2) (hown:Zal w2 r (fun x=>wr.heap.size<=x∧x < w2.heap.size) us) (hp:Put w2 w3 g (k * fs.length) us):Zea w0 g E m fs.length rows (k+1) w3:=by
 obtain ⟨h1,h2,⟨cur,h3,h4⟩,h5⟩:=h;have hkl:k < rows.length:=(Tad.1 hk).1;have hfl:=Zgl hok k om;have hsz:=hb.size;refine ⟨?_,by have:=hp.size;omega,?_,?_⟩
 ·exact (h1.trans (hb.mono om)).trans ⟨hp.os,hp.tape,hp.output,by have:=hp.size;omega,fun x hx=>hp.other x om⟩
 ·have h3':w2.heap[g]?=some (.cells cur E (0,0)):=by rw [hb.block g h2];exact h3
  obtain ⟨cur',h6,h7⟩:=hp.row cur E h3';exact ⟨cur',h6,om⟩
 ·rw [ZcC hk];refine ZaZ.snoc (rows.take k) r _ (fun x=>g < x∧x < wr.heap.size) (fun x=>wr.heap.size<=x∧x < w2.heap.size) 0 ?_ ?_ ?_ ?_ ?_
  ·refine ZaZ.keep (w:=wr) (by have:=hp.size;omega) _ _ _ g 0 (fun o ho=>?_) (fun x hx=>?_) (fun _ h=>h) h5
   ·rw [hp.old o (.inl om)];exact World.cell?_of_block (hb.block g h2)
   ·rw [hp.other x om];exact hb.block x om
  ·refine ZbJ.of_vals r _ us _ ?_ (fun j u hu=>?_)
   ·exact Zal.keep (w:=w2) (by have:=hp.size;omega) r _ _ us (fun b hb'=>hp.other b om) (fun _ h=>h) hown
   ·have:=hp.new j u hu;rw [<- this];congr 2;omega
  ·intro x hx;have:=hp.size;exact ⟨hx.1,om⟩
  ·intro x hx;have:=hp.size;exact ⟨om,om⟩
  ·intro x hx hy;omega
theorem Zea.done {w0 wr:World} {E:TypeId} {m sz:Nat} {rows:List (List C)} (h:Zea w0 w0.heap.size E m sz rows m wr) (hm:rows.length=m) (hmx:m<=maxLen) (hz:0 < sz) (hl:∀ r∈rows,r.length=sz) :
  Own wr (.sl rows) (fun x=>w0.heap.size<=x∧x < wr.heap.size) (.slice (some ⟨w0.heap.size,0,none⟩) m m)∧Below w0.heap.size w0 wr:=by
 obtain ⟨h1,h2,⟨cur,h3,h4⟩,h5⟩:=h;rw [List.take_of_length_le om] at h5;refine ⟨?_,h1⟩;simp only [Own];exact ⟨_,m,m,rfl,hm,Tai _,hmx,fun _=>⟨w0.heap.size,0,_,rfl,⟨Tai _,h2⟩,h2,⟨fun o=>frozen_of_row wr _ o cur E h3,rfl,cur,E,sz,h3,h4,hz,hl⟩,fun x hx=>⟨⟨om,hx.2⟩,om⟩,h5⟩⟩
theorem len1 {α:Type} {l:List α} (h:l.length=1):∃ a0,l=[a0]:=by
 match l,h with
 | [a0],_=>exact ⟨a0,rfl⟩
theorem len2 {α:Type} {l:List α} (h:l.length=2):∃ a0 a1,l=[a0,a1]:=by
 match l,h with
 | [a0,a1],_=>exact ⟨a0,a1,rfl⟩
theorem len4 {α:Type} {l:List α} (h:l.length=4):∃ a0 a1 a2 a3,l=[a0,a1,a2,a3]:=by
 match l,h with
 | [a0,a1,a2,a3],_=>exact ⟨a0,a1,a2,a3,rfl⟩
theorem ZjO {B:Nat} {a w:World} (h:Below B a w) (n:Nat):Below B a (w.drewN n):=⟨h.os,h.tape,h.output,h.size,h.block⟩
end Go.Proofs.YtmdkimnlbaahbaaGreatDoor
namespace Go.Proofs.YtmdkimnlbaahbaaGreatDoor
open Go.ChangeShapes Go.WideShapes Go.ChangeAt Go.RowKit Go.Deep
inductive TyOk (P:Program) (T:TN->TypeId) (R:TN->Prop):TypeId->List F->Prop where
 | int {t:TypeId}:P.underlying t=some (.int .i64)->TyOk P T R t [.int]
 | str {t:TypeId}:P.underlying t=some .string->TyOk P T R t [.str]
 | bool {t:TypeId}:P.underlying t=some .bool->TyOk P T R t [.bool]
 | sl {t:TypeId} {tn:TN}:P.underlying t=some (.slice (T tn))->P.cellsOf (T tn)=(Zgk tn).length->R tn->TyOk P T R t [.sl tn]
 | st {t:TypeId} {flds:Array Field} {fss:List (List F)}:P.underlying t=some (.struct flds)->flds.size=fss.length->P.cellsOf t=fss.flatten.length ->
   (∀ (j:Nat) (f:Field) (fs:List F),flds[j]?=some f->fss[j]?=some fs->f.offset=(fss.take j).flatten.length∧P.cellsOf f.type=fs.length) ->
   (∀ (j:Nat) (f:Field) (fs:List F),flds[j]?=some f->fss[j]?=some fs->TyOk P T R f.type fs)->TyOk P T R t fss.flatten
section
variable {H:Type} {enc:TypeId × Value->H} {P:Program} {w:World} {base:Nat} {spare:Nat->Bool} {held:Bool}
theorem Zxz (a:Addr) (n:Nat) (h:∃ v,w.cell? (a.add n)=some v) (h0:∃ v,w.cell? (a.add 0)=some v):a=⟨a.block,a.off,none⟩:=by
 obtain ⟨v,hv⟩:=h0;obtain ⟨b,o,s⟩:=a;simp only [Addr.add,if_true] at hv
 cases s with
 | none=>rfl
 | some s =>
  simp only [World.cell?] at hv;split at hv <;> simp at hv
theorem ZtP {a:Addr} (h:a=⟨a.block,a.off,none⟩) (n:Nat):a.add n=⟨a.block,a.off+n,none⟩:=by
 obtain ⟨b,o,s⟩:=a;simp only [Addr.mk.injEq,true_and] at h;subst h;unfold Addr.add;split
 ·rename_i h0;subst h0;rfl
 ·rfl
theorem Zio (hl:laidOutB P=true) {W W':World} {sp:Nat->Bool}:∀ {ts:List TypeId} {vs:List Value} {ds:List (DataW H)} {ps:List MemPlace},(∀ t∈ts,P.readableRec t=true∧t < P.types.size) ->
  DataW.TrodAll enc P W 0 (fun _=>true) true ts vs ds ps->(∀ p∈ps,W.sameAt W' p)->(∀ p∈ps,sp p.block=true)->DataW.TrodAll enc P W' 0 sp true ts vs ds ps
 | [],[],[],ps,_,h,_,_=>h
 | t::ts,v::vs,d::ds,ps,ht,h,hs,hp=>by
  simp only [DataW.TrodAll] at h ⊢;obtain ⟨p,q,h1,h2,rfl⟩:=h
  exact ⟨p,q,WideElems.Trod_stays hl (ht t (by simp)).1 (ht t (by simp)).2 h1 (fun x hx=>hs x (by simp [hx])) (fun x hx=>hp x (by simp [hx])),
   Zio hl (fun t' ht'=>ht t' (by simp [ht'])) h2 (fun x hx=>hs x (by simp [hx])) (fun x hx=>hp x (by simp [hx])),rfl⟩
 | [],_::_,_,_,_,h,_,_=>by simp [DataW.TrodAll] at h
 | [],[],_::_,_,_,h,_,_=>by simp [DataW.TrodAll] at h
 | _::_,[],_,_,_,h,_,_=>by simp [DataW.TrodAll] at h
 | _::_,_::_,[],_,_,h,_,_=>by simp [DataW.TrodAll] at h
theorem ZxA {f:Func} {s:ChangeSpec} {W W':World} {args:Array Value} {ds:List (DataW H)} {before:List MemPlace} {tb:TypeId} (hl:laidOutB P=true) (hvars:s.vars=[])
  (hres:f.resultTypes=#[tb]) (hb:P.underlying tb=some .bool) (hps:∀ t∈f.params.toList,P.readableRec t=true∧t < P.types.size)
  (hW:DataW.Whole enc P f.params.toList s.vars false W args.toList ds [] before) (hfn:s.fn H (ds++[])={ results:=[.lit (.bool true)],args:=ds }) (hbel:Below W.heap.size W W') :
  s.post enc P f false true false false W args (.bool true) W':=by
 have hlt:∀ p∈before,p.block < W.heap.size:=fun p hp=>hW.lt p hp;obtain ⟨p,q,hA,hV,rfl,hfz,hnd⟩:=id hW;rw [hvars] at hV;obtain ⟨_,rfl⟩:=trodVars_none hV;simp only [List.append_nil] at hlt;refine ⟨ds,[],p++[],[],p,[],hW,?_,?_,?_,World.keptBut_mono (fun x hx=>⟨hx,.inr (.inl (by simpa using hx))⟩) (hbel.frame (·∈p++[])),fun h=>by cases h⟩
 ·rw [hfn,hres];exact trodAll_cons_mk (shut_bool hb _) trodAll_mk0
 ·rw [hfn];exact Zio hl hps hA (fun x hx=>hbel.same (hlt x hx)) (fun x hx=>by simpa using hlt x hx)
 ·rw [hfn,hvars];rfl
end
def Zfp (P:Program) (T:TN->TypeId) (R:TN->Prop):List Field->List (List F)->Prop
 | [],[]=>True
 | f::fl,fs::fss=>TyOk P T R f.type fs∧Zfp P T R fl fss
 | _,_=>False
def Zhu (P:Program):List Field->List (List F)->Nat->Bool
 | [],[],_=>true
 | f::fl,fs::fss,o=>f.offset==o && P.cellsOf f.type==fs.length && Zhu P fl fss (o+fs.length)
 | _,_,_=>false
theorem Zfp.len {P:Program} {T:TN->TypeId} {R:TN->Prop}:∀ {fl:List Field} {fss:List (List F)},Zfp P T R fl fss->fl.length=fss.length
 | [],[],_=>rfl
 | f::fl,fs::fss,h=>by simp only [Zfp] at h;simp [Zfp.len h.2]
 | [],_::_,h=>by simp [Zfp] at h
 | _::_,[],h=>by simp [Zfp] at h
theorem Zfp.get {P:Program} {T:TN->TypeId} {R:TN->Prop}:∀ {fl:List Field} {fss:List (List F)} {j:Nat} {f:Field} {fs:List F},Zfp P T R fl fss->fl[j]?=some f->fss[j]?=some fs->TyOk P T R f.type fs
 | [],_,_,_,_,_,h,_=>by simp at h
 | f::fl,fs::fss,0,g,gs,h,h1,h2=>by
  simp at h1 h2;subst h1 h2;exact h.1
 | f::fl,fs::fss,j+1,g,gs,h,h1,h2=>Zfp.get (fl:=fl) (fss:=fss) (j:=j) h.2 (by simpa using h1) (by simpa using h2)
 | _::_,[],_,_,_,_,_,h=>by simp at h
theorem Zhu.get {P:Program}:∀ {fl:List Field} {fss:List (List F)} {o j:Nat} {f:Field} {fs:List F},Zhu P fl fss o=true->fl[j]?=some f->fss[j]?=some fs->f.offset=o+(fss.take j).flatten.length∧P.cellsOf f.type=fs.length
 | [],_,_,_,_,_,_,h,_=>by simp at h
 | f::fl,fs::fss,o,0,g,gs,h,h1,h2=>by
  simp at h1 h2;subst h1 h2;simp only [Zhu,Tar,beq_iff_eq] at h;simpa using h.1
 | f::fl,fs::fss,o,j+1,g,gs,h,h1,h2=>by
  simp only [Zhu,Tar,beq_iff_eq] at h;have:=Zhu.get (fl:=fl) (fss:=fss) (o:=o+fs.length) (j:=j) h.2 (by simpa using h1) (by simpa using h2);simp only [Tbc,List.flatten_cons,Tae];exact ⟨om,this.2⟩
 | _::_,[],_,_,_,_,_,_,h=>by simp at h
theorem own:ownKnob Tryz.prog.godebug=none:=by kernel_rfl
theorem ZAq:laidOutB Tryz.prog=true:=by kernel_rfl
end Go.Proofs.YtmdkimnlbaahbaaGreatDoor
namespace Go.Proofs.YtmdkimnlbaahbaaGreatDoor
open Go.RowKit
section
variable {w w':World} {S:Nat->Prop}
theorem Zl6 {c:Array Value} {t:TypeId} {g i:Nat} {v:Value} (hg:g=w.heap.size) (h:c[i]?=some v):(w.alloc (.cells c t)).cell? ⟨g,i,none⟩=some v:=by
 subst hg;simp [h]
theorem ZdW (w:World) (o:Obj):Below w.heap.size w (w.alloc o):=(Below.refl _ _).alloc (Tai _) _
theorem ZtQ (w:World):Below w.heap.size w w.drew:=ZjO (Below.refl _ _) 1
theorem ZtR (w:World) (n:Nat):Below w.heap.size w (w.drewN n):=ZjO (Below.refl _ _) n
theorem Zad.alloc {cs:List C} {us:List Value} (o:Obj) (h:Zad w S cs us):Zad (w.alloc o) S cs us:=h.below (ZdW w o)
theorem Zad.drew {cs:List C} {us:List Value} (h:Zad w S cs us):Zad w.drew S cs us:=h.below (ZtQ w)
theorem Zad.drewN {cs:List C} {us:List Value} {n:Nat} (h:Zad w S cs us):Zad (w.drewN n) S cs us:=h.below (ZtR w n)
theorem Zad.later {cs:List C} {us:List Value} (hb:Below w.heap.size w w') (h:Zad w S cs us):Zad w' S cs us:=h.below hb
theorem Rep.alloc {c:C} {v:Value} (o:Obj) (h:Rep w S c v):Rep (w.alloc o) S c v:=h.below (ZdW w o)
theorem Rep.drew {c:C} {v:Value} (h:Rep w S c v):Rep w.drew S c v:=h.below (ZtQ w)
theorem Rep.drewN {c:C} {v:Value} {n:Nat} (h:Rep w S c v):Rep (w.drewN n) S c v:=h.below (ZtR w n)
theorem Rep.later {c:C} {v:Value} (hb:Below w.heap.size w w') (h:Rep w S c v):Rep w' S c v:=h.below hb
theorem Below.later {B:Nat} {a:World} (hb:Below w.heap.size w w') (h:Below B a w) (hB:B<=a.heap.size):Below B a w':=h.trans (hb.mono (Tbe hB h.size))
end
theorem Put.below {w w':World} {g off B:Nat} {us:List Value} (h:Put w w' g off us) (hB:B<=g):Below B w w':=⟨h.os,h.tape,h.output,by have:=h.size;omega,fun x hx=>h.other x om⟩
def gives (P:Program) (o:Oper) (ρ:Operand->Value) (w:World) (R:Value->World->Prop):Prop :=
 match (execOp ρ o).run P w with
 | .ok (.value v) w'=>R v w'
 | .ok .skip w'=>R undef w'
 | .ok (.enter f args) w'=>Calls P f args w' (fun e w''=>∃ v,e=.returned v∧R v w'')
 | _=>False
theorem Zc0 {P:Program} {o:Oper} {a:Act} {w:World} {R:Value->World->Prop} {K:Act->World->Prop} {Q:Exit->Act->World->Prop} (h:gives P o a.eval w R) (hK:∀ v w',R v w'->K (a.put o.dst v) w'):o.wp P a w K Q:=by
 unfold gives at h;unfold Oper.wp;generalize (execOp a.eval o).run P w=r at *
 cases r with
 | ok n w' =>
  cases n <;> simp only at h <;> simp only [Oper.upon]
  case value u=>exact hK _ _ h
  case skip=>exact hK _ _ h
  case enter f args=>exact h.mono fun e w'' ⟨v,he,hr⟩=>by subst he;exact hK _ _ hr
 | halt x w'=>simp only at h
def Zce (o:Oper):List Nat:=o.op.operands.toList.filterMap fun | .tmp t=>some t | _=>none
abbrev Says:=Value->List Value->Nat->Nat->World->Prop
def depB (ops:Array Oper) (n:Nat):Bool :=
 (List.range n).all fun i=>match ops[i]? with
  | none=>false
  | some o=>o.guard.isNone && o.dst.isSome && o.after.all (fun e=>!Region.binds .any e || decide (e.on < i)) &&
   (List.range n).all fun j=>match ops[j]? with
    | none=>false
    | some p=>(j==i || p.dst != o.dst) && (!(Zce o).any (fun t=>p.dst==some t) || Region.waitsFor .any ops i j)
structure Inv (P:Program) (ops:Array Oper) (n:Nat) (Gs:List Says) (C:World->Prop) (a0:Act) (w0:World) (listed:Array Bool) (a:Act) (w:World) (lo hi:Nat->Nat):Prop where
 head:HeadInv .any ops n listed
 size:a.tmps.size=a0.tmps.size
 defers:a.defers=a0.defers
 out:∀ t,(∀ (i:Nat) (o:Oper),i < n->ops[i]?=some o->o.dst≠some t)->a.tmps.getD t undef=a0.tmps.getD t undef
 cls:C w
 below:Below w0.heap.size w0 w
 done:∀ (i:Nat) (o:Oper) (d:Nat) (g:Says),i < n->listed.getD i false=true->ops[i]?=some o->o.dst=some d->Gs[i]?=some g ->
  g (a.tmps.getD d undef) ((Zce o).map (fun t=>a.tmps.getD t undef)) (lo i) (hi i) w∧w0.heap.size<=lo i∧lo i<=hi i∧hi i<=w.heap.size
 apart:∀ i j,i < n->j < n->i≠j->listed.getD i false=true->listed.getD j false=true->hi i<=lo j∨hi j<=lo i
def ZyV (P:Program) (ops:Array Oper) (n:Nat) (Gs:List Says) (C:World->Prop) (a0:Act) (o:Oper) (g:Says):Prop :=
 ∀ (a:Act) (w:World),C w ->
  (∀ t,(∀ (i:Nat) (o':Oper),i < n->ops[i]?=some o'->o'.dst≠some t)->a.tmps.getD t undef=a0.tmps.getD t undef) ->
  (∀ (i:Nat) (o':Oper) (d:Nat) (g':Says),i < n->ops[i]?=some o'->o'.dst=some d->d∈Zce o->Gs[i]?=some g'->∃ lo hi,g' (a.tmps.getD d undef) ((Zce o').map (fun t=>a.tmps.getD t undef)) lo hi w) ->
  gives P o a.eval w (fun v w'=>C w'∧Below w.heap.size w w'∧g v ((Zce o).map (fun t=>a.tmps.getD t undef)) w.heap.size w'.heap.size w')
theorem Zip {a:Act} {d:Nat} {v:Value} (h:d < a.tmps.size):(a.put (some d) v).tmps.getD d undef=v:=by simp [Act.put,h]
theorem Zfq {a:Act} {d t:Nat} {v:Value} (h:d≠t):(a.put (some d) v).tmps.getD t undef=a.tmps.getD t undef:=by simp [Act.put,Array.getElem?_setIfInBounds_ne h]
theorem Zbf {listed:Array Bool} {i:Nat} (h:i < listed.size):listed.getD i true=listed.getD i false:=by simp [h]
section
variable {P:Program} {ops:Array Oper} {n:Nat} {Gs:List Says} {C:World->Prop} {a0:Act} {w0:World}
theorem depB.get (h:depB ops n=true) {i:Nat} (hi:i < n):∃ o d,ops[i]?=some o∧o.guard=none∧o.dst=some d∧(∀ e∈o.after,Region.binds .any e=true->e.on < i) ∧
  ∀ (j:Nat) (p:Oper),j < n->ops[j]?=some p->(j≠i->p.dst≠some d)∧(∀ t∈Zce o,p.dst=some t->Region.waitsFor .any ops i j=true):=by
 have h1:=List.all_eq_true.1 h i (List.mem_range.2 hi)
 cases ho:ops[i]? with
 | none=>rw [ho] at h1;simp at h1
 | some o =>
  rw [ho] at h1;simp only [Tar] at h1;obtain ⟨⟨⟨h1,h2⟩,h3⟩,h4⟩:=h1;obtain ⟨d,hd⟩:=Option.isSome_iff_exists.1 h2;refine ⟨o,d,rfl,by simpa using h1,hd,fun e he hb=>?_,fun j p hj hp=>?_⟩
  ·have:=Array.all_eq_true'.1 h3 e he;simpa [hb] using this
  ·have h5:=List.all_eq_true.1 h4 j (List.mem_range.2 hj);rw [hp] at h5;simp only [Tar,Bool.or_eq_true,beq_iff_eq,bne_iff_ne,ne_eq,Bool.not_eq_true'] at h5;refine ⟨fun hne hpd=>?_,fun t ht hpt=>?_⟩
   ·rcases h5.1 with h | h
    ·exact hne h
    ·exact h (hpd.trans hd.symm)
   ·rcases h5.2 with h | h
    ·have:=List.any_eq_false.1 h t ht;simp [hpt] at this
    ·exact h
theorem Inv.step (hD:depB ops n=true) (hlen:Gs.length=n) (hsz:∀ (i:Nat) (o:Oper) (d:Nat),i < n->ops[i]?=some o->o.dst=some d->d < a0.tmps.size)
  (hG:∀ (i:Nat) (g:Says),Gs[i]?=some g->∀ v ds lo hi w w',Below w.heap.size w w'->g v ds lo hi w->g v ds lo hi w')
  {listed:Array Bool} {a:Act} {w w':World} {lo hi:Nat->Nat} {i:Nat} {o:Oper} {d:Nat} {g:Says} {v:Value} (hI:Inv P ops n Gs C a0 w0 listed a w lo hi) (hi':i < n) (ho:ops[i]?=some o) (hd:o.dst=some d) (hg:Gs[i]?=some g)
  (hr:i∈Region.ready .any ops listed) (hC:C w') (hb:Below w.heap.size w w') (hv:g v ((Zce o).map (fun t=>a.tmps.getD t undef)) w.heap.size w'.heap.size w') :
  Inv P ops n Gs C a0 w0 (listed.setIfInBounds i true) (a.put o.dst v) w' (fun j=>if j=i then w.heap.size else lo j) (fun j=>if j=i then w'.heap.size else hi j):=by
 obtain ⟨hun,_,_,hall⟩:=mem_ready.1 hr;obtain ⟨o2,d2,ho2,_,hd2,_,hdep⟩:=depB.get hD hi';rw [ho] at ho2;injection ho2 with ho2
 subst ho2;rw [hd] at hd2;injection hd2 with hd2
 subst hd2;have hdl:d < a.tmps.size:=by rw [hI.size];exact hsz i o d hi' ho hd
 have hls:i < listed.size:=by
  rw [hI.head.size];exact (Tbl.1 ho).1
 rw [hd];have old:∀ j,j≠i->(listed.setIfInBounds i true).getD j false=listed.getD j false:=fun j hj=>getD_set_ne false (Ne.symm hj)
 -- the operands of what is listed do not lie in the new place
 have safe:∀ (j:Nat) (p:Oper),j < n->ops[j]?=some p->(listed.getD j false=true∨j=i)->∀ t∈Zce p,d≠t:=by
  intro j p hj hp hl t ht e;subst e;obtain ⟨p2,_,hp2,_,_,hback,hdep2⟩:=depB.get hD hj;rw [hp] at hp2;injection hp2 with hp2
  subst hp2;have hw:=(hdep2 i o hi' ho).2 d ht hd;obtain ⟨p3,hp3,e,he,hbe,hon⟩:=Region.waitsFor_spec hw;rw [hp] at hp3;injection hp3 with hp3
  subst hp3;rcases hl with hl | rfl
  ·have:=hI.head.closed j p hp hl e he hbe;rw [hon,<- Zbf hls,hun] at this
   cases this
  ·have:=hback e he hbe;omega
 have same:∀ (j:Nat) (p:Oper),j < n->ops[j]?=some p->(listed.getD j false=true∨j=i)->(Zce p).map (fun t=>(a.put (some d) v).tmps.getD t undef)=(Zce p).map (fun t=>a.tmps.getD t undef):=fun j p hj hp hl =>
  List.map_congr_left fun t ht=>Zfq (safe j p hj hp hl t ht)
 have hwz:=hb.size;refine ⟨hI.head.set hr hi',by simp [Act.put,hI.size],by simp [Act.put,hI.defers],fun t ht=>?_,hC,hI.below.trans (hb.mono hI.below.size),fun j p dj gj hj hl hp hdj hgj=>?_,fun j k hj hk hne hlj hlk=>?_⟩
 ·rw [Zfq (fun e=>ht i o hi' ho (by rw [hd,e]))];exact hI.out t ht
 ·by_cases hji:j=i
  ·subst hji;rw [ho] at hp;injection hp with hp
   subst hp;rw [hd] at hdj;injection hdj with hdj
   subst hdj;rw [hg] at hgj;injection hgj with hgj
   subst hgj;rw [same j o hj ho (.inr rfl),Zip hdl];simp only [if_true];exact ⟨hv,hI.below.size,hwz,Tai _⟩
  ·rw [old j hji] at hl;simp only [hji,if_false];obtain ⟨h1,h2,h3,h4⟩:=hI.done j p dj gj hj hl hp hdj hgj;have hne:d≠dj:=fun e=>(hdep j p hj hp).1 hji (by rw [hdj,e]);rw [same j p hj hp (.inl hl),Zfq hne];exact ⟨hG j gj hgj _ _ _ _ w w' hb h1,h2,h3,om⟩
 ·by_cases hji:j=i
  ·by_cases hki:k=i
   ·omega
   ·rw [old k hki] at hlk;simp only [hji,hki,if_true,if_false];obtain ⟨p,dk,hp,_,hdk,_,_⟩:=depB.get hD hk;have hgk:Gs[k]?=some Gs[k]:=Taa om;have:=hI.done k p dk _ hk hlk hp hdk hgk;omega
  ·rw [old j hji] at hlj;by_cases hki:k=i
   ·simp only [hji,hki,if_true,if_false];obtain ⟨p,dk,hp,_,hdk,_,_⟩:=depB.get hD hj;have hgk:Gs[j]?=some Gs[j]:=Taa om;have:=hI.done j p dk _ hj hlj hp hdk hgk;omega
   ·rw [old k hki] at hlk;simp only [hji,hki,if_false];exact hI.apart j k hj hk hne hlj hlk
def Zbp (m n:Nat):Array Bool:=(Array.range m).map fun i=>decide (i < n)
theorem Ziw {listed:Array Bool} (hh:HeadInv .any ops n listed) (hn:n<=ops.size) (h:∀ i,i < n->listed.getD i true=true):listed=Zbp ops.size n:=by
 apply Array.ext
 ·simp [Zbp,hh.size]
 ·intro i h1 h2;have e:listed[i]=listed.getD i true:=by simp [h1]
  rw [e];by_cases hi:i < n
  ·rw [h i hi];simp [Zbp,hi]
  ·rw [hh.tail i om (by rw [<- hh.size];exact h1)];simp [Zbp,hi]
structure DoneD (ops:Array Oper) (n:Nat) (Gs:List Says) (w0:World) (f:Nat->Value) (w:World) (lo hi:Nat->Nat):Prop where
 done:∀ (i:Nat) (o:Oper) (d:Nat) (g:Says),i < n->ops[i]?=some o->o.dst=some d->Gs[i]?=some g ->
  g (f d) ((Zce o).map f) (lo i) (hi i) w∧w0.heap.size<=lo i∧lo i<=hi i∧hi i<=w.heap.size
 apart:∀ i j,i < n->j < n->i≠j->hi i<=lo j∨hi j<=lo i
def ZkJ (P:Program) (ops:Array Oper) (n:Nat) (Gs:List Says) (C:World->Prop) (a0:Act):List Oper->List Says->Prop
 | o::os,g::gs=>ZyV P ops n Gs C a0 o g∧ZkJ P ops n Gs C a0 os gs
 | _,_=>True
theorem ZkJ.get:∀ {os:List Oper} {gs:List Says},ZkJ P ops n Gs C a0 os gs->∀ (i:Nat) (o:Oper) (g:Says),os[i]?=some o->gs[i]?=some g->ZyV P ops n Gs C a0 o g
 | [],_,_,_,_,_,h,_=>by simp at h
 | _::_,[],_,_,_,_,_,h=>by simp at h
 | o::os,g::gs,h,0,o',g',h1,h2=>by
  simp at h1 h2;subst h1 h2;exact h.1
 | o::os,g::gs,h,i+1,o',g',h1,h2=>ZkJ.get h.2 i o' g' (by simpa using h1) (by simpa using h2)
def Zgd (n:Nat) (w0:World) (f:Nat->Value) (w:World) (lo hi:Nat->Nat):Nat->List Oper->List Says->Prop
 | i,o::os,g::gs=>(g (f (o.dst.getD 0)) ((Zce o).map f) (lo i) (hi i) w∧w0.heap.size<=lo i∧lo i<=hi i∧hi i<=w.heap.size)∧Zgd n w0 f w lo hi (i+1) os gs
 | _,_,_=>True
theorem Zgd.of {f:Nat->Value} {w:World} {lo hi:Nat->Nat} {l:List Oper} (h:DoneD l.toArray n Gs w0 f w lo hi) (hds:(l.take n).all (fun o=>o.dst.isSome)=true):∀ (os:List Oper) (gs:List Says) (i:Nat),i+os.length<=n->(∀ j,j < os.length->os[j]?=l[i+j]?)->(∀ j,gs[j]?=Gs[i+j]?)->Zgd n w0 f w lo hi i os gs
 | [],_,_,_,_,_=>by simp [Zgd]
 | _::_,[],_,_,_,_=>by simp [Zgd]
 | o::os,g::gs,i,hi,ho,hg=>by
  simp only [Tag] at hi;have h0:l[i]?=some o:=by simpa using (ho 0 (by simp)).symm
  have hd:o.dst.isSome=true:=List.all_eq_true.1 hds o (Tac (i:=i) (by rw [List.getElem?_take];simp [h0];omega));obtain ⟨d,hd⟩:=Option.isSome_iff_exists.1 hd;refine ⟨?_,Zgd.of h hds os gs (i+1) om (fun j hj=>by have:=ho (j+1) (by simp;omega);simpa [Nat.add_assoc,Nat.add_comm 1 j] using this) (fun j=>by have:=hg (j+1);simpa [Nat.add_assoc,Nat.add_comm 1 j] using this)⟩;have:=h.done i o d g om (by simpa using h0) hd (by simpa using (hg 0).symm)
  rw [hd];exact this
end
structure Kept (D:Prop) (E:Nat->Prop) (B:Nat) (w w':World):Prop where
 os:w'.os=w.os
 tape:w'.tape=w.tape
 output:w'.output=w.output
 drawn:D->w.drawn<=w'.drawn
 size:w.heap.size<=w'.heap.size
 block:∀ k,k < B->¬ E k->w'.heap[k]?=w.heap[k]?
theorem Kept.refl (D:Prop) (E:Nat->Prop) (B:Nat) (w:World):Kept D E B w w:=⟨rfl,rfl,rfl,fun _=>Tai _,Tai _,fun _ _ _=>rfl⟩
theorem Kept.trans {D:Prop} {E:Nat->Prop} {B:Nat} {a b c:World} (h:Kept D E B a b) (k:Kept D E B b c):Kept D E B a c :=
 ⟨k.os.trans h.os,k.tape.trans h.tape,k.output.trans h.output,fun d=>Tbe (h.drawn d) (k.drawn d),Tbe h.size k.size,fun i hi hE=>(k.block i hi hE).trans (h.block i hi hE)⟩
theorem Kept.mono {D:Prop} {E:Nat->Prop} {B B':Nat} {w w':World} (h:Kept D E B w w') (hB:B'<=B):Kept D E B' w w' :=
 ⟨h.os,h.tape,h.output,h.drawn,h.size,fun k hk hE=>h.block k (Tbd hk hB) hE⟩
theorem Kept.of_below {D:Prop} {E:Nat->Prop} {B:Nat} {w w':World} (h:Below B w w') (hd:D->w.drawn<=w'.drawn):Kept D E B w w':=⟨h.os,h.tape,h.output,hd,h.size,fun k hk _=>h.block k hk⟩
theorem Kept.below {D:Prop} {B:Nat} {w w':World} (h:Kept D (fun _=>False) B w w'):Below B w w':=⟨h.os,h.tape,h.output,h.size,fun k hk=>h.block k hk id⟩
structure Env where
 P:Program
 E:Nat->Prop
 G:World->Prop
 D:Prop
structure Env.Ok (e:Env):Prop where
 keep:∀ w w':World,w.heap.size<=w'.heap.size->(∀ b,e.E b->w'.heap[b]?=w.heap[b]?)->e.G w->e.G w'
 mixed:e.P.follows .mixedOrders=true
inductive D where
 | one (c:C)
 | agg (cs:List C)
 | clip (rows:List (List C))
inductive Bk where
 | var (o:Option Nat) (cs:List C)
 | buf (o:Option (Option Addr × Nat)) (e sz:Nat) (rows:List (List C))
 | set (E:Nat->Prop) (G:World->Prop)
def Zc1 (E:Nat->Prop) (G:World->Prop):Prop:=∀ w w':World,w.heap.size<=w'.heap.size->(∀ b,E b->w'.heap[b]?=w.heap[b]?)->G w->G w'
inductive A where
 | undef
 | no
 | d (x:D)
 | tup (xs:List D)
 | ref (k off:Nat)
 | buf (k:Nat)
 | row (k j sz off:Nat)
structure Lay where
 b:Nat->Nat
 v:Nat->Value
def DRel (w:World) (S:Nat->Prop):D->Value->Prop
 | .one c,v=>Rep w S c v
 | .agg cs,v=>∃ vs:List Value,v=.agg vs.toArray∧Zad w S cs vs
 | .clip rows,v=>Rep w S (.sl rows) v∧∃ a n,v=.slice a n n
def Zav (w:World) (S:Nat->Prop):List D->List Value->Prop
 | [],[]=>True
 | x::xs,v::vs=>DRel w S x v∧Zav w S xs vs
 | _,_=>False
def vblk:Value->Option Nat
 | .slice (some a) _ cap=>if cap=0 then none else some a.block
 | _=>none
def ARel (w:World) (S:Nat->Prop) (L:Lay):A->Value->Prop
 | .undef,_=>True
 | .no,v=>v=Go.undef
 | .d x,v=>DRel w S x v
 | .tup xs,v=>∃ vs:List Value,v=.tuple vs.toArray∧Zav w S xs vs
 | .ref k off,v=>v=.pointer (some ⟨L.b k,off,none⟩)
 | .buf k,v=>v=L.v k
 | .row k j sz off,v=>∃ g,vblk (L.v k)=some g∧v=.pointer (some ⟨g,j * sz+off,none⟩)
def retA:List D->A
 | [x]=>.d x
 | xs=>.tup xs
def Zau:C->Bool
 | .lit v=>v.oneCell'
 | .sl _=>true
 | .ptr _=>true
 | .fn _ _=>true
def rowsLen (n:Nat) (rows:List (List C)):Prop:=∀ r∈rows,r.length=n∧r.all Zau=true
def ZaE (w:World) (S:Nat->Prop) (e sz:Nat) (rows:List (List C)) (v:Value):Prop :=
 0 < sz∧rowsLen sz rows∧((rows=[]∧∃ a,v=.slice a 0 0) ∨
  ∃ g cap cur,v=.slice (some ⟨g,0,none⟩) rows.length cap∧0 < cap∧g < w.heap.size∧¬ S g∧w.heap[g]?=some (.cells cur e (0,0))∧rows.length<=cap∧cap<=maxLen∧cur.size=cap * sz∧Zap w S g 0 rows)
def Zco (P:Program) (f:FuncId):Bool :=
 match P.funcs[f]? with
 | some fn=>!(fn.name == "runtime.NumGoroutine") && fn.body.isSome
 | none=>false
def Con (e:Env) (f:FuncId) (args r:List D):Prop:=Zco e.P f=true ∧
 ∀ (w:World) (S:Nat->Prop) (vs:List Value),(∀ b,S b->b < w.heap.size∧¬ e.E b)->(∀ b,e.E b->b < w.heap.size)->e.G w->Zav w S args vs ->
  Calls e.P f vs.toArray w fun en w'=>∃ v,en=.returned v∧Kept e.D e.E w.heap.size w w'∧e.G w'∧ARel w' (fun b=>S b∨(w.heap.size<=b∧b < w'.heap.size)) ⟨fun _=>0,fun _=>Go.undef⟩ (retA r) v
def ConE (e:Env) (f:FuncId) (args:List D) (R:List D->Prop):Prop:=Zco e.P f=true ∧
 ∀ (w:World) (S:Nat->Prop) (vs:List Value),(∀ b,S b->b < w.heap.size∧¬ e.E b)->(∀ b,e.E b->b < w.heap.size)->e.G w->Zav w S args vs ->
  Calls e.P f vs.toArray w fun en w'=>∃ v r,en=.returned v∧R r∧Kept e.D e.E w.heap.size w w'∧e.G w'∧ARel w' (fun b=>S b∨(w.heap.size<=b∧b < w'.heap.size)) ⟨fun _=>0,fun _=>Go.undef⟩ (retA r) v
def pblk:Bk->Nat->Prop
 | .var (some b) _,g=>b=g
 | .buf (some (a,cap)) _ _ rows,g=>vblk (.slice a rows.length cap)=some g
 | .set E _,g=>E g
 | _,_=>False
def Zdq (w:World) (S:Nat->Prop):Bk->Prop
 | .var (some b) cs=>b < w.heap.size∧¬ S b∧(∃ arr ty,w.heap[b]?=some (.cells arr ty (0,0))∧arr.size=cs.length)∧Zaj w S b 0 cs
 | .buf (some (a,cap)) e sz rows=>ZaE w S e sz rows (.slice a rows.length cap)
 | .set E G=>(∀ b,E b->b < w.heap.size∧¬ S b)∧G w∧Zc1 E G
 | _=>False
def Zeu:List Bk->Prop
 | []=>True
 | x::r=>(∀ y∈r,∀ g,pblk x g->¬ pblk y g)∧Zeu r
def Za7 (pm:List Bk) (g:Nat):Prop:=∃ x∈pm,pblk x g
def ConP (e:Env) (f:FuncId) (args:List D) (pm:List Bk) (R:List D->List Bk->Prop):Prop:=Zco e.P f=true ∧
 ∀ (w:World) (S:Nat->Prop) (vs:List Value),(∀ b,S b->b < w.heap.size∧¬ e.E b)->(∀ b,e.E b->b < w.heap.size)->e.G w->(∀ x∈pm,Zdq w S x∧∀ g,pblk x g->¬ e.E g)->Zeu pm->Zav w S args vs ->
  Calls e.P f vs.toArray w fun en w'=>∃ v r pm',en=.returned v∧R r pm'∧Kept e.D (fun b=>e.E b∨Za7 pm b) w.heap.size w w'∧e.G w' ∧
   (∀ x∈pm',Zdq w' (fun b=>(S b∨Za7 pm b∨(w.heap.size<=b∧b < w'.heap.size))∧¬ Za7 pm' b) x∧∀ g,pblk x g->Za7 pm g∨w.heap.size<=g)∧Zeu pm' ∧
   ARel w' (fun b=>(S b∨Za7 pm b∨(w.heap.size<=b∧b < w'.heap.size))∧¬ Za7 pm' b) ⟨fun _=>0,fun _=>Go.undef⟩ (retA r) v
def ConR (e:Env) (f:FuncId) (args:List D) (ty sz:Nat) (rows:List (List C)):Prop:=Zco e.P f=true ∧
 ∀ (w:World) (S:Nat->Prop) (vs:List Value),(∀ b,S b->b < w.heap.size∧¬ e.E b)->(∀ b,e.E b->b < w.heap.size)->e.G w->Zav w S args vs ->
  Calls e.P f vs.toArray w fun en w'=>∃ v,en=.returned v∧Kept e.D e.E w.heap.size w w'∧e.G w'∧(∀ g,vblk v=some g->w.heap.size<=g)∧ZaE w' (fun b=>(S b∨(w.heap.size<=b∧b < w'.heap.size))∧vblk v≠some b) ty sz rows v
def ConI (e:Env) (f:FuncId) (ty sz:Nat) (rows:List (List C)) (args:List D) (rows':List (List C)) (r:List D):Prop:=Zco e.P f=true ∧
 ∀ (w:World) (S:Nat->Prop) (v0:Value) (vs:List Value),(∀ b,S b->b < w.heap.size∧¬ e.E b)->(∀ b,e.E b->b < w.heap.size)->(∀ g,vblk v0=some g->¬ e.E g)->e.G w->ZaE w S ty sz rows v0->Zav w S args vs ->
  Calls e.P f (v0::vs).toArray w fun en w'=>∃ v,en=.returned v∧Kept e.D (fun b=>e.E b∨vblk v0=some b) w.heap.size w w'∧e.G w'∧ZaE w' (fun b=>S b∨(w.heap.size<=b∧b < w'.heap.size)) ty sz rows' v0∧ARel w' (fun b=>S b∨(w.heap.size<=b∧b < w'.heap.size)) ⟨fun _=>0,fun _=>Go.undef⟩ (retA r) v
def ConT (e:Env) (f:FuncId) (ty sz:Nat) (rows:List (List C)) (args:List D) (rows':List (List C)):Prop:=Zco e.P f=true ∧
 ∀ (w:World) (S:Nat->Prop) (v0:Value) (vs:List Value),(∀ b,S b->b < w.heap.size∧¬ e.E b)->(∀ b,e.E b->b < w.heap.size)->(∀ g,vblk v0=some g->¬ e.E g)->e.G w->ZaE w S ty sz rows v0->Zav w S args vs ->
  Calls e.P f (v0::vs).toArray w fun en w'=>∃ v,en=.returned v∧Kept e.D (fun b=>e.E b∨vblk v0=some b) w.heap.size w w'∧e.G w'∧(∀ g,vblk v=some g->vblk v0=some g∨w.heap.size<=g)∧ZaE w' (fun b=>(S b∨(w.heap.size<=b∧b < w'.heap.size))∧vblk v≠some b) ty sz rows' v
def toC:Value->C
 | .slice none 0 0=>.sl []
 | v=>.lit v
inductive TK where
 | one
 | agg (n:Nat)
def Zgm:TypeDesc->Bool
 | .struct _=>true
 | .array _ _=>true
 | _=>false
def Za8 (P:Program) (t:TypeId):Option TK :=
 match P.underlying t,P.info? t with
 | some d,some i=>if Zgm d then some (.agg i.size) else if i.size=1 then some .one else none
 | _,_=>none
def offT (P:Program) (t:TypeId) (f:Nat):Option (Nat × TypeId) :=
 match P.underlying t with
 | some (.struct fs)=>match fs[f]? with
  | some g=>match P.info? g.type with
   | some i=>if i.size=0 then none else some (g.offset,g.type)
   | none=>none
  | none=>none
 | _=>none
def ZbL (P:Program) (t:TypeId):Option Nat :=
 match P.underlying t with
 | some (.slice e)=>(P.info? e).map (·.size)
 | _=>none
def lenT (P:Program) (ts:Array TypeId):Option Bool :=
 match ts[0]? with
 | some t=>match P.underlying t with
  | some (.slice _)=>some true
  | some .string=>some false
  | _=>none
 | none=>none
def Zbj (P:Program) (t:TypeId):Option (TypeId × Nat × Nat) :=
 match P.underlying t with
 | some (.slice e)=>match P.info? e with
  | some i=>match i.zero with
   | some z=>if z.cells.size=i.size∧0 < i.size∧i.bytes<=4096 then some (e,i.size,i.bytes) else none
   | none=>none
  | none=>none
 | _=>none
def Zbi (P:Program) (t:TypeId):Option Nat:=(P.info? t).map (·.size)
def Za3 (P:Program) (t:TypeId):Option (List C):=((P.info? t).bind (·.zero)).map fun v=>v.cells.toList.map toC
def valT:TK->List C->Option A
 | .one,c::_=>some (.d (.one c))
 | .agg n,cs=>if n<=cs.length then some (.d (.agg (cs.take n))) else none
 | _,_=>none
def gs:List (Nat × A)->Nat->A
 | [],_=>.undef
 | (k,a)::r,t=>if t=k then a else gs r t
def gm:List (Nat × Bk)->Nat->Option Bk
 | [],_=>none
 | (k,a)::r,t=>if t=k then some a else gm r t
def remM (k:Nat):List (Nat × Bk)->List (Nat × Bk)
 | []=>[]
 | (t,a)::r=>if t=k then remM k r else (t,a)::remM k r
structure St where
 s:List (Nat × A)
 m:List (Nat × Bk)
def ZdL:Value->A
 | .slice none 0 0=>.d (.clip [])
 | .agg vs=>.d (.agg (vs.toList.map toC))
 | v=>.d (.one (.lit v))
def evA (s:List (Nat × A)):Operand->A
 | .tmp t=>gs s t
 | .const v=>ZdL v
 | .func f=>.d (.one (.fn f []))
 | .global _=>.undef
def varA:Option Bk->Option (List C)
 | some (.var _ cs)=>some cs
 | _=>none
def rowA (j sz:Nat):Option Bk->Option (List C)
 | some (.buf _ _ sz' rows)=>if sz'=sz then rows[j]? else none
 | _=>none
def ptrA (m:List (Nat × Bk)):A->Option (List C)
 | .d (.one (.ptr cs))=>some cs
 | .ref k off=>(varA (gm m k)).map (·.drop off)
 | .row k j sz off=>(rowA j sz (gm m k)).map (·.drop off)
 | _=>none
def bufA:Option Bk->Option (List (List C))
 | some (.buf _ _ _ rows)=>some rows
 | _=>none
def slA (m:List (Nat × Bk)):A->Option (List (List C))
 | .d (.one (.sl rows))=>some rows
 | .d (.clip rows)=>some rows
 | .buf k=>bufA (gm m k)
 | _=>none
def dsA:List A->Option (List D)
 | []=>some []
 | .d x::r=>(dsA r).map (x::·)
 | _::_=>none
def csA:List A->Option (List C)
 | []=>some []
 | .d (.one c)::r=>(csA r).map (c::·)
 | _::_=>none
def ZcD:A->Option (List C)
 | .d (.one c)=>if Zau c then some [c] else none
 | .d (.agg cs)=>if cs.all Zau then some cs else none
 | .d (.clip rows)=>some [.sl rows]
 | _=>none
def binV:BinOp->Value->Value->Option Value
 | .add,.int .i64 a,.int .i64 b=>some (.int .i64 (IntKind.i64.wrap (a+b)))
 | .sub,.int .i64 a,.int .i64 b=>some (.int .i64 (IntKind.i64.wrap (a - b)))
 | .mul,.int .i64 a,.int .i64 b=>some (.int .i64 (IntKind.i64.wrap (a * b)))
 | .lss,.int .i64 a,.int .i64 b=>some (.bool (decide (a < b)))
 | .leq,.int .i64 a,.int .i64 b=>some (.bool (decide (a<=b)))
 | .gtr,.int .i64 a,.int .i64 b=>some (.bool (decide (b < a)))
 | .geq,.int .i64 a,.int .i64 b=>some (.bool (decide (b<=a)))
 | .eql,.int .i64 a,.int .i64 b=>some (.bool (decide (a=b)))
 | .neq,.int .i64 a,.int .i64 b=>some (.bool (!decide (a=b)))
 | .lss,.int .u8 a,.int .u8 b=>some (.bool (decide (a < b)))
 | .leq,.int .u8 a,.int .u8 b=>some (.bool (decide (a<=b)))
 | .gtr,.int .u8 a,.int .u8 b=>some (.bool (decide (b < a)))
 | .geq,.int .u8 a,.int .u8 b=>some (.bool (decide (b<=a)))
 | .eql,.int .u8 a,.int .u8 b=>some (.bool (decide (a=b)))
 | .neq,.int .u8 a,.int .u8 b=>some (.bool (!decide (a=b)))
 | .and,.int .i64 a,.int .i64 b=>some (.int .i64 (bits .and .i64 a b))
 | .or,.int .i64 a,.int .i64 b=>some (.int .i64 (bits .or .i64 a b))
 | .xor,.int .i64 a,.int .i64 b=>some (.int .i64 (bits .xor .i64 a b))
 | .andNot,.int .i64 a,.int .i64 b=>some (.int .i64 (bits .andNot .i64 a b))
 | .shl,.int .i64 a,.int _ b=>if 0<=b then some (.int .i64 (IntKind.i64.wrap (a * 2 ^ (min b.toNat 64)))) else none
 | .shr,.int .i64 a,.int _ b=>if 0<=b then some (.int .i64 (a.fdiv (2 ^ (min b.toNat 64)))) else none
 | .shr,.int .u64 a,.int _ b=>if 0<=b then some (.int .u64 (a.fdiv (2 ^ (min b.toNat 64)))) else none
 | .mul,.int .u64 a,.int .u64 b=>some (.int .u64 (IntKind.u64.wrap (a * b)))
 | .and,.int .u64 a,.int .u64 b=>some (.int .u64 (bits .and .u64 a b))
 | .eql,.int .u64 a,.int .u64 b=>some (.bool (decide (a=b)))
 | .lss,.int .u64 a,.int .u64 b=>some (.bool (decide (a < b)))
 | .quo,.int .i64 a,.int .i64 b=>if b=0 then none else some (.int .i64 (IntKind.i64.wrap (a.tdiv b)))
 | .rem,.int .i64 a,.int .i64 b=>if b=0 then none else some (.int .i64 (a.tmod b))
 | .add,.string a,.string b=>if a.size+b.size<=9223372036854775807 then some (.string (a++b)) else none
 | .eql,.string a,.string b=>some (.bool (a.toList==b.toList))
 | .neq,.string a,.string b=>some (.bool (!(a.toList==b.toList)))
 | .lss,.string a,.string b=>some (.bool (Go.Op.bytesLess a.toList b.toList))
 | _,_,_=>none
def ZhR (t:Option TypeDesc) (v:Bool):Option Value :=
 match t with
 | some .bool=>some (.bool v)
 | _=>none
def binT (P:Program) (op:BinOp) (t:TypeId) (a b:Value):Option Value :=
 match op,a,b with
 | .eql,.bool a,.bool b=>ZhR (P.underlying t) (a==b)
 | .neq,.bool a,.bool b=>ZhR (P.underlying t) (!(a==b))
 | op,a,b=>binV op a b
def unV:UnOp->Value->Option Value
 | .not,.bool b=>some (.bool (!b))
 | .neg,.int .i64 a=>some (.int .i64 (IntKind.i64.wrap (0 - a)))
 | .neg,.int .u64 a=>some (.int .u64 (IntKind.u64.wrap (0 - a)))
 | _,_=>none
def ZdX (sz:Nat):Nat->List (Nat × A)->Option (List (List C))
 | _,[]=>some []
 | i,(j,x)::r=>if i=j then match ZcD x with
   | some cs=>if cs.length=sz then (ZdX sz (i+1) r).map (cs::·) else none
   | none=>none
  else none
def Zc4 (P:Program) (t:TypeId):List C->List (Nat × A)->Option (List C)
 | cs,[]=>some cs
 | cs,(f,x)::r=>match offT P t f,ZcD x with
  | some (off,ft),some us=>if Zbi P ft=some us.length∧off+us.length<=cs.length then Zc4 P t (cs.take off++us++cs.drop (off+us.length)) r else none
  | _,_=>none
def intA:A->Option Int
 | .d (.one (.lit (.int .i64 j)))=>some j
 | _=>none
def loA:Option A->Option Int
 | none=>some 0
 | some x=>intA x
def hiA (n:Nat):Option A->Option Int
 | none=>some n
 | some x=>intA x
def Zhv (rows:List (List C)) (lo hi:Option Int) (mx:Option (Option Int)):Option D :=
 match lo,hi,mx with
 | some l,some h,none=>if 0<=l∧l<=h∧h<=rows.length then some (.one (.sl ((rows.take h.toNat).drop l.toNat))) else none
 | some l,some h,some (some m)=>if 0<=l∧l<=h∧h<=rows.length∧m=h then some (.clip ((rows.take h.toNat).drop l.toNat)) else none
 | _,_,_=>none
def Zgn:A->Option (List (List C))
 | .d (.one (.sl rows))=>some rows
 | .d (.clip rows)=>some rows
 | _=>none
def Zoc:Option TypeDesc->Bool
 | some .string=>true
 | _=>false
def strA:A->Option ByteArray
 | .d (.one (.lit (.string s)))=>some s
 | _=>none
def Zl7 (s:ByteArray) (lo hi:Option Int):Option D :=
 match lo,hi with
 | some l,some h=>if 0<=l∧l<=h∧h<=s.size then some (.one (.lit (.string (s.extract l.toNat h.toNat)))) else none
 | _,_=>none
def Zcu:A->Option (FuncId × List C)
 | .d (.one (.fn f caps))=>some (f,caps)
 | _=>none
def ZdB (t:Option TypeDesc):Option IntKind :=
 match t with
 | some (.int k)=>some k
 | _=>none
def Zjk (P:Program) (src dst:TypeId):A->Option A
 | .d (.one (.lit (.int _ n)))=>match P.underlying src,ZdB (P.underlying dst) with
  | some _,some k=>some (.d (.one (.lit (.int k (k.wrap n)))))
  | _,_=>none
 | _=>none
def maxA:List A->Option A
 | [.d (.one (.lit (.int .i64 x))),.d (.one (.lit (.int .i64 y)))]=>some (.d (.one (.lit (.int .i64 (if y > x then y else x)))))
 | _=>none
def minA:List A->Option A
 | [.d (.one (.lit (.int .i64 x))),.d (.one (.lit (.int .i64 y)))]=>some (.d (.one (.lit (.int .i64 (if y < x then y else x)))))
 | _=>none
def Zaq (k:Nat):List (Nat × A)->List (Nat × A)
 | []=>[]
 | (t,.ref k' off)::r=>(t,if k'=k then .undef else .ref k' off)::Zaq k r
 | (t,.buf k')::r=>(t,if k'=k then .undef else .buf k')::Zaq k r
 | (t,.row k' j sz off)::r=>(t,if k'=k then .undef else .row k' j sz off)::Zaq k r
 | (t,a)::r=>(t,a)::Zaq k r
def setA (s:List (Nat × A)):Option Nat->A->List (Nat × A)
 | some d,a=>(d,a)::s
 | none,_=>s
def frzA (k:Nat) (bk:Bk):A->A
 | .ref k' off=>if k'=k then match bk with
   | .var _ cs=>.d (.one (.ptr (cs.drop off)))
   | _=>.undef
  else .ref k' off
 | .buf k'=>if k'=k then match bk with
   | .buf _ _ _ rows=>.d (.one (.sl rows))
   | _=>.undef
  else .buf k'
 | .row k' j sz off=>if k'=k then .undef else .row k' j sz off
 | a=>a
def frzS (k:Nat) (bk:Bk):List (Nat × A)->List (Nat × A)
 | []=>[]
 | (t,a)::r=>(t,frzA k bk a)::frzS k bk r
def frzB (k:Nat) (σ:St):Option Bk->St
 | some bk=>⟨frzS k bk σ.s,remM k σ.m⟩
 | none=>σ
def frz (k:Nat) (σ:St):St:=frzB k σ (gm σ.m k)
def frzs:List Nat->St->St
 | [],σ=>σ
 | k::ks,σ=>frzs ks (frz k σ)
def keyA:A->List Nat
 | .ref k _=>[k]
 | .buf k=>[k]
 | _=>[]
def ZdS:List A->List Nat
 | []=>[]
 | a::r=>keyA a++ZdS r
def ZnT (a b:A):A->Option A
 | .d (.one (.lit (.bool t)))=>some (if t then a else b)
 | _=>none
def Zev (k:Option TK) (p:Option (List C)):Option A :=
 match k,p with
 | some k,some cs=>valT k cs
 | _,_=>none
def Zc9 (x:A):Option (Nat × TypeId)->Option A
 | some (n,_)=>match x with
  | .d (.one (.ptr cs))=>some (.d (.one (.ptr (cs.drop n))))
  | .ref k off=>some (.ref k (off+n))
  | .row k j sz off=>some (.row k j sz (off+n))
  | .d (.one (.lit (.pointer (some ⟨b,off,none⟩))))=>some (.d (.one (.lit (.pointer (some ⟨b,off+n,none⟩)))))
  | _=>none
 | none=>none
def Zix (P:Program) (x:A):Option (Nat × TypeId)->Option A
 | some (n,ft)=>match x with
  | .d (.agg cs)=>Zev (Za8 P ft) (some (cs.drop n))
  | _=>none
 | none=>none
def ZaI (n:Nat) (rows:List (List C)):Bool:=rows.all (fun r=>r.length==n && r.all Zau)
def eltA:Option (List C)->Option A
 | some r=>some (.d (.one (.ptr r)))
 | none=>none
def ZkK (k n:Nat) (j:Int):Option Bk->Option A
 | some (.buf _ _ sz rows)=>if sz=n then if 0<=j then if j.toNat < rows.length then some (.row k j.toNat sz 0) else none else none else none
 | _=>none
def ZdC (m:List (Nat × Bk)) (n:Option Nat) (x i:A):Option A :=
 match n,x,i with
 | some n,.buf k,.d (.one (.lit (.int _ j)))=>ZkK k n j (gm m k)
 | some n,.d (.one (.sl rows)),.d (.one (.lit (.int _ j)))=>if 0<=j then if ZaI n rows=true then eltA rows[j.toNat]? else none else none
 | some n,.d (.clip rows),.d (.one (.lit (.int _ j)))=>if 0<=j then if ZaI n rows=true then eltA rows[j.toNat]? else none else none
 | _,_,_=>none
def ZnU:Option UInt8->Option A
 | some b=>some (.d (.one (.lit (.int .u8 b.toNat))))
 | none=>none
def Ziy (t:Option TypeDesc) (x i:A):Option A :=
 match t,x,i with
 | some .string,.d (.one (.lit (.string s))),.d (.one (.lit (.int _ j)))=>if 0<=j then ZnU s[j.toNat]? else none
 | _,_,_=>none
def litA:Option Value->Option A
 | some v=>some (.d (.one (.lit v)))
 | none=>none
def binA (P:Program) (t:TypeId) (op:BinOp) (x y:A):Option A :=
 match x,y with
 | .d (.one (.lit a)),.d (.one (.lit b))=>litA (binT P op t a b)
 | _,_=>none
def unA (op:UnOp) (x:A):Option A :=
 match x with
 | .d (.one (.lit a))=>litA (unV op a)
 | _=>none
def dA:Option D->Option A
 | some x=>some (.d x)
 | none=>none
def Zgo (i:Nat):A->Option A
 | .tup xs=>dA xs[i]?
 | _=>none
def nilA:A->Option A
 | .d (.one (.ptr cs))=>some (.d (.one (.ptr cs)))
 | .d (.one (.fn f cs))=>some (.d (.one (.fn f cs)))
 | .ref k off=>some (.ref k off)
 | .d (.one (.lit (.pointer (some p))))=>some (.d (.one (.lit (.pointer (some p)))))
 | _=>none
def lenS:Option (List (List C))->Option A
 | some rows=>some (.d (.one (.lit (.int .i64 rows.length))))
 | none=>none
def lenA (m:List (Nat × Bk)) (t:Option Bool) (xs:List A):Option A :=
 match t,xs with
 | some true,[.d (.one (.lit (.slice _ n _)))]=>some (.d (.one (.lit (.int .i64 n))))
 | some true,[x]=>lenS (slA m x)
 | some false,[.d (.one (.lit (.string s)))]=>some (.d (.one (.lit (.int .i64 s.size))))
 | _,_=>none
def ZnV:Option (List (List C))->Option A
 | some rows=>some (.d (.clip rows))
 | none=>none
def Zel (sz:Option (TypeId × Nat × Nat)) (n:Nat) (parts:List (Nat × A)):Option A :=
 match sz with
 | some (_,s,_)=>if parts.length=n∧n * s<=16777216 then ZnV (ZdX s 0 parts) else none
 | none=>none
def aggA:Option (List C)->Option A
 | some cs=>some (.d (.agg cs))
 | none=>none
def Zbv (P:Program) (t:TypeId):Bool :=
 match P.underlying t with
 | some (.struct fs)=>fs.toList.all fun f=>(P.info? f.type).isSome
 | _=>false
def Zhw (P:Program) (t:TypeId) (parts:List (Nat × A)):Option A :=
 match Zbv P t,Za3 P t with
 | true,some cs=>if cs.all Zau=true then aggA (Zc4 P t cs parts) else none
 | _,_=>none
def Zfb (P:Program) (t:TypeId) (x:A) (lo hi mx:Option A):Option A :=
 match ZbL P t with
 | some n=>match Zgn x with
  | some rows=>if ZaI n rows=true∧(mx.isNone || hi.isSome)=true then dA (Zhv rows (loA lo) (hiA rows.length hi) (mx.map intA)) else none
  | none=>none
 | none=>if Zoc (P.underlying t)∧mx=none then match strA x with
   | some s=>dA (Zl7 s (loA lo) (hiA s.size hi))
   | none=>none
  else none
def fnA (f:FuncId):Option (List C)->Option A
 | some cs=>some (.d (.one (.fn f cs)))
 | none=>none
def varK (b:Nat):List (Nat × Bk)->Option Nat
 | []=>none
 | (k,.var (some b') _)::r=>if b=b' then some k else varK b r
 | _::r=>varK b r
def bufK (a:Option Addr) (n cap:Nat):List (Nat × Bk)->Option Nat
 | []=>none
 | (k,.buf (some (a',cap')) _ _ rows)::r=>if a=a'∧n=rows.length∧cap=cap' then some k else bufK a n cap r
 | _::r=>bufK a n cap r
def nrmV (b off:Nat) (k:Nat):Option Bk->A
 | some (.var (some b') _)=>if b=b' then .ref k off else .d (.one (.lit (.pointer (some ⟨b,off,none⟩))))
 | _=>.d (.one (.lit (.pointer (some ⟨b,off,none⟩))))
def ZkL (m:List (Nat × Bk)) (b off:Nat):Option Nat->A
 | some k=>nrmV b off k (gm m k)
 | none=>.d (.one (.lit (.pointer (some ⟨b,off,none⟩))))
def nrmB (a:Option Addr) (n cap k:Nat):Option Bk->A
 | some (.buf (some (a',cap')) _ _ rows)=>if a=a'∧n=rows.length∧cap=cap' then .buf k else .d (.one (.lit (.slice a n cap)))
 | _=>.d (.one (.lit (.slice a n cap)))
def ZkM (m:List (Nat × Bk)) (a:Option Addr) (n cap:Nat):Option Nat->A
 | some k=>nrmB a n cap k (gm m k)
 | none=>.d (.one (.lit (.slice a n cap)))
def nrm (m:List (Nat × Bk)):A->A
 | .d (.one (.lit (.pointer (some ⟨b,off,none⟩))))=>ZkL m b off (varK b m)
 | .d (.one (.lit (.slice a n cap)))=>ZkM m a n cap (bufK a n cap m)
 | x=>x
def ZgR (P:Program) (m:List (Nat × Bk)) (ρ:Operand->A):Op->Option A
 | .move x=>some (ρ x)
 | .pick c a b=>ZnT (ρ a) (ρ b) (ρ c)
 | .load t x=>Zev (Za8 P t) (ptrA m (nrm m (ρ x)))
 | .fieldAddr t x f=>Zc9 (ρ x) (offT P t f)
 | .field t x f=>Zix P (ρ x) (offT P t f)
 | .indexAddr t x i=>ZdC m (ZbL P t) (nrm m (ρ x)) (ρ i)
 | .index t x i=>Ziy (P.underlying t) (ρ x) (ρ i)
 | .binOp op t x y _=>binA P t op (ρ x) (ρ y)
 | .unOp op _ x=>unA op (ρ x)
 | .extract x i=>Zgo i (ρ x)
 | .nilCheck x=>nilA (ρ x)
 | .convert s d x=>Zjk P s d (ρ x)
 | .slice t x lo hi mx=>Zfb P t (ρ x) (lo.map ρ) (hi.map ρ) (mx.map ρ)
 | .build t parts=>Zhw P t (parts.toList.map fun p=>(p.1,ρ p.2))
 | .buildSlice t n parts=>Zel (Zbj P t) n (parts.toList.map fun p=>(p.1,ρ p.2))
 | .makeFunc (.func f) ⟨[]⟩ caps=>fnA f (csA (caps.toList.map ρ))
 | .call ⟨.builtin .len,args,ts⟩=>lenA m (lenT P ts) (args.toList.map fun x=>nrm m (ρ x))
 | .call ⟨.builtin .max,args,_⟩=>maxA (args.toList.map ρ)
 | .call ⟨.builtin .min,args,_⟩=>minA (args.toList.map ρ)
 | _=>none
def newE (σ:St) (d:Option Nat) (cs:Option (List C)):Option St :=
 match d,cs with
 | some d,some cs=>some ⟨(d,.ref d 0)::Zaq d σ.s,(d,.var none cs)::remM d σ.m⟩
 | _,_=>none
def storeVar (σ:St) (k off n:Nat) (us:List C):Option Bk->Option St
 | some (.var o cs)=>if us.length=n∧off+n<=cs.length then some ⟨σ.s,(k,.var o (cs.take off++us++cs.drop (off+n)))::remM k σ.m⟩ else none
 | _=>none
def storeRow (σ:St) (k j sz off n:Nat) (us:List C):Option Bk->Option St
 | some (.buf o e sz' rows)=>if sz'=sz then match rows[j]? with
   | some r=>if us.length=n∧off+n<=r.length then some ⟨σ.s,(k,.buf o e sz (rows.set j (r.take off++us++r.drop (off+n))))::remM k σ.m⟩ else none
   | none=>none
  else none
 | _=>none
def Zhx (σ:St) (d:Option Nat) (x:A) (us:Option (List C)) (n:Option Nat):Option St :=
 match d,x,us,n with
 | none,.ref k off,some us,some n=>storeVar σ k off n us (gm σ.m k)
 | none,.row k j sz off,some us,some n=>storeRow σ k j sz off n us (gm σ.m k)
 | _,_,_,_=>none
def putE (σ:St) (d:Option Nat):Option A->Option St
 | some α=>some ⟨setA σ.s d α,σ.m⟩
 | none=>none
def ownE (σ:St) (k d:Nat) (bk:Bk):St:=⟨(d,.buf d)::Zaq d (Zaq k σ.s),(d,bk)::remM d (remM k σ.m)⟩
def Zjl (σ:St) (k d:Nat):Option Bk->Option St
 | some (.buf o e sz rows)=>if k=d then some ⟨(d,.buf d)::σ.s,σ.m⟩ else some (ownE σ k d (.buf o e sz rows))
 | _=>none
def newB (σ:St) (d:Nat):Option (TypeId × Nat × Nat)->Option St
 | some (e,sz,_)=>some ⟨(d,.buf d)::Zaq d σ.s,(d,.buf none e sz [])::remM d σ.m⟩
 | none=>some ⟨(d,.d (.clip []))::σ.s,σ.m⟩
def Zdr (P:Program) (σ:St) (d:Option Nat) (ty:TypeId) (x:A):Option St :=
 match d,x with
 | some d,.buf k=>Zjl σ k d (gm σ.m k)
 | some d,.d (.clip [])=>newB σ d (Zbj P ty)
 | d,x=>some ⟨setA σ.s d x,σ.m⟩
def ZkN (k:Nat):A->Bool
 | .buf k'=>k'==k
 | _=>false
def maxApp:Nat:=1073741824
def Zhy (σ:St) (d k:Nat) (ety sz:Nat) (ys:List (List C)):Option Bk->Option St
 | some (.buf _ e sz' rows)=>if e=ety∧sz'=sz∧rows.length+ys.length<=maxApp then some (ownE σ k d (.buf none e sz (rows++ys))) else none
 | _=>none
def Zge (P:Program) (σ:St) (d:Option Nat) (ts:Array TypeId) (args:List A):Option St :=
 match d,args,ts[0]? with
 | some d,[x,y],some t=>if ts[1]?=some t then match Zbj P t,slA σ.m y with
   | some (e,sz,_),some ys=>if ZaI sz ys=true then match x with
     | .buf k=>if ZkN k y then none else Zhy σ d k e sz ys (gm σ.m k)
     | .d (.clip rows)=>if ZaI sz rows=true∧rows.length+ys.length<=maxApp∧(rows.isEmpty || !ys.isEmpty)=true then some ⟨(d,.buf d)::Zaq d σ.s,(d,.buf none e sz (rows++ys))::remM d σ.m⟩ else none
     | _=>none
    else none
   | _,_=>none
  else none
 | _,_,_=>none
def ZhS (P:Program) (σ:St) (d:Option Nat) (t:TypeId) (l c:A):Option St :=
 match d,intA l,intA c,Zbj P t with
 | some d,some n,some n',some (e,sz,_)=>match Za3 P e with
  | some z=>if n=n'∧0<=n∧n<=maxApp∧z.all Zau=true then some ⟨(d,.buf d)::Zaq d σ.s,(d,.buf none e sz (List.replicate n.toNat z))::remM d σ.m⟩ else none
  | none=>none
 | _,_,_,_=>none
def frzQ (q:Bool) (ks:List Nat) (σ:St):Option St :=
 match ks with
 | []=>some σ
 | _::_=>if q then none else some (frzs ks σ)
def ZgS (P:Program) (d:Option Nat) (op:Op):Option St->Option St
 | some σ=>putE σ d (ZgR P σ.m (evA σ.s) op)
 | none=>none
def Zjm (d:Option Nat) (x:Operand):Option St->Option St
 | some σ=>newE σ d (ZcD (evA σ.s x))
 | none=>none
def ZgT (P:Program) (d:Option Nat) (t:TypeId) (x y:Operand):Option St->Option St
 | some σ=>Zhx σ d (nrm σ.m (evA σ.s x)) (ZcD (evA σ.s y)) (Zbi P t)
 | none=>none
def ZhT (P:Program) (q:Bool) (σ:St) (d:Option Nat) (ty:TypeId):Op->Option St
 | .alloc t=>if q then none else newE σ d (Za3 P t)
 | .box _ x=>if q then none else Zjm d x (frzQ q (keyA (evA σ.s x)) σ)
 | .store t x y=>if q then none else ZgT P d t x y (frzQ q (keyA (evA σ.s y)) σ)
 | .assign x=>if q then none else Zdr P σ d ty (evA σ.s x)
 | .makeSlice t l c=>if q then none else ZhS P σ d t (evA σ.s l) (evA σ.s c)
 | .call ⟨.builtin .append,args,ts⟩=>if q then none else Zge P σ d ts (args.toList.map fun x=>nrm σ.m (evA σ.s x))
 | .build t parts=>ZgS P d (.build t parts) (frzQ q (ZdS (parts.toList.map fun p=>evA σ.s p.2)) σ)
 | .buildSlice t n parts=>ZgS P d (.buildSlice t n parts) (frzQ q (ZdS (parts.toList.map fun p=>evA σ.s p.2)) σ)
 | .makeFunc f fs caps=>ZgS P d (.makeFunc f fs caps) (frzQ q (ZdS (caps.toList.map (evA σ.s))) σ)
 | op=>putE σ d (ZgR P σ.m (evA σ.s) op)
def Zdn (mask:Nat):List (Nat × A)->List (Nat × A)
 | []=>[]
 | (k,a)::r=>if mask.testBit k then (k,a)::Zdn mask r else Zdn mask r
def ZcK (s:List (Nat × A)):List (Nat × A)->Prop
 | []=>True
 | (k,a)::r=>gs s k=a∧ZcK s r
def ZcL (m:List (Nat × Bk)):List (Nat × Bk)->Prop
 | []=>True
 | (k,a)::r=>gm m k=some a∧ZcL m r
inductive PX where
 | normal
 | exit (id:Nat)
 | ret
def Zb7 (ops:Array Oper) (n:Nat):Bool :=
 (List.range n).all fun i=>match ops[i]? with
  | none=>false
  | some o=>o.dst.isSome && o.after.all (fun e=>!Region.binds .any e || decide (e.on < i)) &&
   (match o.guard with
    | none=>true
    | some (j,_)=>decide (j < n) && Region.waitsFor .any ops i j) &&
   (List.range n).all fun j=>match ops[j]? with
    | none=>false
    | some p=>(j==i || p.dst != o.dst) && (!(Zce o).any (fun t=>p.dst==some t) || Region.waitsFor .any ops i j)
def regB (ops:Array Oper) (n:Nat):Bool :=
 Zb7 ops n && decide (n<=ops.size) && (decide (n=ops.size) || (Region.sinkB .any ops n && Region.chainB .any ops n)) && Region.seqB .any ops (ops.size - n) n (Zbp ops.size n)
def isAl:Oper->Bool
 | ⟨some _,.alloc _,_,_,_,none⟩=>true
 | _=>false
def ZeE (ops:Array Oper) (n:Nat):Bool :=
 match ops[n]? with
 | some o=>isAl o
 | none=>false
def regX (ops:Array Oper) (n:Nat):Bool:=regB ops n
def Wk (σ σ1:St):Prop:=(∀ t,gs σ1.s t=gs σ.s t∨gs σ1.s t=.undef)∧∀ t x,gm σ1.m t=some x->gm σ.m t=some x
section
variable {w w':World} {S S':Nat->Prop}
theorem Zaj.keep2 (hz:w.heap.size<=w'.heap.size) (hk:∀ b o,S b->w'.cell? ⟨b,o,none⟩=w.cell? ⟨b,o,none⟩) (hS:∀ b,S b->S' b) (b:Nat) (hb:∀ o,w'.cell? ⟨b,o,none⟩=w.cell? ⟨b,o,none⟩) :
  ∀ (off:Nat) (cs:List C),Zaj w S b off cs->Zaj w' S' b off cs
 | _,[],_=>by simp [Zaj]
 | off,c::cs,h=>by
  simp only [Zaj] at h ⊢;obtain ⟨⟨u,hu,hr⟩,h2⟩:=h;exact ⟨⟨u,by rw [hb off];exact hu,Rep.keep hz hk hS c u hr⟩,Zaj.keep2 hz hk hS b hb _ cs h2⟩
theorem Zad.keep2 (hz:w.heap.size<=w'.heap.size) (hk:∀ b o,S b->w'.cell? ⟨b,o,none⟩=w.cell? ⟨b,o,none⟩) (hS:∀ b,S b->S' b) :
  ∀ {cs:List C} {us:List Value},Zad w S cs us->Zad w' S' cs us
 | [],[],_=>by simp [Zad]
 | c::cs,u::us,h=>by
  simp only [Zad] at h ⊢;exact ⟨Rep.keep hz hk hS c u h.1,Zad.keep2 hz hk hS h.2⟩
 | [],_::_,h=>by simp [Zad] at h
 | _::_,[],h=>by simp [Zad] at h
theorem Zaj.keepAt (hz:w.heap.size<=w'.heap.size) (hk:∀ b o,S b->w'.cell? ⟨b,o,none⟩=w.cell? ⟨b,o,none⟩) (hS:∀ b,S b->S' b) (b:Nat) :
  ∀ (off:Nat) (cs:List C),(∀ j,j < cs.length->w'.cell? ⟨b,off+j,none⟩=w.cell? ⟨b,off+j,none⟩)->Zaj w S b off cs->Zaj w' S' b off cs
 | _,[],_,_=>by simp [Zaj]
 | off,c::cs,hb,h=>by
  simp only [Zaj] at h ⊢;obtain ⟨⟨u,hu,hr⟩,h2⟩:=h
  exact ⟨⟨u,by have:=hb 0 (by simp);rw [Nat.add_zero] at this;rw [this];exact hu,Rep.keep hz hk hS c u hr⟩,
   Zaj.keepAt hz hk hS b _ cs (fun j hj=>by have:=hb (j+1) (by simp;omega);rw [show off+1+j=off+(j+1) by omega];exact this) h2⟩
theorem Zaj.of_vals {b:Nat}:∀ (cs:List C) (vs:List Value) (off:Nat),Zad w S cs vs->(∀ j u,vs[j]?=some u->w.cell? ⟨b,off+j,none⟩=some u)->Zaj w S b off cs
 | [],_,_,_,_=>by simp [Zaj]
 | c::cs,[],_,h,_=>by simp [Zad] at h
 | c::cs,v::vs,off,h1,h2=>by
  simp only [Zad,Zaj] at h1 ⊢;exact ⟨⟨v,by simpa using h2 0 v (by simp),h1.1⟩,Zaj.of_vals cs vs (off+1) h1.2 (fun j u hj=>by have:=h2 (j+1) u (by simpa using hj);rw [show off+1+j=off+(j+1) by omega];exact this)⟩
theorem Zaj.append {b:Nat}:∀ (xs ys:List C) (off:Nat),Zaj w S b off xs->Zaj w S b (off+xs.length) ys->Zaj w S b off (xs++ys)
 | [],ys,off,_,h2=>by simpa using h2
 | x::xs,ys,off,h1,h2=>by
  simp only [Zaj,Taf] at h1 ⊢;refine ⟨h1.1,Zaj.append xs ys (off+1) h1.2 ?_⟩;rw [show off+1+xs.length=off+(x::xs).length by simp;omega];exact h2
theorem DRel.keep (hz:w.heap.size<=w'.heap.size) (hk:∀ b o,S b->w'.cell? ⟨b,o,none⟩=w.cell? ⟨b,o,none⟩) (hS:∀ b,S b->S' b) {x:D} {v:Value} (h:DRel w S x v):DRel w' S' x v:=by
 cases x with
 | one c=>exact Rep.keep hz hk hS c v h
 | agg cs=>obtain ⟨vs,hv,hr⟩:=h;exact ⟨vs,hv,Zad.keep2 hz hk hS hr⟩
 | clip rows=>exact ⟨Rep.keep hz hk hS _ v h.1,h.2⟩
theorem Zav.keep (hz:w.heap.size<=w'.heap.size) (hk:∀ b o,S b->w'.cell? ⟨b,o,none⟩=w.cell? ⟨b,o,none⟩) (hS:∀ b,S b->S' b):∀ {xs:List D} {vs:List Value},Zav w S xs vs->Zav w' S' xs vs
 | [],[],_=>by simp [Zav]
 | x::xs,v::vs,h=>by
  simp only [Zav] at h ⊢;exact ⟨DRel.keep hz hk hS h.1,Zav.keep hz hk hS h.2⟩
 | [],_::_,h=>by simp [Zav] at h
 | _::_,[],h=>by simp [Zav] at h
theorem ARel.keep {L:Lay} (hz:w.heap.size<=w'.heap.size) (hk:∀ b o,S b->w'.cell? ⟨b,o,none⟩=w.cell? ⟨b,o,none⟩) (hS:∀ b,S b->S' b) {x:A} {v:Value} (h:ARel w S L x v):ARel w' S' L x v:=by
 cases x with
 | undef=>trivial
 | no=>exact h
 | d x=>exact DRel.keep hz hk hS h
 | tup xs=>obtain ⟨vs,hv,hr⟩:=h;exact ⟨vs,hv,Zav.keep hz hk hS hr⟩
 | ref m off=>exact h
 | buf k=>exact h
 | row k j sz off=>exact h
theorem Zav.append:∀ {xs ys:List D} {vs us:List Value},Zav w S xs vs->Zav w S ys us->Zav w S (xs++ys) (vs++us)
 | [],ys,[],us,_,h2=>by simpa using h2
 | x::xs,ys,v::vs,us,h1,h2=>by
  simp only [Zav,Taf] at h1 ⊢;exact ⟨h1.1,Zav.append h1.2 h2⟩
 | [],_,_::_,_,h,_=>by simp [Zav] at h
 | _::_,_,[],_,h,_=>by simp [Zav] at h
theorem Zav.caps:∀ {cs:List C} {us:List Value},Zad w S cs us->Zav w S (cs.map .one) us
 | [],[],_=>by simp [Zav]
 | c::cs,u::us,h=>by
  simp only [Zad,Tbu,Zav] at h ⊢;exact ⟨h.1,Zav.caps h.2⟩
 | [],_::_,h=>by simp [Zad] at h
 | _::_,[],h=>by simp [Zad] at h
theorem Zav.len:∀ {xs:List D} {vs:List Value},Zav w S xs vs->vs.length=xs.length
 | [],[],_=>rfl
 | x::xs,v::vs,h=>by simp only [Zav] at h;simp [Zav.len h.2]
 | [],_::_,h=>by simp [Zav] at h
 | _::_,[],h=>by simp [Zav] at h
theorem Zav.get:∀ {xs:List D} {vs:List Value} {i:Nat} {x:D},Zav w S xs vs->xs[i]?=some x->∃ v,vs[i]?=some v∧DRel w S x v
 | [],_,_,_,_,hi=>by simp at hi
 | x::xs,v::vs,0,y,h,hi=>by simp only [Zav] at h;simp at hi;subst hi;exact ⟨v,by simp,h.1⟩
 | x::xs,v::vs,i+1,y,h,hi=>by simp only [Zav] at h;have:=Zav.get h.2 (by simpa using hi);simpa using this
 | _::_,[],_,_,h,_=>by simp [Zav] at h
end
section
variable {w w':World} {S S':Nat->Prop}
theorem Zaj.drop {w:World} {S:Nat->Prop} {b:Nat}:∀ {cs:List C} {off:Nat} (n:Nat),Zaj w S b off cs->Zaj w S b (off+n) (cs.drop n)
 | cs,off,0,h=>by simpa using h
 | [],off,n+1,h=>by simp [Zaj]
 | c::cs,off,n+1,h=>by
  simp only [Zaj] at h;have:=Zaj.drop (cs:=cs) (off:=off+1) n h.2;rw [show off+(n+1)=off+1+n by omega];simpa using this
theorem Zaj.vals {w:World} {S:Nat->Prop} {b:Nat}:∀ {cs:List C} {off:Nat},Zaj w S b off cs->∃ vs:List Value,Zad w S cs vs∧∀ j u,vs[j]?=some u->w.cell? ⟨b,off+j,none⟩=some u
 | [],off,_=>⟨[],by simp [Zad],by simp⟩
 | c::cs,off,h=>by
  simp only [Zaj] at h;obtain ⟨⟨u,hu,hr⟩,h2⟩:=h;obtain ⟨vs,h3,h4⟩:=Zaj.vals h2;refine ⟨u::vs,by simp only [Zad];exact ⟨hr,h3⟩,fun j v hj=>?_⟩
  cases j with
  | zero=>simp at hj;subst hj;simpa using hu
  | succ j=>have:=h4 j v (by simpa using hj);rw [show off+(j+1)=off+1+j by omega];exact this
theorem Zaj.take {w:World} {S:Nat->Prop} {b:Nat}:∀ {cs:List C} {off:Nat} (n:Nat),Zaj w S b off cs->Zaj w S b off (cs.take n)
 | cs,off,0,h=>by simp [Zaj]
 | [],off,n+1,h=>by simp [Zaj]
 | c::cs,off,n+1,h=>by
  simp only [Zaj,Tbc] at h ⊢;exact ⟨h.1,Zaj.take n h.2⟩
theorem Zad.drop {w:World} {S:Nat->Prop}:∀ {cs:List C} {vs:List Value} (n:Nat),Zad w S cs vs->Zad w S (cs.drop n) (vs.drop n)
 | cs,vs,0,h=>by simpa using h
 | [],[],n+1,h=>by simp [Zad]
 | c::cs,v::vs,n+1,h=>by
  simp only [Zad] at h;simpa using Zad.drop n h.2
 | [],_::_,_+1,h=>by simp [Zad] at h
 | _::_,[],_+1,h=>by simp [Zad] at h
theorem Zad.take {w:World} {S:Nat->Prop}:∀ {cs:List C} {vs:List Value} (n:Nat),Zad w S cs vs->Zad w S (cs.take n) (vs.take n)
 | cs,vs,0,h=>by simp [Zad]
 | [],[],n+1,h=>by simp [Zad]
 | c::cs,v::vs,n+1,h=>by
  simp only [Zad,Tbc] at h ⊢;exact ⟨h.1,Zad.take n h.2⟩
 | [],_::_,_+1,h=>by simp [Zad] at h
 | _::_,[],_+1,h=>by simp [Zad] at h
theorem Addr.add_at (b off n:Nat):(⟨b,off,none⟩:Addr).add n=⟨b,off+n,none⟩:=by unfold Addr.add;split <;> simp_all
theorem Zbg {w w':World} {b:Nat} (h:w'.heap[b]?=w.heap[b]?) (o:Nat):w'.cell? ⟨b,o,none⟩=w.cell? ⟨b,o,none⟩:=World.cell?_of_block h
theorem Zad.app:∀ {cs ds:List C} {us vs:List Value},Zad w S cs us->Zad w S ds vs->Zad w S (cs++ds) (us++vs)
 | [],_,[],_,_,h2=>by simpa using h2
 | c::cs,ds,u::us,vs,h1,h2=>by
  simp only [Zad,Taf] at h1 ⊢;exact ⟨h1.1,Zad.app h1.2 h2⟩
 | [],_,_::_,_,h,_=>by simp [Zad] at h
 | _::_,_,[],_,h,_=>by simp [Zad] at h
theorem Zf2 {c:C} {v:Value} (h:Zau c=true) (hr:Rep w S c v):v.oneCell'=true:=by
 cases c with
 | lit x=>simp only [Rep] at hr;subst hr;exact h
 | sl rows=>simp only [Rep] at hr;obtain ⟨A,n,cap,rfl,_⟩:=hr;rfl
 | ptr cs=>simp only [Rep] at hr;obtain ⟨b,off,rfl,_⟩:=hr;rfl
 | fn f caps=>simp only [Rep] at hr;obtain ⟨us,rfl,_⟩:=hr;rfl
theorem ZeS:∀ {cs:List C} {vs:List Value},cs.all Zau=true->Zad w S cs vs->∀ v∈vs,v.oneCell'=true
 | [],[],_,_=>by simp
 | c::cs,v::vs,h,hr=>by
  simp only [List.all_cons,Tar,Zad] at h hr;intro u hu;rcases Tbg.1 hu with rfl | hu
  ·exact Zf2 h.1 hr.1
  ·exact ZeS h.2 hr.2 u hu
 | [],_::_,_,h=>by simp [Zad] at h
 | _::_,[],_,h=>by simp [Zad] at h
theorem Zap.flat {b:Nat}:∀ {rows:List (List C)} {off:Nat},Zap w S b off rows->Zaj w S b off rows.flatten
 | [],_,_=>by simp [Zaj]
 | r::rs,off,h=>by
  simp only [Zap,List.flatten_cons] at h ⊢;exact Zaj.append _ _ _ h.1 (Zap.flat h.2)
theorem Zaj.left {b:Nat}:∀ {xs ys:List C} {off:Nat},Zaj w S b off (xs++ys)->Zaj w S b off xs∧Zaj w S b (off+xs.length) ys
 | [],ys,off,h=>by simpa [Zaj] using h
 | x::xs,ys,off,h=>by
  simp only [Zaj,Taf] at h ⊢;have:=Zaj.left h.2;rw [show off+(x::xs).length=off+1+xs.length by simp;omega];exact ⟨⟨h.1,this.1⟩,this.2⟩
theorem Zap.of_flat {b:Nat}:∀ {rows:List (List C)} {off:Nat},Zaj w S b off rows.flatten->Zap w S b off rows
 | [],_,_=>by simp [Zap]
 | r::rs,off,h=>by
  simp only [Zap,List.flatten_cons] at h ⊢;have:=Zaj.left h;exact ⟨this.1,Zap.of_flat this.2⟩
theorem Zb5 {n:Nat}:∀ {rows:List (List C)},rowsLen n rows->rows.flatten.length=rows.length * n
 | [],_=>by simp
 | r::rs,h=>by
  have h1:=(h r (by simp)).1;have h2:=Zb5 (n:=n) (rows:=rs) (fun x hx=>h x (by simp [hx]));simp only [List.flatten_cons,Tae,Tag,h1,h2,Nat.add_mul];omega
theorem Zl8 {n:Nat}:∀ {rows:List (List C)},rowsLen n rows->rows.flatten.all Zau=true
 | [],_=>by simp
 | r::rs,h=>by
  have h1:=(h r (by simp)).2;have h2:=Zl8 (n:=n) (rows:=rs) (fun x hx=>h x (by simp [hx]));simp only [List.flatten_cons,List.all_append,h1,h2,Bool.and_self]
theorem rowsLen.append {n:Nat} {xs ys:List (List C)} (h1:rowsLen n xs) (h2:rowsLen n ys):rowsLen n (xs++ys):=fun r hr=>by
 rcases Tbh.1 hr with h | h
 ·exact h1 r h
 ·exact h2 r h
theorem rowsLen.nil {n:Nat}:rowsLen n []:=fun r hr=>by simp at hr
theorem ZeM {n:Nat} {rows:List (List C)}:ZaI n rows=true ↔ rowsLen n rows:=by
 unfold ZaI rowsLen;rw [List.all_eq_true];simp only [Tar,beq_iff_eq]
end
def Zay (L:Lay) (k:Nat):Bk->Nat->Prop
 | .var _ _,g=>L.b k=g
 | .buf _ _ _ _,g=>vblk (L.v k)=some g
 | .set E _,g=>E g
def Own1 (w:World) (S:Nat->Prop) (L:Lay) (k:Nat):Bk->Prop
 | .var o cs=>(∀ b,o=some b->L.b k=b)∧L.b k < w.heap.size∧¬ S (L.b k)∧(∃ arr ty,w.heap[L.b k]?=some (.cells arr ty (0,0))∧arr.size=cs.length)∧Zaj w S (L.b k) 0 cs
 | .buf o e sz rows=>(∀ a,o=some a->L.v k=.slice a.1 rows.length a.2)∧ZaE w S e sz rows (L.v k)
 | .set E G=>(∀ b,E b->b < w.heap.size∧¬ S b)∧G w∧Zc1 E G
theorem ZaE.keep {w w':World} {S S':Nat->Prop} {e sz:Nat} {rows:List (List C)} {v:Value} (h:ZaE w S e sz rows v) (hz:w.heap.size<=w'.heap.size) (hk:∀ b o,S b->w'.cell? ⟨b,o,none⟩=w.cell? ⟨b,o,none⟩) (hS:∀ b,S b->S' b)
  (hb:∀ g,vblk v=some g->w'.heap[g]?=w.heap[g]?∧¬ S' g):ZaE w' S' e sz rows v:=by
 obtain ⟨h1,h2,h3⟩:=h;refine ⟨h1,h2,?_⟩;rcases h3 with h3 | ⟨g,cap,cur,hv,hc,hg,hs,hh,hl,hm,hcs,hr⟩
 ·exact .inl h3
 ·have hvb:vblk v=some g:=by rw [hv];simp [vblk];omega
  obtain ⟨k1,k2⟩:=hb g hvb;refine .inr ⟨g,cap,cur,hv,hc,om,k2,by rw [k1];exact hh,hl,hm,hcs,?_⟩;exact Zap.of_flat (Zaj.keep2 hz hk hS g (fun o=>Zbg k1 o) 0 _ hr.flat)
theorem Own1.keep {w w':World} {S S':Nat->Prop} {L:Lay} {k:Nat} {bk:Bk} (h:Own1 w S L k bk) (hz:w.heap.size<=w'.heap.size) (hk:∀ b o,S b->w'.cell? ⟨b,o,none⟩=w.cell? ⟨b,o,none⟩) (hS:∀ b,S b->S' b)
  (hb:∀ g,Zay L k bk g->w'.heap[g]?=w.heap[g]?∧¬ S' g):Own1 w' S' L k bk:=by
 cases bk with
 | var o cs =>
  obtain ⟨h0,h1,h2,⟨arr,ty,h3,h4⟩,h5⟩:=h;obtain ⟨k1,k2⟩:=hb (L.b k) rfl;exact ⟨h0,om,k2,⟨arr,ty,by rw [k1];exact h3,h4⟩,Zaj.keep2 hz hk hS _ (fun o=>Zbg k1 o) 0 cs h5⟩
 | buf o e sz rows=>exact ⟨h.1,ZaE.keep h.2 hz hk hS hb⟩
 | set E G =>
  obtain ⟨h1,h2,h3⟩:=h;exact ⟨fun b hE=>⟨by have:=(h1 b hE).1;omega,(hb b hE).2⟩,h3 w w' hz (fun b hE=>(hb b hE).1) h2,h3⟩
theorem Own1.lt {w:World} {S:Nat->Prop} {L:Lay} {k:Nat} {bk:Bk} (h:Own1 w S L k bk) {g:Nat} (hg:Zay L k bk g):g < w.heap.size∧¬ S g:=by
 cases bk with
 | var o cs=>simp only [Zay] at hg;subst hg;exact ⟨h.2.1,h.2.2.1⟩
 | set E G=>exact h.1 g hg
 | buf o e sz rows =>
  obtain ⟨_,_,_,h3⟩:=h;simp only [Zay] at hg;rcases h3 with ⟨_,a,hv⟩ | ⟨g',cap,cur,hv,hc,hg',hs,_⟩
  ·rw [hv] at hg;cases a <;> simp [vblk] at hg
  ·rw [hv] at hg;simp only [vblk] at hg;rw [if_neg om] at hg;injection hg with hg
   subst hg;exact ⟨hg',hs⟩
theorem Own1.lay {w:World} {S:Nat->Prop} {L L':Lay} {k:Nat} {bk:Bk} (h:Own1 w S L k bk) (h1:L'.b k=L.b k) (h2:L'.v k=L.v k):Own1 w S L' k bk:=by
 cases bk with
 | var o cs=>simpa [Own1,h1] using h
 | buf o e sz rows=>simpa [Own1,h2] using h
 | set E G=>exact h
theorem Zmy {L L':Lay} {k:Nat} {bk:Bk} (h1:L'.b k=L.b k) (h2:L'.v k=L.v k):Zay L' k bk=Zay L k bk:=by
 funext g
 cases bk <;> simp [Zay,h1,h2]
structure Cls (e:Env) (U:Nat->Prop) (base:Nat) (S0:Nat->Prop) (m:List (Nat × Bk)) (w:World) (S:Nat->Prop) (L:Lay):Prop where
 sin:∀ b,S b->b < w.heap.size∧¬ e.E b
 sfr:∀ b,S b->S0 b∨base<=b∨U b
 ein:∀ b,e.E b->b < base
 uin:∀ b,U b->¬ e.E b
 bsz:base<=w.heap.size
 mine:∀ k bk g,gm m k=some bk->Zay L k bk g->base<=g∨U g
 own:∀ k bk,gm m k=some bk->Own1 w S L k bk
 inj:∀ k k' x x' g,gm m k=some x->gm m k'=some x'->Zay L k x g->Zay L k' x' g->k=k'
 g:e.G w
section
variable {e:Env} {U:Nat->Prop} {base:Nat} {S0:Nat->Prop} {m:List (Nat × Bk)} {w w':World} {S S':Nat->Prop} {L:Lay}
theorem Cls.notE (h:Cls e U base S0 m w S L) {k g:Nat} {bk:Bk} (hk:gm m k=some bk) (hg:Zay L k bk g):¬ e.E g:=fun hE=>by
 rcases h.mine k bk g hk hg with h1 | h1
 ·have:=h.ein g hE;omega
 ·exact h.uin g h1 hE
theorem Cls.later (h:Cls e U base S0 m w S L) (hk:Kept e.D e.E w.heap.size w w') (hg:e.G w')
  (hS:∀ b,S b->S' b) (hS':∀ b,S' b->S b∨(w.heap.size<=b∧b < w'.heap.size)):Cls e U base S0 m w' S' L:=by
 have hz:=hk.size;have hkc:∀ b o,S b->w'.cell? ⟨b,o,none⟩=w.cell? ⟨b,o,none⟩:=fun b o hs=>Zbg (hk.block b (h.sin b hs).1 (h.sin b hs).2) o;refine ⟨fun b hb=>?_,fun b hb=>?_,h.ein,h.uin,Tbe h.bsz hz,h.mine,fun k bk hm=>?_,h.inj,hg⟩
 ·rcases hS' b hb with h1 | ⟨h1,h2⟩
  ·exact ⟨Tbd (h.sin b h1).1 hz,(h.sin b h1).2⟩
  ·exact ⟨h2,fun hE=>by have:=h.ein b hE;have:=h.bsz;omega⟩
 ·rcases hS' b hb with h1 | ⟨h1,h2⟩
  ·exact h.sfr b h1
  ·exact .inr (.inl (Tbe h.bsz h1))
 ·have ho:=h.own k bk hm;refine ho.keep hz hkc hS fun g hgb=>?_;obtain ⟨l1,l2⟩:=ho.lt hgb;refine ⟨hk.block g l1 (h.notE hm hgb),fun hs=>?_⟩;rcases hS' g hs with h7 | ⟨h7,_⟩
  ·exact l2 h7
  ·omega
theorem Cls.cell (h:Cls e U base S0 m w S L) (hk:Kept e.D e.E w.heap.size w w'):∀ b o,S b->w'.cell? ⟨b,o,none⟩=w.cell? ⟨b,o,none⟩ :=
 fun b o hs=>Zbg (hk.block b (h.sin b hs).1 (h.sin b hs).2) o
def ZaW (e:Env) (U:Nat->Prop) (base:Nat) (S0:Nat->Prop) (m:List (Nat × Bk)) (o:Oper) (ρ:Operand->A) (α:A):Prop :=
 ∀ (w:World) (S:Nat->Prop) (L:Lay) (ρv:Operand->Value),Cls e U base S0 m w S L->(∀ x,x∈o.op.operands->ARel w S L (ρ x) (ρv x)) ->
  gives e.P o ρv w fun v w'=>∃ S':Nat->Prop,((∀ b,S b->S' b)∧∀ b,S' b->S b∨w.heap.size<=b)∧Cls e U base S0 m w' S' L∧Kept e.D e.E w.heap.size w w'∧ARel w' S' L α v
theorem ZaD {o:Oper} {ρ:Operand->A} {α:A} (h:∀ (w:World) (S:Nat->Prop) (L:Lay) (ρv:Operand->Value),Cls e U base S0 m w S L->(∀ x,x∈o.op.operands->ARel w S L (ρ x) (ρv x))->∃ v,(execOp ρv o).run e.P w=.ok (.value v) w∧ARel w S L α v) :
  ZaW e U base S0 m o ρ α:=by
 intro w S L ρv hC hr;obtain ⟨v,hv,ha⟩:=h w S L ρv hC hr;unfold gives;rw [hv];exact ⟨S,⟨fun _ h=>h,fun _ h=>.inl h⟩,hC,Kept.refl _ _ _ _,ha⟩
end
theorem Zjn {P:Program} {w:World} {S:Nat->Prop} {Bm:Lay} {t:TypeId} {k:TK} {b off:Nat} {cs:List C} {α:A} (hk:Za8 P t=some k) (hr:Zaj w S b off cs) (hv:valT k cs=some α) :
  ∃ v,(Instr.loadAt t (.pointer (some ⟨b,off,none⟩))).run P w=.ok v w∧ARel w S Bm α v:=by
 unfold Za8 at hk
 cases hu:P.underlying t with
 | none=>rw [hu] at hk;simp at hk
 | some d =>
  cases hi:P.info? t with
  | none=>rw [hu,hi] at hk;simp at hk
  | some i =>
   rw [hu,hi] at hk;simp only at hk
   cases hd:Zgm d with
   | true =>
    rw [hd] at hk;simp only [if_true,Taq] at hk;subst hk;simp only [valT] at hv;split at hv
    ·rename_i hle;injection hv with hv
     subst hv;obtain ⟨vs,h1,h2⟩:=(hr.take i.size).vals;have hl:vs.length=i.size:=by rw [h1.len,Taw];omega
     have hlc:=run_loadCells_list (P:=P) w ⟨b,off,none⟩ vs (fun j u hj=>by rw [Addr.add_at];exact h2 j u hj);rw [hl] at hlc;refine ⟨.agg vs.toArray,?_,vs,rfl,h1⟩
     cases d <;> simp [Zgm] at hd <;> simp [Instr.loadAt,Instr.sureAddr,loadVar,isAgg,underlying,hu,sizeOf,typeInfo,hi,hlc,Result.andThen]
    ·cases hv
   | false =>
    rw [hd] at hk;simp only [Tam,if_false] at hk;split at hk
    ·injection hk with hk
     subst hk
     cases cs with
     | nil=>simp [valT] at hv
     | cons c cs =>
      simp only [valT,Taq] at hv;subst hv;simp only [Zaj] at hr;obtain ⟨⟨u,hu',hr'⟩,_⟩:=hr;refine ⟨u,?_,hr'⟩
      cases d <;> simp [Zgm] at hd <;> simp [Instr.loadAt,Instr.sureAddr,loadVar,isAgg,underlying,hu,hu',Result.andThen]
    ·cases hk
theorem ZxB {P:Program} {op:BinOp} {t:TypeId} {x y:Operand} {a b v:Value} (h:binV op a b=some v) (w:World) :
  ((do eqGuard op t x y a b;binOp op t a b:Sem Value)).run P w=.ok v w:=by
 unfold binV at h
 split at h <;> first
  | (cases h;done)
  | (injection h with h;subst h;simp [eqGuard,binOp,Go.Op.intArith,Go.Op.intCmp,Go.Op.stringOp,intBits_and,intBits_or,intBits_xor,Result.andThen,bne];done)
  | (injection h with h;subst h;simp [eqGuard,binOp,Go.Op.intArith,Go.Op.intCmp,Go.Op.stringOp,Result.andThen,bne];rfl)
  | (injection h with h;subst h;simp [eqGuard,binOp,Result.andThen,bne];rfl)
  | (split at h
     ·rename_i hb;injection h with h;subst h
      have hb':¬ (_ < (0:Int)):=Int.not_lt.2 hb;simp [eqGuard,binOp,Go.Op.shift,hb',Result.andThen,IntKind.bits]
     ·cases h)
  | (split at h
     ·cases h
     ·rename_i hb;injection h with h;subst h
      simp [eqGuard,binOp,Go.Op.intDiv,hb,Result.andThen])
  | (rename_i a b
     split at h
     ·rename_i hb;injection h with h;subst h
      have hb':¬ (((a.size+b.size:Nat):Int) > IntKind.i64.max):=by simp [IntKind.max,IntKind.signed,IntKind.bits];omega
      simp only [eqGuard,binOp,Go.Op.stringOp,Sem.run_bind,Sem.run_pure,Result.andThen_ok,hb',if_false];simp [Result.andThen]
     ·cases h)
theorem Zod {P:Program} {op:BinOp} {t:TypeId} {x y:Operand} {a b v:Value} (h:binT P op t a b=some v) (w:World) :
  ((do eqGuard op t x y a b;binOp op t a b:Sem Value)).run P w=.ok v w:=by
 unfold binT at h;split at h
 ·unfold ZhR at h;split at h
  ·rename_i hu;injection h with h;subst h
   simp [eqGuard,binOp,run_equal_bool _ _ _ _ hu,Result.andThen]
  ·cases h
 ·unfold ZhR at h;split at h
  ·rename_i hu;injection h with h;subst h
   simp [eqGuard,binOp,run_equal_bool _ _ _ _ hu,Result.andThen]
  ·cases h
 ·exact ZxB h w
theorem ZAr {P:Program} {op:UnOp} {a v:Value} (h:unV op a=some v) (w:World):(Go.Op.unary op a).run P w=.ok v w:=by
 unfold unV at h
 split at h <;> first
  | (cases h;done)
  | (injection h with h;subst h;simp [Go.Op.unary,Go.Op.intArith])
theorem Zfr {P:Program} {t:TypeId} {f n:Nat} {ft:TypeId} (h:offT P t f=some (n,ft)) (b off:Nat) (w:World):(Instr.fieldAt t (.pointer (some ⟨b,off,none⟩)) f).run P w=.ok (.pointer (some ⟨b,off+n,none⟩)) w:=by
 unfold offT at h;split at h
 ·rename_i fs hu;split at h
  ·rename_i g hg;split at h
   ·rename_i i hi;split at h
    ·cases h
    ·rename_i hz;injection h with h
     injection h with h1 h2
     subst h1 h2;simp [Instr.fieldAt,underlying,hu,hg,Instr.sureAddr,fieldPlace,sizeOf,typeInfo,hi,hz,Addr.add_at,Result.andThen]
   ·cases h
  ·cases h
 ·cases h
theorem ZxC {P:Program} {w:World} {S:Nat->Prop} {Bm:Lay} {t:TypeId} {k:TK} {n:Nat} {cs:List C} {vs:List Value} {α:A} (hk:Za8 P t=some k) (hr:Zad w S cs vs) (hv:valT k (cs.drop n)=some α) :
  ∃ v,(part t vs.toArray n).run P w=.ok v w∧ARel w S Bm α v:=by
 unfold Za8 at hk
 cases hu:P.underlying t with
 | none=>rw [hu] at hk;simp at hk
 | some d =>
  cases hi:P.info? t with
  | none=>rw [hu,hi] at hk;simp at hk
  | some i =>
   rw [hu,hi] at hk;simp only at hk;have hrd:=hr.drop n
   cases hd:Zgm d with
   | true =>
    rw [hd] at hk;simp only [if_true,Taq] at hk;subst hk;simp only [valT] at hv;split at hv
    ·injection hv with hv
     subst hv;refine ⟨.agg ((vs.drop n).take i.size).toArray,?_,_,rfl,hrd.take i.size⟩;have e1:vs.toArray.extract n (n+i.size)=((vs.drop n).take i.size).toArray:=by
      simp [List.extract_toArray,List.extract_eq_take_drop]
     cases d <;> simp [Zgm] at hd <;> simp [part,isAgg,underlying,hu,sizeOf,typeInfo,hi,e1,Result.andThen]
    ·cases hv
   | false =>
    rw [hd] at hk;simp only [Tam,if_false] at hk;split at hk
    ·injection hk with hk
     subst hk
     cases hcs:cs.drop n with
     | nil=>rw [hcs] at hv;simp [valT] at hv
     | cons c cs' =>
      rw [hcs] at hv hrd;simp only [valT,Taq] at hv;subst hv
      cases hvs:vs.drop n with
      | nil=>rw [hvs] at hrd;simp [Zad] at hrd
      | cons u us =>
       rw [hvs] at hrd;simp only [Zad] at hrd;have hu':vs[n]?=some u:=by
        have:(vs.drop n)[0]?=some u:=by rw [hvs];rfl
        simpa using this
       refine ⟨u,?_,hrd.1⟩
       cases d <;> simp [Zgm] at hd <;> simp [part,isAgg,underlying,hu,hu',Result.andThen]
    ·cases hk
theorem ZpU {P:Program} {w:World} {S:Nat->Prop} {Bm:Lay} {t:TypeId} {n:Nat} {rows:List (List C)} {k:IntKind} {j:Int} {r:List C} {u:Value} (h:ZbL P t=some n) (hj:0<=j) (hl:rowsLen n rows) (hr:rows[j.toNat]?=some r) (hv:Rep w S (.sl rows) u) :
  ∃ v,(Instr.indexAt t u (.int k j)).run P w=.ok v w∧ARel w S Bm (.d (.one (.ptr r))) v:=by
 unfold ZbL at h;split at h
 ·rename_i el hu;simp only [Tav] at h;obtain ⟨i,hi,hn⟩:=h;simp only [Rep] at hv;obtain ⟨A,len,cap,rfl,hlen,_,_,h4⟩:=hv;have hjl:j.toNat < rows.length:=(Tad.1 hr).1;obtain ⟨b,off,rfl,hs,hb,hrows⟩:=h4 om;have hrow:=Zap.get rows off j.toNat r (fun x hx=>(hl x hx).1) hrows hr;refine ⟨.pointer (some ⟨b,off+j.toNat * n,none⟩),?_,?_⟩
  ·have hlt:j < (len:Int):=om;simp [Instr.indexAt,asIntOf,underlying,hu,sizeOf,typeInfo,hi,hn,Addr.add_at,hj,hlt,Result.andThen]
  ·simp only [ARel,DRel,Rep];exact ⟨b,_,rfl,hs,hb,hrow⟩
 ·cases h
theorem Ziz {P:Program} {w:World} {t:TypeId} {n g len cap:Nat} {k:IntKind} {j:Int} (h:ZbL P t=some n) (hj:0<=j) (hl:j.toNat < len) :
  (Instr.indexAt t (.slice (some ⟨g,0,none⟩) len cap) (.int k j)).run P w=.ok (.pointer (some ⟨g,j.toNat * n,none⟩)) w:=by
 unfold ZbL at h;split at h
 ·rename_i el hu;simp only [Tav] at h;obtain ⟨i,hi,hn⟩:=h;have hlt:j < (len:Int):=om;simp [Instr.indexAt,asIntOf,underlying,hu,sizeOf,typeInfo,hi,hn,Addr.add_at,hj,hlt,Result.andThen]
 ·cases h
section
variable {e:Env} {U:Nat->Prop} {base:Nat} {S0:Nat->Prop} {m:List (Nat × Bk)} {w:World} {S:Nat->Prop} {L:Lay}
theorem Zbk {x:Value} {v:Value} (h:ARel w S L (.d (.one (.lit x))) v):v=x:=by simpa [ARel,DRel,Rep] using h
theorem ZdY:∀ {xs:List A} {vs:List Value} {ds:List D},dsA xs=some ds->vs.length=xs.length->(∀ (i:Nat) (x:A) (v:Value),xs[i]?=some x->vs[i]?=some v->ARel w S L x v)->Zav w S ds vs
 | [],[],ds,h,_,_=>by simp [dsA] at h;subst h;simp [Zav]
 | [],_::_,_,_,hl,_=>by simp at hl
 | _::_,[],_,_,hl,_=>by simp at hl
 | x::xs,v::vs,ds,h,hl,hr=>by
  have h0:=hr 0 x v (by simp) (by simp)
  cases x with
  | d y =>
   simp only [dsA,Tav] at h;obtain ⟨ys,h1,h2⟩:=h;subst h2;simp only [Zav];exact ⟨h0,ZdY h1 (by simpa using hl) (fun i y v hy hv=>hr (i+1) y v (by simpa using hy) (by simpa using hv))⟩
  | undef=>simp [dsA] at h
  | no=>simp [dsA] at h
  | tup ys=>simp [dsA] at h
  | ref k off=>simp [dsA] at h
  | buf k=>simp [dsA] at h
  | row k j sz off=>simp [dsA] at h
theorem ZkO:∀ {xs:List A} {vs:List Value} {cs:List C},csA xs=some cs->vs.length=xs.length->(∀ (i:Nat) (x:A) (v:Value),xs[i]?=some x->vs[i]?=some v->ARel w S L x v)->Zad w S cs vs
 | [],[],ds,h,_,_=>by simp [csA] at h;subst h;simp [Zad]
 | [],_::_,_,_,hl,_=>by simp at hl
 | _::_,[],_,_,hl,_=>by simp at hl
 | x::xs,v::vs,ds,h,hl,hr=>by
  have h0:=hr 0 x v (by simp) (by simp)
  cases x with
  | d y =>
   cases y with
   | one c =>
    simp only [csA,Tav] at h;obtain ⟨ys,h1,h2⟩:=h;subst h2;simp only [Zad];exact ⟨h0,ZkO h1 (by simpa using hl) (fun i y v hy hv=>hr (i+1) y v (by simpa using hy) (by simpa using hv))⟩
   | agg cs=>simp [csA] at h
   | clip rows=>simp [csA] at h
  | undef=>simp [csA] at h
  | no=>simp [csA] at h
  | tup ys=>simp [csA] at h
  | ref k off=>simp [csA] at h
  | buf k=>simp [csA] at h
  | row k j sz off=>simp [csA] at h
theorem ZnB {v:Value} (h:v.oneCell'=true):v.cells=#[v]:=by
 cases v <;> simp [Value.oneCell',Value.cells] at h ⊢
theorem Zem {x:A} {v:Value} {cs:List C} (h:ZcD x=some cs) (hr:ARel w S L x v):Zad w S cs v.cells.toList∧cs.all Zau=true:=by
 unfold ZcD at h;split at h
 ·rename_i c;split at h
  ·rename_i hok;injection h with h
   subst h;have h1:=Zf2 hok hr;rw [ZnB h1];exact ⟨by simp only [Zad];exact ⟨hr,trivial⟩,by simpa using hok⟩
  ·cases h
 ·rename_i cs';split at h
  ·rename_i hok;injection h with h
   subst h;obtain ⟨vs,rfl,hv⟩:=hr;exact ⟨by simpa [Value.cells] using hv,hok⟩
  ·cases h
 ·rename_i rows;injection h with h
  subst h;obtain ⟨h1,a,n,rfl⟩:=hr;exact ⟨by simp only [Value.cells,Zad];exact ⟨h1,trivial⟩,rfl⟩
 ·cases h
theorem Zcp (hC:Cls e U base S0 m w S L) {x:A} {v:Value} (hr:ARel w S L x v):ARel w S L (nrm m x) v:=by
 unfold nrm;split
 ·rename_i b off;have hv:v=.pointer (some ⟨b,off,none⟩):=by simpa [ARel,DRel,Rep] using hr
  unfold ZkL;split
  ·rename_i k hk;unfold nrmV;split
   ·rename_i b' cs hm;split
    ·rename_i hb;have:=(hC.own k _ hm).1 b' rfl;show v=_;rw [hv,this,hb]
    ·exact hr
   ·exact hr
  ·exact hr
 ·rename_i a n cap;have hv:v=.slice a n cap:=by simpa [ARel,DRel,Rep] using hr
  unfold ZkM;split
  ·rename_i k hk;unfold nrmB;split
   ·rename_i a' cap' e' sz' rows hm;split
    ·rename_i hb;obtain ⟨rfl,rfl,rfl⟩:=hb;have:=(hC.own k _ hm).1 (a,cap) rfl;show v=_;rw [hv,this]
    ·exact hr
   ·exact hr
  ·exact hr
 ·exact hr
theorem ZxD (hC:Cls e U base S0 m w S L) {x:A} {v:Value} {rows:List (List C)} (h:slA m x=some rows) (hr:ARel w S L x v):∃ a cap,v=.slice a rows.length cap∧rows.length<=cap∧cap<=maxLen:=by
 unfold slA at h;split at h
 ·injection h with h;subst h
  obtain ⟨A,n,cap,hv,hn,hc,hm⟩:=Rep.form hr;exact ⟨A,cap,by rw [hv,hn],om,om⟩
 ·injection h with h;subst h
  obtain ⟨A,n,cap,hv,hn,hc,hm⟩:=Rep.form hr.1;exact ⟨A,cap,by rw [hv,hn],om,om⟩
 ·rename_i k;unfold bufA at h;split at h
  ·rename_i o' e' sz rows' hm;injection h with h;subst h
   have hr:v=L.v k:=hr;obtain ⟨_,_,_,h3⟩:=hC.own k _ hm;rcases h3 with ⟨h4,a,hv⟩ | ⟨g,cap,cur,hv,_,_,_,_,hl,hc,_⟩
   ·exact ⟨a,0,by rw [hr,hv,h4];rfl,by simp [h4],by simp [maxLen]⟩
   ·exact ⟨_,cap,by rw [hr,hv],hl,hc⟩
  ·cases h
 ·cases h
theorem Zmz (hC:Cls e U base S0 m w S L) {x:A} {v:Value} {cs:List C} {t:TypeId} {k:TK} {α:A} (hp:ptrA m x=some cs) (hr:ARel w S L x v) (hk:Za8 e.P t=some k) (hv:valT k cs=some α) :
  ∃ u,(Instr.loadAt t v).run e.P w=.ok u w∧ARel w S L α u:=by
 unfold ptrA at hp;split at hp
 ·injection hp with hp;subst hp
  simp only [ARel,DRel,Rep] at hr;obtain ⟨b,off,rfl,hs,hb,hrow⟩:=hr;exact Zjn hk hrow hv
 ·rename_i k' off;simp only [Tav] at hp;obtain ⟨cs',h2,h3⟩:=hp;unfold varA at h2;split at h2
  ·rename_i o2 cs2 hm;injection h2 with h2;subst h2
   obtain ⟨_,_,_,_,h7⟩:=hC.own k' _ hm;have h8:=h7.drop off;rw [h3,Nat.zero_add] at h8;have hr:v=.pointer (some ⟨L.b k',off,none⟩):=hr;rw [hr];exact Zjn hk h8 hv
  ·cases h2
 ·rename_i k' j sz off;simp only [Tav] at hp;obtain ⟨cs',h2,h3⟩:=hp;unfold rowA at h2;split at h2
  ·rename_i o' e' sz' rows hm;split at h2
   ·rename_i hsz;subst hsz;obtain ⟨g,hg,rfl⟩:=hr;obtain ⟨_,_,hl,h4⟩:=hC.own k' _ hm;rcases h4 with ⟨h4,_⟩ | ⟨g',cap,cur,hv',hcp,_,_,_,_,_,_,hrows⟩
    ·rw [h4] at h2;simp at h2
    ·have hgg:g'=g:=by rw [hv'] at hg;simp only [vblk] at hg;rw [if_neg om] at hg;injection hg
     subst hgg;have h8:=(Zap.get rows 0 j cs' (fun x hx=>(hl x hx).1) hrows h2).drop off;rw [h3,Nat.zero_add] at h8;exact Zjn hk h8 hv
   ·cases h2
  ·cases h2
 ·cases hp
theorem Zg9:∀ {sz i:Nat} {ps:List (Nat × A)} {rows:List (List C)} {vs:List Value},ZdX sz i ps=some rows->vs.length=ps.length->(∀ (i:Nat) (x:Nat × A) (v:Value),ps[i]?=some x->vs[i]?=some v->ARel w S L x.2 v) ->
  rows.length=ps.length∧rowsLen sz rows∧(ps.map (·.1))=(List.range' i ps.length)∧(∀ v∈vs,v.cells.size=sz)∧Zad w S rows.flatten (vs.flatMap fun v=>v.cells.toList)
 | sz,i,[],rows,vs,h,hl,_=>by
  simp [ZdX] at h;subst h;have:vs=[]:=Tao (by simpa using hl);subst this;exact ⟨rfl,rowsLen.nil,rfl,by simp,by simp [Zad]⟩
 | sz,i,(j,x)::ps,rows,[],h,hl,_=>by simp at hl
 | sz,i,(j,x)::ps,rows,v::vs,h,hl,hr=>by
  simp only [ZdX] at h;split at h
  ·rename_i hij;split at h
   ·rename_i cs hcs;split at h
    ·rename_i hlen;simp only [Tav] at h;obtain ⟨rs,h1,h2⟩:=h;subst h2;obtain ⟨q1,q2,q3,q4,q5⟩:=Zg9 (sz:=sz) (i:=i+1) (ps:=ps) (rows:=rs) (vs:=vs) h1 (by simpa using hl) (fun k y u hy hu=>hr (k+1) y u (by simpa using hy) (by simpa using hu));obtain ⟨c1,c2⟩:=Zem hcs (hr 0 (j,x) v (by simp) (by simp));have hvs:v.cells.size=sz:=by rw [<- hlen,<- c1.len,Array.length_toList]
     refine ⟨by simp [q1],fun r hr'=>?_,by simp [q3,List.range'_succ,hij],fun u hu=>?_,?_⟩
     ·rcases Tbg.1 hr' with rfl | h5
      ·exact ⟨hlen,c2⟩
      ·exact q2 r h5
     ·rcases Tbg.1 hu with rfl | h5
      ·exact hvs
      ·exact q4 u h5
     ·simp only [List.flatten_cons,List.flatMap_cons];exact Zad.app c1 q5
    ·cases h
   ·cases h
  ·cases h
theorem ZtS {place:Nat->Option (Nat × Nat)} {cells:Array Value} {i off:Nat} {v:Value} {rest:List (Nat × Value)} (hp:place i=some (off,v.cells.size)) (hl:off+v.cells.size<=cells.size) :
  Instr.fill place cells ((i,v)::rest)=Instr.fill place (cells.toList.take off++v.cells.toList++cells.toList.drop (off+v.cells.size)).toArray rest:=by
 obtain ⟨g1,g2⟩:=Go.Great.foldl_set off v.cells.toList 0 cells;have e:(v.cells.toList.zipIdx 0).foldl (fun cs (x:Value × Nat)=>cs.setIfInBounds (off+x.2) x.1) cells=(cells.toList.take off++v.cells.toList++cells.toList.drop (off+v.cells.size)).toArray:=by
  apply Array.ext_getElem?;intro k;rw [g2 k];simp only [Nat.add_zero,Array.length_toList,List.getElem?_toArray];by_cases h1:k < off
  ·rw [if_neg om,Tbf,Tbp (by simp;omega),List.getElem?_take,if_pos h1];simp
  ·by_cases h2:k < off+v.cells.size
   ·rw [if_pos om,Tbf,Tbq (by simp;omega),Tbp (by simp;omega)];simp only [Taw,Array.length_toList];congr 1;omega
   ·rw [if_neg om,Tbq (by simp;omega),Tbb];simp only [Tae,Taw,Array.length_toList,Array.getElem?_toList];congr 1;omega
 rw [<- e]
 conv=>lhs;unfold Instr.fill
 simp only [hp];rw [if_neg (by simp;omega)];congr 1;rw [<- Array.foldl_toList];congr 1;simp
theorem ZkP {P:Program} {t:TypeId} {place:Nat->Option (Nat × Nat)} (hpl:∀ f off ft n,offT P t f=some (off,ft)->Zbi P ft=some n->place f=some (off,n)):∀ {ps:List (Nat × A)} {cs cs':List C} {vs:List (Nat × Value)} {cells:Array Value},Zc4 P t cs ps=some cs' ->
  Zad w S cs cells.toList->cs.all Zau=true->vs.map (·.1)=ps.map (·.1)->(∀ (i:Nat) (x:Nat × A) (v:Nat × Value),ps[i]?=some x->vs[i]?=some v->ARel w S L x.2 v.2) ->
  ∃ cells':Array Value,Instr.fill place cells vs=some cells'∧Zad w S cs' cells'.toList∧cs'.all Zau=true
 | [],cs,cs',vs,cells,h,hr,hok,hv,_=>by
  simp [Zc4] at h;subst h;have:vs=[]:=by simpa using hv
  subst this;exact ⟨cells,rfl,hr,hok⟩
 | (f,x)::ps,cs,cs',[],cells,h,hr,hok,hv,_=>by simp at hv
 | (f,x)::ps,cs,cs',(f',v)::vs,cells,h,hr,hok,hv,ha=>by
  simp only [Tbu,List.cons.injEq] at hv;obtain ⟨rfl,hv⟩:=hv;simp only [Zc4] at h;split at h
  ·rename_i off ft us ho hcs;split at h
   ·rename_i hsz;obtain ⟨c1,c2⟩:=Zem hcs (ha 0 (f',x) (f',v) (by simp) (by simp));have hvl:v.cells.size=us.length:=by rw [<- c1.len,Array.length_toList]
    have hcl:=hr.len;simp only [Array.length_toList] at hcl;have hp:=hpl f' off ft us.length ho hsz.1;rw [<- hvl] at hp;rw [ZtS hp om];refine ZkP hpl h ?_ ?_ hv (fun i y u hy hu=>ha (i+1) y u (by simpa using hy) (by simpa using hu))
    ·simp only;rw [hvl];exact Zad.app (Zad.app (hr.take off) c1) (hr.drop (off+us.length))
    ·simp only [List.all_append,c2,Tar,and_true];exact ⟨List.all_eq_true.2 fun y hy=>List.all_eq_true.1 hok y (List.mem_of_mem_take hy),List.all_eq_true.2 fun y hy=>List.all_eq_true.1 hok y (List.mem_of_mem_drop hy)⟩
   ·cases h
  ·cases h
theorem Zb9:∀ (l:List Value),Zad w S (l.map toC) l
 | []=>by simp [Zad]
 | v::l=>by
  simp only [Tbu,Zad];refine ⟨?_,Zb9 l⟩;unfold toC;split
  ·simp only [Rep];exact ⟨none,0,0,rfl,rfl,Tai _,by decide,fun h=>absurd h (by decide)⟩
  ·simp [Rep]
theorem ZcV {P:Program} {t:TypeId} {ety sz by':Nat} (h:Zbj P t=some (ety,sz,by')):∃ i z,P.underlying t=some (.slice ety)∧P.info? ety=some i∧i.zero=some z∧i.size=sz∧i.bytes=by'∧z.cells.size=sz∧0 < sz∧by'<=4096:=by
 unfold Zbj at h;split at h
 ·rename_i e' hu;split at h
  ·rename_i i hi;split at h
   ·rename_i z hz;split at h
    ·rename_i hc;simp only [Taq,Prod.mk.injEq] at h;obtain ⟨rfl,rfl,rfl⟩:=h;exact ⟨i,z,hu,hi,hz,rfl,rfl,hc.1,hc.2.1,hc.2.2⟩
    ·cases h
   ·cases h
  ·cases h
 ·cases h
theorem mapv {ps:List (Nat × Operand)} {ρ:Operand->A} {ρv:Operand->Value} (hr:∀ p∈ps,ARel w S L (ρ p.2) (ρv p.2)) (i:Nat) (x:Nat × A) (v:Value) (h1:(ps.map fun p=>(p.1,ρ p.2))[i]?=some x) (h2:(ps.map fun p=>ρv p.2)[i]?=some v):ARel w S L x.2 v:=by
 simp only [Tba,Tav] at h1 h2;obtain ⟨p,hp,rfl⟩:=h1;obtain ⟨q,hq,rfl⟩:=h2;rw [hp] at hq;injection hq with hq
 subst hq;exact hr p (Tac hp)
theorem ZBK {ps:List (Nat × Operand)} {ρ:Operand->A} {ρv:Operand->Value} (hr:∀ p∈ps,ARel w S L (ρ p.2) (ρv p.2)) (i:Nat) (x:Nat × A) (v:Nat × Value) (h1:(ps.map fun p=>(p.1,ρ p.2))[i]?=some x) (h2:(ps.map fun p=>(p.1,ρv p.2))[i]?=some v):ARel w S L x.2 v.2:=by
 simp only [Tba,Tav] at h1 h2;obtain ⟨p,hp,rfl⟩:=h1;obtain ⟨q,hq,rfl⟩:=h2;rw [hp] at hq;injection hq with hq
 subst hq;exact hr p (Tac hp)
theorem mapx {ps:List Operand} {ρ:Operand->A} {ρv:Operand->Value} (hr:∀ p∈ps,ARel w S L (ρ p) (ρv p)) (i:Nat) (x:A) (v:Value) (h1:(ps.map ρ)[i]?=some x) (h2:(ps.map ρv)[i]?=some v):ARel w S L x v:=by
 simp only [Tba,Tav] at h1 h2;obtain ⟨p,hp,rfl⟩:=h1;obtain ⟨q,hq,rfl⟩:=h2;rw [hp] at hq;injection hq with hq
 subst hq;exact hr p (Tac hp)
end
section
variable {e:Env} {U:Nat->Prop} {base:Nat} {S0:Nat->Prop} {m:List (Nat × Bk)} {o:Oper} {ρ:Operand->A} {α:A}
theorem ZsK {t:TypeId} {x:Operand} (ho:o.op=.load t x) (h:Zev (Za8 e.P t) (ptrA m (nrm m (ρ x)))=some α):ZaW e U base S0 m o ρ α:=by
 unfold Zev at h;split at h
 ·rename_i k cs hk hp;refine ZaD fun w S L ρv hC hr=>?_;obtain ⟨v,h1,h2⟩:=Zmz hC hp (Zcp hC (hr x (by simp [ho,Op.operands]))) hk h;exact ⟨v,by simp [execOp,ho,h1],h2⟩
 ·cases h
theorem ZkQ {t:TypeId} {x:Operand} {f:Nat} (ho:o.op=.fieldAddr t x f) (h:Zc9 (ρ x) (offT e.P t f)=some α):ZaW e U base S0 m o ρ α:=by
 unfold Zc9 at h;split at h
 ·rename_i n ft hk;refine ZaD fun w S L ρv hC hr=>?_;have h1:=hr x (by simp [ho,Op.operands]);split at h
  ·rename_i cs hx;injection h with h;subst h
   rw [hx] at h1;simp only [ARel,DRel,Rep] at h1;obtain ⟨b,off,hv',hs,hb,hrow⟩:=h1;refine ⟨.pointer (some ⟨b,off+n,none⟩),by simp [execOp,ho,hv',Zfr hk],?_⟩;simp only [ARel,DRel,Rep];exact ⟨b,off+n,rfl,hs,hb,hrow.drop n⟩
  ·rename_i k off hx;injection h with h;subst h
   rw [hx] at h1;have h1:ρv x=.pointer (some ⟨L.b k,off,none⟩):=h1;exact ⟨_,by simp [execOp,ho,h1,Zfr hk],rfl⟩
  ·rename_i k j sz off hx;injection h with h;subst h
   rw [hx] at h1;obtain ⟨g,hg,h1⟩:=h1;exact ⟨.pointer (some ⟨g,j * sz+(off+n),none⟩),by simp [execOp,ho,h1,Zfr hk,Nat.add_assoc],g,hg,rfl⟩
  ·rename_i b off hx;injection h with h;subst h
   rw [hx] at h1;have h1:=Zbk h1;exact ⟨.pointer (some ⟨b,off+n,none⟩),by simp [execOp,ho,h1,Zfr hk],by simp [ARel,DRel,Rep]⟩
  ·cases h
 ·cases h
theorem ZpV {t:TypeId} {x:Operand} {f:Nat} (ho:o.op=.field t x f) (h:Zix e.P (ρ x) (offT e.P t f)=some α):ZaW e U base S0 m o ρ α:=by
 unfold Zix at h;split at h
 ·rename_i n ft hk;split at h
  ·rename_i cs hx;unfold Zev at h;split at h
   ·rename_i k cs' hk2 hp;injection hp with hp;subst hp
    refine ZaD fun w S L ρv hC hr=>?_;have h1:=hr x (by simp [ho,Op.operands]);rw [hx] at h1;obtain ⟨vs,hv',hrow⟩:=h1;obtain ⟨v,h2,h3⟩:=ZxC (Bm:=L) hk2 hrow h;unfold offT at hk;split at hk
    ·rename_i fs hu;split at hk
     ·rename_i g hg;split at hk
      ·split at hk
       ·cases hk
       ·injection hk with hk
        injection hk with e1 e2
        subst e1 e2;exact ⟨v,by simp [execOp,ho,hv',Instr.field,underlying,hu,hg,asAgg,h2,Result.andThen],h3⟩
      ·cases hk
     ·cases hk
    ·cases hk
   ·cases h
  ·cases h
 ·cases h
theorem ZkR {t:TypeId} {x i:Operand} (ho:o.op=.indexAddr t x i) (h:ZdC m (ZbL e.P t) (nrm m (ρ x)) (ρ i)=some α):ZaW e U base S0 m o ρ α:=by
 have data:∀ (rows:List (List C)) (n:Nat) (k:IntKind) (j:Int),ZbL e.P t=some n->ρ i=.d (.one (.lit (.int k j)))->(if 0<=j then if ZaI n rows=true then eltA rows[j.toNat]? else none else none)=some α ->
   ∀ (w:World) (S:Nat->Prop) (L:Lay) (ρv:Operand->Value),Rep w S (.sl rows) (ρv x)->ARel w S L (ρ i) (ρv i)->∃ v,(execOp ρv o).run e.P w=.ok (.value v) w∧ARel w S L α v:=by
  intro rows n k j hn hi h w S L ρv hx hi';split at h
  ·rename_i hj;split at h
   ·rename_i hrb;unfold eltA at h;split at h
    ·rename_i r hrow;injection h with h;subst h
     rw [hi] at hi';have hi':=Zbk hi';obtain ⟨v,h5,h6⟩:=ZpU (Bm:=L) (k:=k) hn hj (ZeM.1 hrb) hrow hx;exact ⟨v,by simp [execOp,ho,hi',h5],h6⟩
    ·cases h
   ·cases h
  ·cases h
 unfold ZdC at h;split at h
 ·rename_i n k kk j hn hx hi;unfold ZkK at h;split at h
  ·rename_i o' e' sz rows hm;split at h
   ·rename_i hsz;split at h
    ·rename_i hj;split at h
     ·rename_i hlt;injection h with h;subst h
      refine ZaD fun w S L ρv hC hr=>?_;have hx':=Zcp hC (hr x (by simp [ho,Op.operands]));have hi':=hr i (by simp [ho,Op.operands]);rw [hx] at hx';rw [hi] at hi';have hi':=Zbk hi';have hx':ρv x=L.v k:=hx';obtain ⟨_,_,_,h4⟩:=hC.own k _ hm;rcases h4 with ⟨h4,_⟩ | ⟨g,cap,cur,hv,hcp,_⟩
      ·rw [h4] at hlt;simp at hlt
      ·refine ⟨.pointer (some ⟨g,j.toNat * n,none⟩),?_,g,?_,by rw [hsz];rfl⟩
       ·simp [execOp,ho,hi',hx',hv,Ziz hn hj hlt]
       ·rw [hv];simp only [vblk];rw [if_neg om]
     ·cases h
    ·cases h
   ·cases h
  ·cases h
 ·rename_i n rows kk j hn hx hi;refine ZaD fun w S L ρv hC hr=>?_;have hx':=Zcp hC (hr x (by simp [ho,Op.operands]));rw [hx] at hx';exact data rows n kk j hn hi h w S L ρv hx' (hr i (by simp [ho,Op.operands]))
 ·rename_i n rows kk j hn hx hi;refine ZaD fun w S L ρv hC hr=>?_;have hx':=Zcp hC (hr x (by simp [ho,Op.operands]));rw [hx] at hx';exact data rows n kk j hn hi h w S L ρv hx'.1 (hr i (by simp [ho,Op.operands]))
 ·cases h
theorem ZpW {t:TypeId} {x i:Operand} (ho:o.op=.index t x i) (h:Ziy (e.P.underlying t) (ρ x) (ρ i)=some α):ZaW e U base S0 m o ρ α:=by
 unfold Ziy at h;split at h
 ·rename_i s k j hk hx hi;split at h
  ·rename_i h1;unfold ZnU at h;split at h
   ·rename_i b h3;injection h with h;subst h
    refine ZaD fun w S L ρv hC hr=>?_;have hx':=hr x (by simp [ho,Op.operands]);have hi':=hr i (by simp [ho,Op.operands]);rw [hx] at hx';rw [hi] at hi';have hi':=Zbk hi';have hx':=Zbk hx';exact ⟨.int .u8 b.toNat,by simp [execOp,ho,hi',hx',Instr.index,asIntOf,underlying,hk,h1,h3,Result.andThen],by simp [ARel,DRel,Rep]⟩
   ·cases h
  ·cases h
 ·cases h
theorem ZpX {op:BinOp} {t t':TypeId} {x y:Operand} (ho:o.op=.binOp op t x y t') (h:binA e.P t op (ρ x) (ρ y)=some α):ZaW e U base S0 m o ρ α:=by
 unfold binA at h;split at h
 ·rename_i a b hx hy;unfold litA at h;split at h
  ·rename_i v hv;injection h with h;subst h
   refine ZaD fun w S L ρv hC hr=>?_;have hx':=hr x (by simp [ho,Op.operands]);have hy':=hr y (by simp [ho,Op.operands]);rw [hx] at hx';rw [hy] at hy';have hx':=Zbk hx';have hy':=Zbk hy';have hb:=Zod (P:=e.P) (t:=t) (x:=x) (y:=y) hv w;exact ⟨v,by simp only [execOp,ho,hx',hy'];rw [Sem.run_bind,hb];rfl,by simp [ARel,DRel,Rep]⟩
  ·cases h
 ·cases h
theorem ZsL {op:UnOp} {t:TypeId} {x:Operand} (ho:o.op=.unOp op t x) (h:unA op (ρ x)=some α):ZaW e U base S0 m o ρ α:=by
 unfold unA at h;split at h
 ·rename_i a hx;unfold litA at h;split at h
  ·rename_i v hv;injection h with h;subst h
   refine ZaD fun w S L ρv hC hr=>?_;have hx':=hr x (by simp [ho,Op.operands]);rw [hx] at hx';have hx':=Zbk hx';exact ⟨v,by simp only [execOp,ho,hx'];rw [Sem.run_bind,ZAr hv];rfl,by simp [ARel,DRel,Rep]⟩
  ·cases h
 ·cases h
theorem ZnC {x:Operand} {i:Nat} (ho:o.op=.extract x i) (h:Zgo i (ρ x)=some α):ZaW e U base S0 m o ρ α:=by
 unfold Zgo at h;split at h
 ·rename_i xs hx;unfold dA at h;split at h
  ·rename_i r hi;injection h with h;subst h
   refine ZaD fun w S L ρv hC hr=>?_;have hx':=hr x (by simp [ho,Op.operands]);rw [hx] at hx';obtain ⟨vs,hv,hd⟩:=hx';obtain ⟨v,h1,h2⟩:=hd.get hi;exact ⟨v,by simp [execOp,ho,hv,Instr.extract,h1,Result.andThen],h2⟩
  ·cases h
 ·cases h
theorem Zl9 {x:Operand} (ho:o.op=.nilCheck x) (h:nilA (ρ x)=some α):ZaW e U base S0 m o ρ α:=by
 unfold nilA at h;split at h
 ·rename_i cs hx;injection h with h;subst h
  refine ZaD fun w S L ρv hC hr=>?_;have hx':=hr x (by simp [ho,Op.operands]);rw [hx] at hx';have hx2:=hx';simp only [ARel,DRel,Rep] at hx2;obtain ⟨b,off,hv,hr'⟩:=hx2;exact ⟨ρv x,by simp [execOp,ho,hv],hx'⟩
 ·rename_i f cs hx;injection h with h;subst h
  refine ZaD fun w S L ρv hC hr=>?_;have hx':=hr x (by simp [ho,Op.operands]);rw [hx] at hx';have hx2:=hx';simp only [ARel,DRel,Rep] at hx2;obtain ⟨us,hv,hr'⟩:=hx2;exact ⟨ρv x,by simp [execOp,ho,hv],hx'⟩
 ·rename_i k off hx;injection h with h;subst h
  refine ZaD fun w S L ρv hC hr=>?_;have hx':=hr x (by simp [ho,Op.operands]);rw [hx] at hx';have hx2:ρv x=.pointer (some ⟨L.b k,off,none⟩):=hx';exact ⟨ρv x,by simp [execOp,ho,hx2],hx'⟩
 ·rename_i p hx;injection h with h;subst h
  refine ZaD fun w S L ρv hC hr=>?_;have hx':=hr x (by simp [ho,Op.operands]);rw [hx] at hx';have hx2:=Zbk hx';exact ⟨ρv x,by simp [execOp,ho,hx2],hx'⟩
 ·cases h
theorem ZnD {s d:TypeId} {x:Operand} (ho:o.op=.convert s d x) (h:Zjk e.P s d (ρ x)=some α):ZaW e U base S0 m o ρ α:=by
 unfold Zjk at h;split at h
 ·rename_i k0 n hx;split at h
  ·rename_i d1 k h1 h2;injection h with h;subst h
   refine ZaD fun w S L ρv hC hr=>?_;have hx':=hr x (by simp [ho,Op.operands]);rw [hx] at hx';have hx':=Zbk hx';unfold ZdB at h2;split at h2
   ·rename_i k' hk;injection h2 with h2;subst h2
    refine ⟨.int k' (k'.wrap n),?_,by simp [ARel,DRel,Rep]⟩;simp [execOp,ho,hx',convert,underlying,h1,hk,Conv.intToInt,Result.andThen]
   ·cases h2
  ·cases h
 ·cases h
theorem ZkS {P:Program} {w:World}:∀ (l:List Field),(∀ f∈l,(P.info? f.type).isSome)->∃ ps:List (Nat × Nat),(l.mapM (m:=Sem) fun (f:Field)=>do pure (f.offset,<- sizeOf f.type)).run P w=.ok ps w∧∀ (i:Nat) (f:Field) (n:Nat),l[i]?=some f->Zbi P f.type=some n->ps[i]?=some (f.offset,n)
 | [],_=>⟨[],by simp,by simp⟩
 | f::l,h=>by
  obtain ⟨ps,h1,h2⟩:=ZkS l (fun g hg=>h g (by simp [hg]));obtain ⟨i0,hi0⟩:=Option.isSome_iff_exists.1 (h f (by simp));refine ⟨(f.offset,i0.size)::ps,?_,?_⟩
  ·rw [List.mapM_cons];have hs:(sizeOf f.type).run P w=.ok i0.size w:=by simp [sizeOf,typeInfo,hi0,Result.andThen]
   simp only [Sem.run_bind,hs,Result.andThen_ok,Sem.run_pure];rw [h1];simp
  ·intro i g n hg hn
   cases i with
   | zero=>simp at hg;subst hg;simp [Zbi,hi0] at hn;simp [hn]
   | succ i=>simpa using h2 i g n (by simpa using hg) hn
theorem ZiA {t:TypeId} {parts:Array (Nat × Operand)} (ho:o.op=.build t parts) {i:TypeInfo} {v:Value} {cs cs':List C} (hi:e.P.info? t=some i) (hv:i.zero=some v) (hst:Zbv e.P t=true) (hok:cs.all Zau=true) (hrep:∀ (w:World) (S:Nat->Prop),Zad w S cs v.cells.toList)
  (hf:Zc4 e.P t cs (parts.toList.map fun p=>(p.1,ρ p.2))=some cs'):ZaW e U base S0 m o ρ (.d (.agg cs')):=by
 refine ZaD fun w S L ρv hC hr=>?_;unfold Zbv at hst;split at hst
 ·rename_i fs hu;obtain ⟨ps,hp1,hp2⟩:=ZkS (P:=e.P) (w:=w) fs.toList (fun f hf=>List.all_eq_true.1 hst f hf);have hpl:∀ f off ft n,offT e.P t f=some (off,ft)->Zbi e.P ft=some n->(fun i=>ps.toArray[i]?) f=some (off,n):=by
   intro f off ft n ho hn;unfold offT at ho;rw [hu] at ho;simp only at ho;split at ho
   ·rename_i g hg;split at ho
    ·split at ho
     ·cases ho
     ·simp only [Taq,Prod.mk.injEq] at ho;obtain ⟨rfl,rfl⟩:=ho;simpa using hp2 f g n (by simpa using hg) hn
    ·cases ho
   ·cases ho
  obtain ⟨cells',hc1,hc2,hc3⟩:=ZkP (w:=w) (S:=S) (L:=L) (place:=fun i=>ps.toArray[i]?) hpl (vs:=parts.toList.map fun p=>(p.1,ρv p.2)) (cells:=v.cells) hf (hrep w S) hok (by simp) (ZBK (fun p hp=>hr p.2 (by simp [ho,Op.operands];exact ⟨p.1,by simpa using hp⟩)));refine ⟨.agg cells',?_,cells'.toList,by simp,hc2⟩;have hm:(fs.mapM (m:=Sem) fun (f:Field)=>do pure (f.offset,<- sizeOf f.type)).run e.P w=.ok ps.toArray w:=by
   rw [Array.mapM_eq_mapM_toList];simp only [Sem.run_map,hp1,Result.andThen_ok]
  have hc1':Instr.fill (fun x=>ps.toArray[x]?) v.cells (parts.map fun (p:Nat × Operand)=>(p.1,ρv p.2)).toList=some cells':=by
   rw [Array.toList_map];exact hc1
  have hb:(Instr.build t (parts.map fun (p:Nat × Operand)=>(p.1,ρv p.2))).run e.P w=.ok (.agg cells') w:=by
   unfold Instr.build;simp only [Sem.run_bind,zeroValue,typeInfo,Sem.run_pure,Result.andThen_ok,run_program,hi,hv,underlying,hu];rw [hm];simp only [Result.andThen_ok,hc1',Sem.run_pure]
  simp only [execOp,ho,Sem.run_bind];have e1:(parts.map fun x=>match x with | (i,x)=>(i,ρv x))=parts.map fun (p:Nat × Operand)=>(p.1,ρv p.2):=rfl;rw [e1,hb];rfl
 ·cases hst
theorem ZpY {t:TypeId} {parts:Array (Nat × Operand)} (ho:o.op=.build t parts) (h:Zhw e.P t (parts.toList.map fun p=>(p.1,ρ p.2))=some α):ZaW e U base S0 m o ρ α:=by
 unfold Zhw at h;split at h
 ·rename_i cs hst hz;split at h
  ·rename_i hok;unfold aggA at h;split at h
   ·rename_i cs' hf;injection h with h;subst h
    unfold Za3 at hz;simp only [Tav,Option.bind_eq_some_iff] at hz;obtain ⟨v,⟨i,hi,hv⟩,rfl⟩:=hz;exact ZiA ho hi hv hst hok (fun w S=>Zb9 v.cells.toList) hf
   ·cases h
  ·cases h
 ·cases h
def ZdD (P:Program) (t:TypeId):Option (List C):=((P.info? t).bind (·.zero)).map fun v=>v.cells.toList.map .lit
theorem Zgp {w:World} {S:Nat->Prop}:∀ (l:List Value),Zad w S (l.map .lit) l
 | []=>by simp [Zad]
 | v::vs=>by simp only [Tbu,Zad,Rep];exact ⟨trivial,Zgp vs⟩
theorem ZiB:∀ (l:List (Nat × Value)) (i:Nat),l.map (·.1)=List.range' i l.length->l=((l.map (·.2)).zipIdx i).map fun x=>(x.2,x.1)
 | [],i,_=>rfl
 | (j,v)::l,i,h=>by
  simp only [Tbu,Tag,List.range'_succ,List.cons.injEq] at h;obtain ⟨rfl,h2⟩:=h;simp only [Tbu,List.zipIdx_cons];rw [<- ZiB l (j+1) h2]
theorem Zki {t:TypeId} {n:Nat} {parts:Array (Nat × Operand)} (ho:o.op=.buildSlice t n parts) (h:Zel (Zbj e.P t) n (parts.toList.map fun p=>(p.1,ρ p.2))=some α) (he:e.Ok):ZaW e U base S0 m o ρ α:=by
 unfold Zel at h;split at h
 ·rename_i ety sz by' hb;split at h
  ·rename_i hn;unfold ZnV at h;split at h
   ·rename_i rows hp;injection h with h;subst h
    intro w S L ρv hC hr;obtain ⟨i,z,hu,hi,hz,hsz,hby,hzs,hs0,_⟩:=ZcV hb;simp only [Tay,Array.length_toList] at hn;obtain ⟨q1,q2,q3,q4,q5⟩:=Zg9 (w:=w) (S:=S) (L:=L) (vs:=parts.toList.map fun p=>ρv p.2) hp (by simp) (mapv (fun p hp=>hr p.2 (by simp [ho,Op.operands];exact ⟨p.1,by simpa using hp⟩)));simp only [Tay,Array.length_toList,List.map_map] at q1 q3;generalize hvs:(parts.toList.map fun p=>ρv p.2)=vs at q4 q5
    have hvl:vs.length=n:=by rw [<- hvs];simp [hn.1]
    have hparts:(parts.map fun (p:Nat × Operand)=>(p.1,ρv p.2)).toList=(vs.zipIdx 0).map fun x=>(x.2,x.1):=by
     have:=ZiB (parts.map fun (p:Nat × Operand)=>(p.1,ρv p.2)).toList 0 (by simpa [Function.comp_def] using q3);rw [this,<- hvs];simp [Function.comp_def]
    have hbs:(Instr.buildSlice t n (parts.map fun (p:Nat × Operand)=>(p.1,ρv p.2))).run e.P w=.ok (.slice (some ⟨w.heap.size,0,none⟩) n n) (w.alloc (.cells (vs.flatMap fun v=>v.cells.toList).toArray ety)):=by
     by_cases h0:n * i.size=0
     ·have hn0:n=0:=by rw [hsz] at h0;rcases Nat.mul_eq_zero.1 h0 with h | h <;> omega
      have hvn:vs=[]:=Tao om;have hpe:(parts.map fun (p:Nat × Operand)=>(p.1,ρv p.2)).toList=[]:=by rw [hparts,hvn];rfl
      have hsm:¬ (16777216 < n * i.size):=om;simp only [Instr.buildSlice,Sem.run_bind,underlying,run_program,Result.andThen_ok,hu,Sem.run_pure,sizeOf,typeInfo,hi,hpe];subst hn0;simp [Instr.fill,newRow,hvn,Result.andThen,Array.range_zero']
     ·have hfill:=Go.Great.fill_whole hs0 vs ((Array.range (n * i.size)).map (z.cells[· % z.cells.size]!)) q4 (by simp [hvl,hsz]);refine run_buildSlice w t ety n _ _ i z hu hi hz (by rw [hsz];omega) h0 ?_;rw [hparts,hsz] at *;exact hfill
    have hcell:∀ j u,(vs.flatMap fun v=>v.cells.toList)[j]?=some u->(w.alloc (.cells (vs.flatMap fun v=>v.cells.toList).toArray ety)).cell? ⟨w.heap.size,0+j,none⟩=some u:=fun j u hj=>by
     rw [Nat.zero_add];exact Zl6 rfl (by simpa using hj)
    have hb0:Below w.heap.size w (w.alloc (.cells (vs.flatMap fun v=>v.cells.toList).toArray ety)):=ZdW w _;generalize hW:w.alloc (.cells (vs.flatMap fun v=>v.cells.toList).toArray ety)=W at hbs hcell hb0;have hzW:W.heap.size=w.heap.size+1:=by rw [<- hW];simp
    have hg:e.G W:=he.keep _ _ hb0.size (fun b hE=>hb0.block b (Tbd (hC.ein b hE) hC.bsz)) hC.g;have hkp:Kept e.D e.E w.heap.size w W:=Kept.of_below hb0 (fun _=>by rw [<- hW];exact Tai _);have hC':Cls e U base S0 m W (fun b=>S b∨(w.heap.size<=b∧b < W.heap.size)) L:=hC.later hkp hg (fun _ h=>.inl h) (fun _ h=>h);have hq5:Zad W (fun b=>S b∨(w.heap.size<=b∧b < W.heap.size)) rows.flatten (vs.flatMap fun v=>v.cells.toList):=Zad.keep2 hkp.size (hC.cell hkp) (fun _ h=>.inl h) q5
    have hrun:(execOp ρv o).run e.P w=.ok (.value (.slice (some ⟨w.heap.size,0,none⟩) n n)) W:=by
     simp only [execOp,ho,Sem.run_bind];have e1:(parts.map fun x=>match x with | (i,x)=>(i,ρv x))=parts.map fun (p:Nat × Operand)=>(p.1,ρv p.2):=rfl;rw [e1,hbs];rfl
    unfold gives;rw [hrun];refine ⟨_,⟨fun _ h=>.inl h,fun _ h=>h.elim .inl (fun q=>.inr q.1)⟩,hC',hkp,?_⟩;simp only [ARel,DRel,Rep];refine ⟨⟨some ⟨w.heap.size,0,none⟩,n,n,rfl,om,Tai _,?_,fun h0=>⟨w.heap.size,0,rfl,.inr ⟨Tai _,om⟩,om,?_⟩⟩,_,_,rfl⟩
    ·have:n * 1<=n * sz:=Nat.mul_le_mul_left n hs0;unfold maxLen;omega
    ·exact Zap.of_flat (Zaj.of_vals _ _ 0 hq5 hcell)
   ·cases h
  ·cases h
 ·cases h
theorem ZhU {w:World} {S:Nat->Prop} {L:Lay} {ρv:Operand->Value} {x:Option Operand} {l:Int} (h:loA (x.map ρ)=some l) (hr:∀ y,x=some y->ARel w S L (ρ y) (ρv y)):(x=none∧l=0)∨(x.map ρv=some (.int .i64 l)):=by
 cases x with
 | none=>simp [loA] at h;exact .inl ⟨rfl,h.symm⟩
 | some y =>
  simp only [Option.map_some,loA] at h;unfold intA at h;split at h
  ·rename_i j hj;injection h with h;subst h
   have:=hr y rfl;rw [hj] at this;exact .inr (by simp [Zbk this])
  ·cases h
theorem ZhV {w:World} {S:Nat->Prop} {L:Lay} {ρv:Operand->Value} {x:Option Operand} {l:Int} {n:Nat} (h:hiA n (x.map ρ)=some l) (hr:∀ y,x=some y->ARel w S L (ρ y) (ρv y)):(x=none∧l=n)∨(x.map ρv=some (.int .i64 l)):=by
 cases x with
 | none=>simp [hiA] at h;exact .inl ⟨rfl,h.symm⟩
 | some y =>
  simp only [Option.map_some,hiA] at h;unfold intA at h;split at h
  ·rename_i j hj;injection h with h;subst h
   have:=hr y rfl;rw [hj] at this;exact .inr (by simp [Zbk this])
  ·cases h
theorem Zap.sub {w:World} {S:Nat->Prop} {b n off:Nat} {rows:List (List C)} (hl:rowsLen n rows) (h:Zap w S b off rows) (l k:Nat):Zap w S b (off+l * n) ((rows.take k).drop l):=by
 by_cases hlk:l < rows.length
 ·have e1:=Zb5 hl;have h1:=h.flat;have e2:rows.flatten.drop (l * n)=(rows.drop l).flatten:=by
   have:rows.flatten=(rows.take l).flatten++(rows.drop l).flatten:=by rw [<- List.flatten_append,Tbm]
   have hl2:(rows.take l).flatten.length=l * n:=by rw [Zb5 (n:=n) (fun x hx=>hl x (List.mem_of_mem_take hx)),Taw];congr 1;omega
   rw [this,<- hl2,List.drop_left]
  have h2:=h1.drop (l * n);rw [e2] at h2;have h3:Zap w S b (off+l * n) (rows.drop l):=Zap.of_flat h2;rw [List.drop_take];have:∀ (rs:List (List C)) (o k:Nat),Zap w S b o rs->Zap w S b o (rs.take k):=by
   intro rs
   induction rs with
   | nil=>intro o k h;simp [Zap]
   | cons r rs ih =>
    intro o k h
    cases k with
    | zero=>simp [Zap]
    | succ k=>simp only [Zap,Tbc] at h ⊢;exact ⟨h.1,ih _ k h.2⟩
  exact this _ _ _ h3
 ·have:(rows.take k).drop l=[]:=by apply List.drop_eq_nil_of_le;simp;omega
  rw [this];simp [Zap]
theorem ZpZ {t:TypeId} {x:Operand} {lo hi mx:Option Operand} (ho:o.op=.slice t x lo hi mx) (h:Zfb e.P t (ρ x) (lo.map ρ) (hi.map ρ) (mx.map ρ)=some α):ZaW e U base S0 m o ρ α:=by
 have hx0:x∈o.op.operands:=by simp [ho,Op.operands]
 have hlo0:∀ y,lo=some y->y∈o.op.operands:=fun y hy=>by simp [ho,Op.operands,hy]
 have hhi0:∀ y,hi=some y->y∈o.op.operands:=fun y hy=>by simp [ho,Op.operands,hy]
 have hmx0:∀ y,mx=some y->y∈o.op.operands:=fun y hy=>by simp [ho,Op.operands,hy]
 unfold Zfb at h;split at h
 ·rename_i n hn;split at h
  ·rename_i rows hx;split at h
   ·rename_i hrb;unfold dA at h;split at h
    ·rename_i D hD;injection h with h;subst h
     refine ZaD fun w S L ρv hC hr=>?_;have hx':=hr x hx0;have hrep:Rep w S (.sl rows) (ρv x):=by
      unfold Zgn at hx;split at hx
      ·rename_i r hq;injection hx with hx;subst hx;rw [hq] at hx';exact hx'
      ·rename_i r hq;injection hx with hx;subst hx;rw [hq] at hx';exact hx'.1
      ·cases hx
     have hel:∃ ety i,e.P.underlying t=some (.slice ety)∧e.P.info? ety=some i∧i.size=n:=by
      unfold ZbL at hn;split at hn
      ·rename_i ety hu;simp only [Tav] at hn;obtain ⟨i,hi,hs⟩:=hn;exact ⟨ety,i,hu,hi,hs⟩
      ·cases hn
     obtain ⟨ety,i,hu,hi',hsz⟩:=hel;simp only [Rep] at hrep;obtain ⟨a,len,cap,hv,hlen,hc,hm,h4⟩:=hrep;have hrl:=ZeM.1 hrb.1;have key:∀ (l hh mm:Nat),l<=hh->hh<=rows.length->hh<=mm->mm<=cap->Rep w S (.sl ((rows.take hh).drop l)) (sliced a l hh mm n):=by
      intro l hh mm k1 k2 k3 k4;simp only [Rep,sliced];refine ⟨_,_,_,rfl,by simp;omega,om,om,fun h0=>?_⟩;obtain ⟨b,off,rfl,hs,hb,hrows⟩:=h4 om;refine ⟨b,off+l * n,?_,hs,hb,hrows.sub hrl l hh⟩;rw [if_neg om];simp [Addr.add_at]
     have hlo:=fun l (hq:loA (lo.map ρ)=some l)=>ZhU (w:=w) (S:=S) (L:=L) (ρv:=ρv) hq (fun y hy=>hr y (hlo0 y hy));have hhi:=fun l (hq:hiA rows.length (hi.map ρ)=some l)=>ZhV (w:=w) (S:=S) (L:=L) (ρv:=ρv) hq (fun y hy=>hr y (hhi0 y hy));unfold Zhv at hD;split at hD
     ·rename_i l hh q1 q2 q3;split at hD
      ·rename_i hb;injection hD with hD;subst hD
       have hmn:mx=none:=by simpa using q3
       refine ⟨sliced a l.toNat hh.toNat cap n,?_,key l.toNat hh.toNat cap om om om (Tai _)⟩;have hbnd:(Instr.sliceBounds true len cap (lo.map ρv) (hi.map ρv) (mx.map ρv)).run e.P w=.ok (l.toNat,hh.toNat,cap) w:=by
        subst hmn;have eh:(hh.toNat:Int)=hh:=Int.toNat_of_nonneg om;have b1:0<=hh:=om;have b2:hh<=(cap:Int):=om;have b3:0<=l:=hb.1;have b4:l<=hh:=hb.2.1;rcases hlo l q1 with ⟨rfl,rfl⟩ | e1 <;> rcases hhi hh q2 with ⟨rfl,e2⟩ | e2
        ·simp [Instr.sliceBounds,e2,Result.andThen,hlen]
        ·simp [Instr.sliceBounds,e2,Result.andThen,run_sliceBound,b1,b2]
        ·have b5:l<=(len:Int):=om;simp [Instr.sliceBounds,e1,e2,Result.andThen,run_sliceBound,b3,b5,hlen]
        ·simp [Instr.sliceBounds,e1,e2,Result.andThen,run_sliceBound,b1,b2,b3,b4,eh]
       simp only [execOp,ho,Sem.run_bind,hv,Instr.sliceAt,Instr.slice,underlying,run_program,Result.andThen_ok,hu,Sem.run_pure,hbnd,sizeOf,typeInfo,hi',hsz,sliced]
      ·cases hD
     ·rename_i l hh mm q1 q2 q3;split at hD
      ·rename_i hb;injection hD with hD;subst hD
       have hmh:mm=hh:=hb.2.2.2;subst hmh;rename_i mm;refine ⟨sliced a l.toNat mm.toNat mm.toNat n,?_,key l.toNat mm.toNat mm.toNat om om (Tai _) om,_,_,rfl⟩;have q3':∃ y,mx=some y∧intA (ρ y)=some mm:=by
        cases mx with
        | none=>simp at q3
        | some y=>exact ⟨y,rfl,by simpa using q3⟩
       obtain ⟨y,rfl,q4⟩:=q3';have hy:=hr y (hmx0 y rfl);unfold intA at q4;split at q4
       ·rename_i j hj;injection q4 with q4;subst q4
        rw [hj] at hy;have hy:=Zbk hy;have eh:(j.toNat:Int)=j:=Int.toNat_of_nonneg om;have b1:0<=j:=om;have b2:j<=(cap:Int):=om;have b3:0<=l:=hb.1;have b4:l<=j:=hb.2.1;have hbnd:(Instr.sliceBounds true len cap (lo.map ρv) (hi.map ρv) (some (ρv y))).run e.P w=.ok (l.toNat,j.toNat,j.toNat) w:=by
         rcases hlo l q1 with ⟨rfl,rfl⟩ | e1 <;> rcases hhi j q2 with ⟨rfl,e2⟩ | e2
         ·simp at hrb
         ·simp [Instr.sliceBounds,hy,e2,Result.andThen,run_sliceBound,b1,b2,eh]
         ·simp at hrb
         ·simp [Instr.sliceBounds,hy,e1,e2,Result.andThen,run_sliceBound,b1,b2,b3,b4,eh]
        simp only [execOp,ho,Sem.run_bind,hv,Instr.sliceAt,Instr.slice,underlying,run_program,Result.andThen_ok,hu,Sem.run_pure,Option.map_some,hbnd,sizeOf,typeInfo,hi',hsz,sliced]
       ·cases q4
      ·cases hD
     ·cases hD
    ·cases h
   ·cases h
  ·cases h
 ·rename_i hn;split at h
  ·rename_i hst;split at h
   ·rename_i s hs;unfold dA at h;split at h
    ·rename_i D hD;injection h with h;subst h
     refine ZaD fun w S L ρv hC hr=>?_;have hx':=hr x hx0;unfold strA at hs;split at hs
     ·rename_i s' hs';injection hs with hs;subst hs
      rw [hs'] at hx';have hx':=Zbk hx';have hmn:mx=none:=by simpa using hst.2
      subst hmn;have hu:e.P.underlying t=some .string:=by
       have:=hst.1;unfold Zoc at this;split at this
       ·rename_i h;exact h
       ·cases this
      unfold Zl7 at hD;split at hD
      ·rename_i l hh q1 q2;split at hD
       ·rename_i hb;injection hD with hD;subst hD
        have hlo:=ZhU (w:=w) (S:=S) (L:=L) (ρv:=ρv) q1 (fun y hy=>hr y (hlo0 y hy));have hhi:=ZhV (w:=w) (S:=S) (L:=L) (ρv:=ρv) q2 (fun y hy=>hr y (hhi0 y hy));refine ⟨.string (s'.extract l.toNat hh.toNat),?_,by simp [ARel,DRel,Rep]⟩;have eh:(hh.toNat:Int)=hh:=Int.toNat_of_nonneg om;have b1:0<=hh:=om;have b2:hh<=(s'.size:Int):=om;have b3:0<=l:=hb.1;have b4:l<=hh:=hb.2.1;have hbnd:(Instr.sliceBounds false s'.size s'.size (lo.map ρv) (hi.map ρv) none).run e.P w=.ok (l.toNat,hh.toNat,s'.size) w:=by
         rcases hlo with ⟨rfl,rfl⟩ | e1 <;> rcases hhi with ⟨rfl,e2⟩ | e2
         ·simp [Instr.sliceBounds,e2,Result.andThen]
         ·simp [Instr.sliceBounds,e2,Result.andThen,run_sliceBound,b1,b2]
         ·have b5:l<=(s'.size:Int):=om;simp [Instr.sliceBounds,e1,e2,Result.andThen,run_sliceBound,b3,b5]
         ·simp [Instr.sliceBounds,e1,e2,Result.andThen,run_sliceBound,b1,b2,b3,b4,eh]
        simp only [execOp,ho,Sem.run_bind,hx',Instr.sliceAt,Instr.slice,underlying,run_program,Result.andThen_ok,hu,Sem.run_pure,Option.map_none,Option.isSome_none,Tam,if_false,hbnd]
       ·cases hD
      ·cases hD
     ·cases hs
    ·cases h
   ·cases h
  ·cases h
theorem Zma {f:FuncId} {caps:Array Operand} (ho:o.op=.makeFunc (.func f) #[] caps) (h:fnA f (csA (caps.toList.map ρ))=some α):ZaW e U base S0 m o ρ α:=by
 unfold fnA at h;split at h
 ·rename_i cs hcs;injection h with h;subst h
  refine ZaD fun w S L ρv hC hr=>?_;have h1:=ZkO (w:=w) (S:=S) (L:=L) (vs:=caps.toList.map ρv) hcs (by simp) (mapx (fun p hp=>hr p (by simp [ho,Op.operands];simpa using hp)));refine ⟨.func (.func f) #[] (caps.toList.map ρv).toArray,?_,?_⟩
  ·have e1:caps.map ρv=(caps.toList.map ρv).toArray:=by apply Array.toList_inj.1;simp
   simp [execOp,ho,Instr.makeFunc,Result.andThen,e1]
  ·simp only [ARel,DRel,Rep];exact ⟨_,rfl,h1⟩
 ·cases h
theorem ZtT {args:Array Operand} {ts:Array TypeId} (ho:o.op=.call ⟨.builtin .len,args,ts⟩) (h:lenA m (lenT e.P ts) (args.toList.map fun x=>nrm m (ρ x))=some α):ZaW e U base S0 m o ρ α:=by
 unfold lenA at h;split at h
 ·rename_i p n cap hlt hxs;injection h with h;subst h
  refine ZaD fun w S L ρv hC hr=>?_;obtain ⟨x,hx1,hx2⟩:=List.map_eq_singleton_iff.1 hxs;have hx':=Zcp hC (hr x (by simp [ho,Op.operands,Call.operands];rw [<- Array.mem_toList_iff,hx1];simp));rw [hx2] at hx';have hv:=Zbk hx';have ha:args.map ρv=#[ρv x]:=by
   apply Array.toList_inj.1;simp [hx1]
  unfold lenT at hlt;split at hlt
  ·rename_i t ht;split at hlt
   ·rename_i el hu;refine ⟨.int .i64 n,?_,by simp [ARel,DRel,Rep]⟩;simp [execOp,ho,resolve,invoke,builtin,Builtin.len_,ha,ht,underlying,hu,hv,goInt,Result.andThen]
   ·cases hlt
   ·cases hlt
  ·cases hlt
 ·rename_i y hne hlt hxs;unfold lenS at h;split at h
  ·rename_i rows hsl;injection h with h;subst h
   refine ZaD fun w S L ρv hC hr=>?_;obtain ⟨x,hx1,hx2⟩:=List.map_eq_singleton_iff.1 hxs;have hx':=Zcp hC (hr x (by simp [ho,Op.operands,Call.operands];rw [<- Array.mem_toList_iff,hx1];simp));rw [hx2] at hx';obtain ⟨a,cap,hv,_,_⟩:=ZxD hC hsl hx';have ha:args.map ρv=#[ρv x]:=by
    apply Array.toList_inj.1;simp [hx1]
   unfold lenT at hlt;split at hlt
   ·rename_i t ht;split at hlt
    ·rename_i el hu;refine ⟨.int .i64 rows.length,?_,by simp [ARel,DRel,Rep]⟩;simp [execOp,ho,resolve,invoke,builtin,Builtin.len_,ha,ht,underlying,hu,hv,goInt,Result.andThen]
    ·cases hlt
    ·cases hlt
   ·cases hlt
  ·cases h
 ·rename_i s hlt hxs;injection h with h;subst h
  refine ZaD fun w S L ρv hC hr=>?_;obtain ⟨x,hx1,hx2⟩:=List.map_eq_singleton_iff.1 hxs;have hx':=Zcp hC (hr x (by simp [ho,Op.operands,Call.operands];rw [<- Array.mem_toList_iff,hx1];simp));rw [hx2] at hx';have hx':=Zbk hx';have ha:args.map ρv=#[ρv x]:=by
   apply Array.toList_inj.1;simp [hx1]
  unfold lenT at hlt;split at hlt
  ·rename_i t ht;split at hlt
   ·cases hlt
   ·rename_i hu;refine ⟨.int .i64 s.size,?_,by simp [ARel,DRel,Rep]⟩;simp [execOp,ho,resolve,invoke,builtin,Builtin.len_,ha,ht,underlying,hu,hx',goInt,Result.andThen]
   ·cases hlt
  ·cases hlt
 ·cases h
theorem Zmb {α β:Type} {f:α->β} {l:List α} {x y:β} (h:l.map f=[x,y]):∃ p q,l=[p,q]∧f p=x∧f q=y:=by
 match l,h with
 | [p,q],h=>simp at h;exact ⟨p,q,rfl,h.1,h.2⟩
theorem ZtU {args:Array Operand} {ts:Array TypeId} (ho:o.op=.call ⟨.builtin .max,args,ts⟩) (h:maxA (args.toList.map ρ)=some α):ZaW e U base S0 m o ρ α:=by
 unfold maxA at h;split at h
 ·rename_i x y hxs;injection h with h;subst h
  refine ZaD fun w S L ρv hC hr=>?_;obtain ⟨p,q,ha,hxs⟩:=Zmb hxs
  ·have hp:=hr p (by simp [ho,Op.operands,Call.operands];rw [<- Array.mem_toList_iff,ha];simp);have hq:=hr q (by simp [ho,Op.operands,Call.operands];rw [<- Array.mem_toList_iff,ha];simp);rw [hxs.1] at hp;rw [hxs.2] at hq;have hp:=Zbk hp;have hq:=Zbk hq;have ha':args.map ρv=#[ρv p,ρv q]:=by
    apply Array.toList_inj.1;simp [ha]
   refine ⟨.int .i64 (if y > x then y else x),?_,by simp [ARel,DRel,Rep]⟩;simp [execOp,ho,resolve,invoke,builtin,Builtin.max_,Builtin.max2,ha',hp,hq,Result.andThen]
 ·cases h
theorem ZtV {args:Array Operand} {ts:Array TypeId} (ho:o.op=.call ⟨.builtin .min,args,ts⟩) (h:minA (args.toList.map ρ)=some α):ZaW e U base S0 m o ρ α:=by
 unfold minA at h;split at h
 ·rename_i x y hxs;injection h with h;subst h
  refine ZaD fun w S L ρv hC hr=>?_;obtain ⟨p,q,ha,hxs⟩:=Zmb hxs
  ·have hp:=hr p (by simp [ho,Op.operands,Call.operands];rw [<- Array.mem_toList_iff,ha];simp);have hq:=hr q (by simp [ho,Op.operands,Call.operands];rw [<- Array.mem_toList_iff,ha];simp);rw [hxs.1] at hp;rw [hxs.2] at hq;have hp:=Zbk hp;have hq:=Zbk hq;have ha':args.map ρv=#[ρv p,ρv q]:=by
    apply Array.toList_inj.1;simp [ha]
   refine ⟨.int .i64 (if y < x then y else x),?_,by simp [ARel,DRel,Rep]⟩;simp [execOp,ho,resolve,invoke,builtin,Builtin.min_,Builtin.min2,ha',hp,hq,Result.andThen]
 ·cases h
theorem ZjP (he:e.Ok) (h:ZgR e.P m ρ o.op=some α):ZaW e U base S0 m o ρ α:=by
 unfold ZgR at h;split at h
 ·rename_i x ho;injection h with h;subst h
  exact ZaD fun w S L ρv hC hr=>⟨ρv x,by simp [execOp,ho],hr x (by simp [ho,Op.operands])⟩
 ·rename_i c a b ho;unfold ZnT at h;split at h
  ·rename_i t hc;injection h with h;subst h
   refine ZaD fun w S L ρv hC hr=>?_;have h1:=hr c (by simp [ho,Op.operands]);rw [hc] at h1;have h1:=Zbk h1
   cases t
   ·exact ⟨ρv b,by simp [execOp,ho,h1,asBool],by simpa using hr b (by simp [ho,Op.operands])⟩
   ·exact ⟨ρv a,by simp [execOp,ho,h1,asBool],by simpa using hr a (by simp [ho,Op.operands])⟩
  ·cases h
 ·rename_i ho;exact ZsK ho h
 ·rename_i ho;exact ZkQ ho h
 ·rename_i ho;exact ZpV ho h
 ·rename_i ho;exact ZkR ho h
 ·rename_i ho;exact ZpW ho h
 ·rename_i ho;exact ZpX ho h
 ·rename_i ho;exact ZsL ho h
 ·rename_i ho;exact ZnC ho h
 ·rename_i ho;exact Zl9 ho h
 ·rename_i ho;exact ZnD ho h
 ·rename_i ho;exact ZpZ ho h
 ·rename_i ho;exact ZpY ho h
 ·rename_i ho;exact Zki ho h he
 ·rename_i ho;exact Zma ho h
 ·rename_i ho;exact ZtT ho h
 ·rename_i ho;exact ZtU ho h
 ·rename_i ho;exact ZtV ho h
 ·cases h
end
theorem ZeT (w:World) (b:Nat) (cells:Array Value):(w.setRow b cells).drawn=w.drawn:=rfl
structure Sim (e:Env) (U:Nat->Prop) (w0:World) (S0:Nat->Prop) (nt:Nat) (σ:St) (a:Act) (w:World) (S:Nat->Prop) (L:Lay):Prop where
 cls:Cls e U w0.heap.size S0 σ.m w S L
 rel:∀ t,ARel w S L (gs σ.s t) (a.tmps.getD t undef)
 size:a.tmps.size=nt
 defers:a.defers=[]
 kept:Kept e.D (fun b=>e.E b∨U b) w0.heap.size w0 w
def SimE (e:Env) (U:Nat->Prop) (w0:World) (S0:Nat->Prop) (nt:Nat) (σ:St) (a:Act) (w:World):Prop:=∃ S L,Sim e U w0 S0 nt σ a w S L
def ZdZ (k:Nat):A->Prop
 | .ref k' _=>k'=k
 | .buf k'=>k'=k
 | .row k' _ _ _=>k'=k
 | _=>False
theorem Zd0 (k t:Nat):∀ (s:List (Nat × A)),(gs (Zaq k s) t=gs s t∧¬ ZdZ k (gs s t))∨gs (Zaq k s) t=.undef
 | []=>by simp [Zaq,gs]
 | (t',x)::r=>by
  have ih:=Zd0 k t r
  cases x <;> simp only [Zaq,gs] <;> by_cases ht:t=t' <;> simp only [ht,if_true,if_false,ZdZ,not_false_eq_true,and_true,true_or]
  all_goals first
   | exact ih
   | (rename_i k' j sz off;by_cases hm:k'=k <;> (simp [hm];done))
   | (rename_i k' off;by_cases hm:k'=k <;> (simp [hm];done))
   | (rename_i k';by_cases hm:k'=k <;> (simp [hm];done))
theorem ZaC (k t:Nat):∀ (m:List (Nat × Bk)),gm (remM k m) t=if t=k then none else gm m t
 | []=>by simp [remM,gm]
 | (t',x)::r=>by
  have ih:=ZaC k t r;simp only [remM];by_cases h1:t'=k
  ·simp only [h1,if_true,ih,gm];by_cases h2:t=k
   ·simp [h2]
   ·simp [h2]
  ·simp only [h1,if_false,gm,ih];by_cases h2:t=t'
   ·simp only [h2,if_true];rw [if_neg h1]
   ·simp only [h2,if_false]
theorem ZbW {a:Act} {d t:Nat} {v:Value} (h:d < a.tmps.size):(a.put (some d) v).tmps.getD t undef=if t=d then v else a.tmps.getD t undef:=by
 by_cases ht:t=d
 ·subst ht;rw [Zip h];simp
 ·rw [Zfq (Ne.symm ht)];simp [ht]
section
variable {e:Env} {U:Nat->Prop} {w0:World} {S0:Nat->Prop} {nt:Nat} {σ:St} {a:Act} {w:World} {S:Nat->Prop} {L:Lay} {o:Oper}
theorem Sim.eval (h:Sim e U w0 S0 nt σ a w S L) (x:Operand):ARel w S L (evA σ.s x) (a.eval x):=by
 cases x with
 | tmp t=>exact h.rel t
 | const v =>
  simp only [evA,Act.eval];unfold ZdL;split
  ·simp only [ARel,DRel,Rep];exact ⟨⟨none,0,0,rfl,rfl,Tai _,by decide,fun h=>absurd h (by decide)⟩,none,0,rfl⟩
  ·rename_i vs;exact ⟨vs.toList,rfl,Zb9 _⟩
  ·simp [ARel,DRel,Rep]
 | func f =>
  simp only [evA,Act.eval,ARel,DRel,Rep];exact ⟨[],rfl,by simp [Zad]⟩
 | global g=>trivial
theorem Sim.touchM (h:Sim e U w0 S0 nt σ a w S L) {p:Nat->Prop} {m':List (Nat × Bk)} {w':World} {S':Nat->Prop} {L':Lay} {τ:Nat->Prop} (hS:∀ b,S b->S' b) (hS':∀ b,S' b->S b∨(τ b∧b < w.heap.size)∨(w.heap.size<=b∧b < w'.heap.size)) (hm1:∀ k x,¬ p k->gm m' k=some x->gm σ.m k=some x)
  (hL:∀ k,¬ p k->L'.b k=L.b k∧L'.v k=L.v k) (hτ:∀ g,τ g->¬ S g∧¬ e.E g∧(w0.heap.size<=g∨U g)) (hoth:∀ k x g,¬ p k->gm m' k=some x->τ g->¬ Zay L k x g)
  (hk:Kept e.D (fun b=>e.E b∨τ b) w.heap.size w w') (hg:e.G w') (hown:∀ k x,p k->gm m' k=some x->Own1 w' S' L' k x∧∀ g,Zay L' k x g->τ g∨w.heap.size<=g)
  (hinj:∀ k k' x x' g,p k->p k'->gm m' k=some x->gm m' k'=some x'->Zay L' k x g->Zay L' k' x' g->k=k') :
  Cls e U w0.heap.size S0 m' w' S' L'∧Kept e.D (fun b=>e.E b∨U b) w0.heap.size w0 w'∧(∀ x v,(∀ k,p k->ZdZ k x->L'.b k=L.b k∧L'.v k=L.v k)->ARel w S L x v->ARel w' S' L' x v):=by
 have hz:=hk.size;have hSb:∀ b,S b->w'.heap[b]?=w.heap[b]?:=fun b hs=>hk.block b (h.cls.sin b hs).1 (fun ht=>ht.elim (h.cls.sin b hs).2 (fun ht=>(hτ b ht).1 hs));have hkc:∀ b o,S b->w'.cell? ⟨b,o,none⟩=w.cell? ⟨b,o,none⟩:=fun b o hs=>Zbg (hSb b hs) o;have hbs:=h.cls.bsz;have other:∀ k x,¬ p k->gm m' k=some x->Own1 w' S' L' k x∧Zay L' k x=Zay L k x:=fun k x hkd hx=>by
  have hx0:=hm1 k x hkd hx;have ho:=h.cls.own k x hx0;obtain ⟨l1,l2⟩:=hL k hkd;refine ⟨(ho.keep hz hkc hS (fun g hgb=>?_)).lay l1 l2,Zmy l1 l2⟩;obtain ⟨q1,q2⟩:=ho.lt hgb;refine ⟨hk.block g q1 (fun ht=>ht.elim (h.cls.notE hx0 hgb) (fun ht=>hoth k x g hkd hx ht hgb)),fun hs=>?_⟩;rcases hS' g hs with h1 | ⟨h1,_⟩ | ⟨h1,_⟩
  ·exact q2 h1
  ·exact hoth k x g hkd hx h1 hgb
  ·omega
 have cross:∀ k x k' x' g,¬ p k->gm m' k=some x->Zay L' k x g->p k'->gm m' k'=some x'->Zay L' k' x' g->False:=fun k x k' x' g hkd hx hb hp hx' hb'=>by
  rw [(other k x hkd hx).2] at hb;rcases (hown k' x' hp hx').2 g hb' with h1 | h1
  ·exact hoth k x g hkd hx h1 hb
  ·have:=((h.cls.own k x (hm1 k x hkd hx)).lt hb).1;omega
 refine ⟨⟨fun b hs=>?_,fun b hs=>?_,h.cls.ein,h.cls.uin,Tbe hbs hz,fun k x g hx hb=>?_,fun k x hx=>?_,fun k k' x x' g hx hx' hb hb'=>?_,hg⟩,
  h.kept.trans ⟨hk.os,hk.tape,hk.output,hk.drawn,hk.size,fun b hb hE=>hk.block b om (fun ht=>?_)⟩,fun x v hx hr=>?_⟩
 ·rcases hS' b hs with h1 | ⟨h1,h2⟩ | ⟨h1,h2⟩
  ·exact ⟨Tbd (h.cls.sin b h1).1 hz,(h.cls.sin b h1).2⟩
  ·exact ⟨Tbd h2 hz,(hτ b h1).2.1⟩
  ·exact ⟨h2,fun hE=>by have:=h.cls.ein b hE;omega⟩
 ·rcases hS' b hs with h1 | ⟨h1,h2⟩ | ⟨h1,h2⟩
  ·exact h.cls.sfr b h1
  ·rcases (hτ b h1).2.2 with q | q
   ·exact .inr (.inl q)
   ·exact .inr (.inr q)
  ·exact .inr (.inl om)
 ·by_cases hkd:p k
  ·rcases (hown k x hkd hx).2 g hb with h1 | h1
   ·exact (hτ g h1).2.2
   ·exact .inl om
  ·rw [(other k x hkd hx).2] at hb;exact h.cls.mine k x g (hm1 k x hkd hx) hb
 ·by_cases hkd:p k
  ·exact (hown k x hkd hx).1
  ·exact (other k x hkd hx).1
 ·by_cases h1:p k
  ·by_cases h2:p k'
   ·exact hinj k k' x x' g h1 h2 hx hx' hb hb'
   ·exact (cross k' x' k x g h2 hx' hb' h1 hx hb).elim
  ·by_cases h2:p k'
   ·exact (cross k x k' x' g h1 hx hb h2 hx' hb').elim
   ·rw [(other k x h1 hx).2] at hb;rw [(other k' x' h2 hx').2] at hb';exact h.cls.inj k k' x x' g (hm1 k x h1 hx) (hm1 k' x' h2 hx') hb hb'
 ·rcases ht with ht | ht
  ·exact hE (.inl ht)
  ·rcases (hτ b ht).2.2 with h1 | h1
   ·omega
   ·exact hE (.inr h1)
 ·have lay:∀ k,ZdZ k x->L'.b k=L.b k∧L'.v k=L.v k:=fun k hkx=>by
   by_cases hkd:p k
   ·exact hx k hkd hkx
   ·exact hL k hkd
  have h1:=hr.keep hz hkc hS
  cases x with
  | undef=>trivial
  | no=>exact h1
  | d x=>exact h1
  | tup xs=>exact h1
  | ref k off=>have:=(lay k rfl).1;simp only [ARel] at h1 ⊢;rw [this];exact h1
  | buf k=>have:=(lay k rfl).2;simp only [ARel] at h1 ⊢;rw [this];exact h1
  | row k j sz off=>have:=(lay k rfl).2;simp only [ARel] at h1 ⊢;rw [this];exact h1
theorem Sim.touchT (h:Sim e U w0 S0 nt σ a w S L) {d:Nat} {bk:Bk} {m':List (Nat × Bk)} {w':World} {S':Nat->Prop} {L':Lay} {τ:Nat->Prop} (hS:∀ b,S b->S' b) (hS':∀ b,S' b->S b∨(τ b∧b < w.heap.size)∨(w.heap.size<=b∧b < w'.heap.size)) (hm1:∀ k x,k≠d->gm m' k=some x->gm σ.m k=some x) (hm2:gm m' d=some bk)
  (hL:∀ k,k≠d->L'.b k=L.b k∧L'.v k=L.v k) (hτ:∀ g,τ g->¬ S g∧¬ e.E g∧(w0.heap.size<=g∨U g)) (hoth:∀ k x g,k≠d->gm m' k=some x->τ g->¬ Zay L k x g)
  (hk:Kept e.D (fun b=>e.E b∨τ b) w.heap.size w w') (hg:e.G w') (hown:Own1 w' S' L' d bk) (hblk:∀ g,Zay L' d bk g->τ g∨w.heap.size<=g) :
  Cls e U w0.heap.size S0 m' w' S' L'∧Kept e.D (fun b=>e.E b∨U b) w0.heap.size w0 w'∧(∀ x v,(ZdZ d x->L'.b d=L.b d∧L'.v d=L.v d)->ARel w S L x v->ARel w' S' L' x v):=by
 obtain ⟨t1,t2,t3⟩:=h.touchM (p:=fun k=>k=d) hS hS' hm1 hL hτ hoth hk hg (fun k x hp hx=>by
  subst hp;rw [hm2] at hx;injection hx with hx;subst hx;exact ⟨hown,hblk⟩) (fun k k' x x' g hp hp' _ _ _ _=>hp.trans hp'.symm)
 exact ⟨t1,t2,fun x v hx=>t3 x v (fun k hp hk=>by subst hp;exact hx hk)⟩
theorem Sim.touchE (h:Sim e U w0 S0 nt σ a w S L) {d:Nat} {bk:Bk} {m':List (Nat × Bk)} {w':World} {S':Nat->Prop} {L':Lay} {τ:Option Nat} (hS:∀ b,S b->S' b) (hS':∀ b,S' b->S b∨(w.heap.size<=b∧b < w'.heap.size)) (hm1:∀ k x,k≠d->gm m' k=some x->gm σ.m k=some x) (hm2:gm m' d=some bk)
  (hL:∀ k,k≠d->L'.b k=L.b k∧L'.v k=L.v k) (hτ:∀ g,τ=some g->¬ S g∧¬ e.E g∧(w0.heap.size<=g∨U g)) (hoth:∀ k x g,k≠d->gm m' k=some x->τ=some g->¬ Zay L k x g)
  (hk:Kept e.D (fun b=>e.E b∨τ=some b) w.heap.size w w') (hg:e.G w') (hown:Own1 w' S' L' d bk) (hblk:∀ g,Zay L' d bk g->τ=some g∨w.heap.size<=g) :
  Cls e U w0.heap.size S0 m' w' S' L'∧Kept e.D (fun b=>e.E b∨U b) w0.heap.size w0 w'∧(∀ x v,(ZdZ d x->L'.b d=L.b d∧L'.v d=L.v d)->ARel w S L x v->ARel w' S' L' x v):=h.touchT (τ:=fun g=>τ=some g) hS (fun b hb=>(hS' b hb).elim .inl (fun q=>.inr (.inr q))) hm1 hm2 hL hτ hoth hk hg hown hblk
theorem Sim.touch (h:Sim e U w0 S0 nt σ a w S L) (he:e.Ok) {d:Nat} {bk:Bk} {m':List (Nat × Bk)} {w':World} {S':Nat->Prop} {L':Lay} {τ:Option Nat} (hS:∀ b,S b->S' b) (hS':∀ b,S' b->S b∨(w.heap.size<=b∧b < w'.heap.size)) (hm1:∀ k x,k≠d->gm m' k=some x->gm σ.m k=some x) (hm2:gm m' d=some bk)
  (hL:∀ k,k≠d->L'.b k=L.b k∧L'.v k=L.v k) (hτ:∀ g,τ=some g->¬ S g∧¬ e.E g∧(w0.heap.size<=g∨U g)) (hoth:∀ k x g,k≠d->gm m' k=some x->τ=some g->¬ Zay L k x g)
  (hk:Kept e.D (fun b=>τ=some b) w.heap.size w w') (hown:Own1 w' S' L' d bk) (hblk:∀ g,Zay L' d bk g->τ=some g∨w.heap.size<=g) :
  Cls e U w0.heap.size S0 m' w' S' L'∧Kept e.D (fun b=>e.E b∨U b) w0.heap.size w0 w'∧(∀ x v,(ZdZ d x->L'.b d=L.b d∧L'.v d=L.v d)->ARel w S L x v->ARel w' S' L' x v):=by
 have hbs:=h.cls.bsz;exact h.touchE hS hS' hm1 hm2 hL hτ hoth ⟨hk.os,hk.tape,hk.output,hk.drawn,hk.size,fun b hb hE=>hk.block b hb (fun ht=>hE (.inr ht))⟩ (he.keep _ _ hk.size (fun b hE=>hk.block b (Tbd (h.cls.ein b hE) hbs) (fun ht=>(hτ b ht).2.1 hE)) h.cls.g) hown hblk
theorem Sim.put (h:Sim e U w0 S0 nt σ a w S L) {α:A} {v:Value} (hv:ARel w S L α v) {dst:Option Nat} (hd:∀ d,dst=some d->d < nt):Sim e U w0 S0 nt ⟨setA σ.s dst α,σ.m⟩ (a.put dst v) w S L:=by
 cases dst with
 | none=>exact h
 | some d =>
  have hlt:d < a.tmps.size:=by rw [h.size];exact hd d rfl
  refine ⟨h.cls,fun t=>?_,by simp [Act.put,h.size],by simp [Act.put,h.defers],h.kept⟩;rw [ZbW hlt];simp only [setA,gs];split
  ·exact hv
  ·exact h.rel t
theorem Sim.later (h:Sim e U w0 S0 nt σ a w S L) {w':World} {S':Nat->Prop} (hC:Cls e U w0.heap.size S0 σ.m w' S' L) (hk:Kept e.D e.E w.heap.size w w') (hS:∀ b,S b->S' b):Sim e U w0 S0 nt σ a w' S' L :=
 ⟨hC,fun t=>(h.rel t).keep hk.size (h.cls.cell hk) hS,h.size,h.defers,h.kept.trans ⟨hk.os,hk.tape,hk.output,hk.drawn,hk.size,fun b hb hE=>hk.block b (by have:=h.cls.bsz;omega) (fun h1=>hE (.inl h1))⟩⟩
theorem Sim.bornE (h:Sim e U w0 S0 nt σ a w S L) {d:Nat} (hd:d < nt) {bk:Bk} {w':World} {b':Nat} {v' u:Value} {τ:Option Nat} {s1:List (Nat × A)} {m1:List (Nat × Bk)} {α:A} {S':Nat->Prop} (hS:∀ b,S b->S' b) (hS':∀ b,S' b->S b∨(w.heap.size<=b∧b < w'.heap.size))
  (hs1:∀ t,(gs s1 t=gs σ.s t)∨gs s1 t=.undef) (hm1:∀ k x,gm m1 k=some x->gm σ.m k=some x)
  (hτ:∀ g,τ=some g->¬ S g∧¬ e.E g∧(w0.heap.size<=g∨U g)) (hoth:∀ k x g,k≠d->gm m1 k=some x->τ=some g->¬ Zay L k x g)
  (hk:Kept e.D (fun b=>e.E b∨τ=some b) w.heap.size w w') (hg:e.G w') (hown:Own1 w' S' ⟨fun t=>if t=d then b' else L.b t,fun t=>if t=d then v' else L.v t⟩ d bk)
  (hblk:∀ g,Zay ⟨fun t=>if t=d then b' else L.b t,fun t=>if t=d then v' else L.v t⟩ d bk g->τ=some g∨w.heap.size<=g)
  (hα:ARel w' S' ⟨fun t=>if t=d then b' else L.b t,fun t=>if t=d then v' else L.v t⟩ α u) :
  SimE e U w0 S0 nt ⟨(d,α)::Zaq d s1,(d,bk)::remM d m1⟩ (a.put (some d) u) w':=by
 have hlt:d < a.tmps.size:=by rw [h.size];exact hd
 obtain ⟨t1,t2,t3⟩:=h.touchE (d:=d) (bk:=bk) (m':=(d,bk)::remM d m1) (w':=w') (L':=⟨fun t=>if t=d then b' else L.b t,fun t=>if t=d then v' else L.v t⟩) (τ:=τ) hS hS'
  (fun k x hkd hx=>by simp only [gm,hkd,if_false,ZaC] at hx;exact hm1 k x hx) (by simp [gm]) (fun k hkd=>by simp [hkd]) hτ
  (fun k x g hkd hx=>hoth k x g hkd (by simpa only [gm,hkd,if_false,ZaC] using hx)) hk hg hown hblk
 refine ⟨S',_,t1,fun t=>?_,by simp [Act.put,h.size],by simp [Act.put,h.defers],t2⟩;rw [ZbW hlt];simp only [gs];by_cases ht:t=d
 ·simp only [ht,if_true];exact hα
 ·simp only [ht,if_false];rcases Zd0 d t s1 with ⟨h1,h2⟩ | h1
  ·rw [h1];rcases hs1 t with h3 | h3
   ·rw [h3];rw [h3] at h2;exact t3 _ _ (fun h=>absurd h h2) (h.rel t)
   ·rw [h3];trivial
  ·rw [h1];trivial
theorem Sim.born (h:Sim e U w0 S0 nt σ a w S L) (he:e.Ok) {d:Nat} (hd:d < nt) {bk:Bk} {w':World} {b':Nat} {v' u:Value} {τ:Option Nat} {s1:List (Nat × A)} {m1:List (Nat × Bk)} {α:A} {S':Nat->Prop} (hS:∀ b,S b->S' b) (hS':∀ b,S' b->S b∨(w.heap.size<=b∧b < w'.heap.size))
  (hs1:∀ t,(gs s1 t=gs σ.s t)∨gs s1 t=.undef) (hm1:∀ k x,gm m1 k=some x->gm σ.m k=some x)
  (hτ:∀ g,τ=some g->¬ S g∧¬ e.E g∧(w0.heap.size<=g∨U g)) (hoth:∀ k x g,k≠d->gm m1 k=some x->τ=some g->¬ Zay L k x g)
  (hk:Kept e.D (fun b=>τ=some b) w.heap.size w w') (hown:Own1 w' S' ⟨fun t=>if t=d then b' else L.b t,fun t=>if t=d then v' else L.v t⟩ d bk)
  (hblk:∀ g,Zay ⟨fun t=>if t=d then b' else L.b t,fun t=>if t=d then v' else L.v t⟩ d bk g->τ=some g∨w.heap.size<=g)
  (hα:ARel w' S' ⟨fun t=>if t=d then b' else L.b t,fun t=>if t=d then v' else L.v t⟩ α u) :
  SimE e U w0 S0 nt ⟨(d,α)::Zaq d s1,(d,bk)::remM d m1⟩ (a.put (some d) u) w':=by
 have hbs:=h.cls.bsz;exact h.bornE hd hS hS' hs1 hm1 hτ hoth ⟨hk.os,hk.tape,hk.output,hk.drawn,hk.size,fun b hb hE=>hk.block b hb (fun ht=>hE (.inr ht))⟩ (he.keep _ _ hk.size (fun b hE=>hk.block b (Tbd (h.cls.ein b hE) hbs) (fun ht=>(hτ b ht).2.1 hE)) h.cls.g) hown hblk hα
theorem Sim.new (h:Sim e U w0 S0 nt σ a w S L) (he:e.Ok) {d:Nat} (hd:d < nt) {us:Array Value} {cs:List C} {ty:TypeId} (hu:Zad w S cs us.toList) :
  SimE e U w0 S0 nt ⟨(d,.ref d 0)::Zaq d σ.s,(d,.var none cs)::remM d σ.m⟩ (a.put (some d) (.pointer (some ⟨w.heap.size,0,none⟩))) (w.alloc (.cells us ty)):=by
 have hb:Below w.heap.size w (w.alloc (.cells us ty)):=ZdW w _;have hkc:∀ b o,S b->(w.alloc (.cells us ty)).cell? ⟨b,o,none⟩=w.cell? ⟨b,o,none⟩:=fun b o hs=>Zbg (hb.block b (h.cls.sin b hs).1) o;refine h.born he hd (τ:=none) (b':=w.heap.size) (v':=undef) (fun _ h=>h) (fun _ h=>.inl h) (fun t=>.inl rfl) (fun k x h=>h) (by simp) (by simp) (Kept.of_below hb (fun _=>Tai _)) ?_ ?_ ?_
 ·simp only [Own1,if_true];refine ⟨by simp,by simp,fun hs=>by have:=(h.cls.sin _ hs).1;omega,⟨us,ty,heap_alloc_new w _,by have:=hu.len;simpa using this⟩,?_⟩;have hv:=Zad.keep2 hb.size hkc (fun _ h=>h) hu;exact Zaj.of_vals cs us.toList 0 hv (fun j u hj=>by rw [Nat.zero_add];exact Zl6 rfl (by simpa using hj))
 ·intro g hg;simp only [Zay,if_true] at hg;exact .inr om
 ·simp [ARel]
theorem Sim.store (h:Sim e U w0 S0 nt σ a w S L) (he:e.Ok) {o:Option Nat} {k off:Nat} {cs us:List C} {vs:List Value} (hm:gm σ.m k=some (.var o cs)) (hl:off+us.length<=cs.length) (hu:Zad w S us vs) (h1:∀ v∈vs,v.oneCell'=true) :
  ∃ w',(storeCells ⟨L.b k,off,none⟩ vs).run e.P w=.ok () w'∧SimE e U w0 S0 nt ⟨σ.s,(k,.var o (cs.take off++us++cs.drop (off+us.length)))::remM k σ.m⟩ a w':=by
 have ho:=h.cls.own k _ hm;obtain ⟨hb0,hb2,hb3,⟨arr,ty,hb4,hb5⟩,hb6⟩:=ho;have hvl:=hu.len;have hst:=run_storeCells_at e.P (L.b k) off ty vs 0 arr w hb4 (by rw [hb5];omega) h1;simp only [Nat.add_zero] at hst;have hput:=Zf1 w (L.b k) off ty vs arr hb4 (by rw [hb5];omega);refine ⟨_,hst,?_⟩;have hheap:=setRow_heap w (L.b k) arr (arr.toList.take off++vs++arr.toList.drop (off+vs.length)).toArray ty _ hb4
 have hdr:(w.setRow (L.b k) (arr.toList.take off++vs++arr.toList.drop (off+vs.length)).toArray).drawn=w.drawn:=ZeT _ _ _;generalize hW:w.setRow (L.b k) (arr.toList.take off++vs++arr.toList.drop (off+vs.length)).toArray=W at hput hheap hdr ⊢;have hsz:W.heap.size=w.heap.size:=hput.size;have hkc:∀ b o,S b->W.cell? ⟨b,o,none⟩=w.cell? ⟨b,o,none⟩:=fun b o hs=>Zbg (hput.other b (fun e=>hb3 (e ▸ hs))) o;have hown:Own1 W S L k (.var o (cs.take off++us++cs.drop (off+us.length))):=by
  simp only [Own1];refine ⟨hb0,om,hb3,⟨_,ty,hheap,by simp;omega⟩,?_⟩;have hz:w.heap.size<=W.heap.size:=om;have r1:=Zaj.keepAt (S':=S) hz hkc (fun _ h=>h) (L.b k) 0 (cs.take off) (fun j hj=>hput.old _ (.inl (by simp at hj;omega))) (hb6.take off);have r2:Zaj W S (L.b k) off us:=Zaj.of_vals us vs off (Zad.keep2 hz hkc (fun _ h=>h) hu) hput.new;have r3:=Zaj.keepAt (S':=S) hz hkc (fun _ h=>h) (L.b k) _ (cs.drop (off+us.length)) (fun j hj=>hput.old _ (.inr om)) (hb6.drop (off+us.length))
  have hlo:(cs.take off).length=off:=by simp;omega
  refine Zaj.append _ _ 0 (Zaj.append _ _ 0 r1 (by rw [hlo,Nat.zero_add];exact r2)) ?_;rw [Tae,hlo];exact r3
 obtain ⟨t1,t2,t3⟩:=h.touch he (d:=k) (bk:=.var o (cs.take off++us++cs.drop (off+us.length))) (m':=(k,.var o (cs.take off++us++cs.drop (off+us.length)))::remM k σ.m) (w':=W) (L':=L) (τ:=some (L.b k)) (fun _ h=>h) (fun _ h=>.inl h)
  (fun k' x hkd hx=>by simp only [gm,hkd,if_false,ZaC] at hx;exact hx) (by simp [gm]) (fun _ _=>⟨rfl,rfl⟩)
  (fun g hg=>by injection hg with hg;subst hg;exact ⟨hb3,h.cls.notE hm rfl,h.cls.mine k _ _ hm rfl⟩)
  (fun k' x g hkd hx hg hb=>by
   injection hg with hg;subst hg
   simp only [gm,hkd,if_false,ZaC] at hx;exact hkd (h.cls.inj k' k x _ _ hx hm hb rfl))
  ⟨hput.os,hput.tape,hput.output,fun _=>Nat.le_of_eq hdr.symm,om,fun b hb hE=>hput.other b (fun eq=>hE (by rw [eq]))⟩ hown (fun g hg=>.inl (by simpa [Zay] using hg))
 exact ⟨S,L,t1,fun t=>t3 _ _ (fun _=>⟨rfl,rfl⟩) (h.rel t),h.size,h.defers,t2⟩
theorem Zoe {n:Nat}:∀ {rows:List (List C)} {j:Nat} {r r':List C},rowsLen n rows->rows[j]?=some r->r'.length=n->(rows.set j r').flatten=rows.flatten.take (j * n)++r'++rows.flatten.drop (j * n+n)
 | [],_,_,_,_,h,_=>by simp at h
 | x::xs,0,r,r',hl,h,hr=>by
  have hx:=(hl x (by simp)).1;simp only [List.set_cons_zero,List.flatten_cons,Nat.zero_mul,List.take_zero,Tah,Nat.zero_add];rw [<- hx,List.drop_left]
 | x::xs,j+1,r,r',hl,h,hr=>by
  have hx:=(hl x (by simp)).1;have ih:=Zoe (n:=n) (rows:=xs) (j:=j) (r:=r) (r':=r') (fun y hy=>hl y (by simp [hy])) (by simpa using h) hr;simp only [List.set_cons_succ,List.flatten_cons,ih];have e1:(j+1) * n=x.length+j * n:=by rw [hx,Nat.add_mul];omega
  have e2:(x++xs.flatten).take ((j+1) * n)=x++xs.flatten.take (j * n):=by rw [e1,List.take_length_add_append]
  have e3:(x++xs.flatten).drop ((j+1) * n+n)=xs.flatten.drop (j * n+n):=by rw [e1,Nat.add_assoc,List.drop_length_add_append]
  rw [e2,e3];simp only [Tbf]
theorem Sim.storeRow (h:Sim e U w0 S0 nt σ a w S L) (he:e.Ok) {o:Option (Option Addr × Nat)} {k j off g ety sz:Nat} {rows:List (List C)} {r us:List C} {vs:List Value} (hm:gm σ.m k=some (.buf o ety sz rows)) (hr:rows[j]?=some r) (hg:vblk (L.v k)=some g) (hl:off+us.length<=r.length) (hu:Zad w S us vs) (h1:us.all Zau=true) :
  ∃ w',(storeCells ⟨g,j * sz+off,none⟩ vs).run e.P w=.ok () w'∧SimE e U w0 S0 nt ⟨σ.s,(k,.buf o ety sz (rows.set j (r.take off++us++r.drop (off+us.length))))::remM k σ.m⟩ a w':=by
 obtain ⟨hb0,hs0,hrl,h3⟩:=h.cls.own k _ hm;have hvl:=hu.len;rcases h3 with ⟨h3,_⟩ | ⟨g',cap,cur,hv,hcp,hg1,hg2,hheap0,hlen,hcap,hcs,hrows⟩
 ·rw [h3] at hr;simp at hr
 ·have hgg:g'=g:=by rw [hv] at hg;simp only [vblk] at hg;rw [if_neg om] at hg;injection hg
  subst hgg;have hrs:=(hrl r (Tac hr));have hjl:j < rows.length:=(Tad.1 hr).1;have hfl:=Zb5 hrl;have hin:j * sz+sz<=rows.length * sz:=by have:=Nat.mul_le_mul_right sz (show j+1<=rows.length by omega);rw [Nat.add_mul] at this;omega
  have hin2:rows.length * sz<=cap * sz:=Nat.mul_le_mul_right sz hlen;have hst:=run_storeCells_at e.P g' (j * sz+off) ety vs 0 cur w hheap0 (by rw [hcs];omega) (ZeS h1 hu);simp only [Nat.add_zero] at hst;have hput:=Zf1 w g' (j * sz+off) ety vs cur hheap0 (by rw [hcs];omega);refine ⟨_,hst,?_⟩;have hheap:=setRow_heap w g' cur (cur.toList.take (j * sz+off)++vs++cur.toList.drop (j * sz+off+vs.length)).toArray ety _ hheap0
  have hdr:(w.setRow g' (cur.toList.take (j * sz+off)++vs++cur.toList.drop (j * sz+off+vs.length)).toArray).drawn=w.drawn:=ZeT _ _ _;generalize hW:w.setRow g' (cur.toList.take (j * sz+off)++vs++cur.toList.drop (j * sz+off+vs.length)).toArray=W at hput hheap hdr ⊢;have hsz:W.heap.size=w.heap.size:=hput.size;have hkc:∀ b o,S b->W.cell? ⟨b,o,none⟩=w.cell? ⟨b,o,none⟩:=fun b o hs=>Zbg (hput.other b (fun e=>hg2 (e ▸ hs))) o
  have hbk:Zay L k (.buf o ety sz rows) g':=hg;have hr'l:(r.take off++us++r.drop (off+us.length)).length=sz:=by simp;omega
  have hown:Own1 W S L k (.buf o ety sz (rows.set j (r.take off++us++r.drop (off+us.length)))):=by
   simp only [Own1];refine ⟨fun a ha=>by rw [hb0 a ha];simp,hs0,fun x hx=>?_,.inr ⟨g',cap,_,by rw [hv];simp,hcp,om,hg2,hheap,by simp;omega,hcap,by simp;omega,?_⟩⟩
   ·rcases List.mem_or_eq_of_mem_set hx with hx | rfl
    ·exact hrl x hx
    ·refine ⟨hr'l,?_⟩;simp only [List.all_append,h1,Tar,and_true];exact ⟨List.all_eq_true.2 fun y hy=>List.all_eq_true.1 hrs.2 y (List.mem_of_mem_take hy),List.all_eq_true.2 fun y hy=>List.all_eq_true.1 hrs.2 y (List.mem_of_mem_drop hy)⟩
   ·apply Zap.of_flat;rw [Zoe hrl hr hr'l];have hz:w.heap.size<=W.heap.size:=om;have hf:=hrows.flat;have rr:=Zap.get rows 0 j r (fun x hx=>(hrl x hx).1) hrows hr;rw [Nat.zero_add] at rr;have r1:=Zaj.keepAt (S':=S) hz hkc (fun _ h=>h) g' 0 (rows.flatten.take (j * sz)) (fun i hi=>hput.old _ (.inl (by simp at hi;omega))) (hf.take (j * sz));have r2:=Zaj.keepAt (S':=S) hz hkc (fun _ h=>h) g' (j * sz) (r.take off) (fun i hi=>hput.old _ (.inl (by simp at hi;omega))) (rr.take off)
    have r3:Zaj W S g' (j * sz+off) us:=Zaj.of_vals us vs _ (Zad.keep2 hz hkc (fun _ h=>h) hu) hput.new;have r4:=Zaj.keepAt (S':=S) hz hkc (fun _ h=>h) g' _ (r.drop (off+us.length)) (fun i hi=>hput.old _ (.inr om)) (rr.drop (off+us.length));have r5:=Zaj.keepAt (S':=S) hz hkc (fun _ h=>h) g' _ (rows.flatten.drop (j * sz+sz)) (fun i hi=>hput.old _ (.inr om)) (hf.drop (j * sz+sz));have l1:(rows.flatten.take (j * sz)).length=j * sz:=by rw [Taw,hfl];omega
    have l2:(r.take off).length=off:=by simp;omega
    have l3:(r.take off++us).length=off+us.length:=by simp;omega
    refine Zaj.append _ _ 0 (Zaj.append _ _ 0 r1 ?_) ?_
    ·rw [l1,Nat.zero_add];refine Zaj.append _ _ _ (Zaj.append _ _ _ r2 ?_) ?_
     ·rw [l2];exact r3
     ·rw [l3];exact r4
    ·rw [Tae,l1,hr'l];exact r5
  obtain ⟨t1,t2,t3⟩:=h.touch he (d:=k) (bk:=.buf o ety sz (rows.set j (r.take off++us++r.drop (off+us.length)))) (m':=(k,.buf o ety sz (rows.set j (r.take off++us++r.drop (off+us.length))))::remM k σ.m) (w':=W) (L':=L) (τ:=some g') (fun _ h=>h) (fun _ h=>.inl h)
   (fun k' x hkd hx=>by simp only [gm,hkd,if_false,ZaC] at hx;exact hx) (by simp [gm]) (fun _ _=>⟨rfl,rfl⟩)
   (fun q hq=>by injection hq with hq;subst hq;exact ⟨hg2,h.cls.notE hm hbk,h.cls.mine k _ _ hm hbk⟩)
   (fun k' x q hkd hx hq hb=>by
    injection hq with hq;subst hq
    simp only [gm,hkd,if_false,ZaC] at hx;exact hkd (h.cls.inj k' k x _ _ hx hm hb hbk))
   ⟨hput.os,hput.tape,hput.output,fun _=>Nat.le_of_eq hdr.symm,om,fun b hb hE=>hput.other b (fun eq=>hE (by rw [eq]))⟩ hown (fun q hq=>.inl (by rw [<- hq];exact hg.symm))
  exact ⟨S,L,t1,fun t=>t3 _ _ (fun _=>⟨rfl,rfl⟩) (h.rel t),h.size,h.defers,t2⟩
end
section
variable {e:Env} {U:Nat->Prop} {w0:World} {S0:Nat->Prop} {nt:Nat} {σ:St} {a:Act} {w:World} {S:Nat->Prop} {L:Lay} {o:Oper}
theorem Zmc (k:Nat) (bk:Bk) (t:Nat):∀ (s:List (Nat × A)),gs (frzS k bk s) t=frzA k bk (gs s t)
 | []=>by simp [frzS,gs,frzA]
 | (t',x)::r=>by
  simp only [frzS,gs];split
  ·rfl
  ·exact Zmc k bk t r
theorem ZaE.rep {ety sz:Nat} {rows:List (List C)} {v:Value} (h:ZaE w S ety sz rows v):Rep w (fun b=>S b∨vblk v=some b) (.sl rows) v:=by
 obtain ⟨h1,h2,h3⟩:=h;simp only [Rep];rcases h3 with ⟨rfl,a,rfl⟩ | ⟨g,cap,cur,rfl,hc,hg,hs,hh,hl,hm,hcs,hr⟩
 ·exact ⟨a,0,0,rfl,rfl,Tai _,Taj _,fun h=>absurd h (by decide)⟩
 ·refine ⟨_,_,_,rfl,rfl,hl,hm,fun _=>⟨g,0,rfl,.inr ?_,hg,?_⟩⟩
  ·simp only [vblk];rw [if_neg om]
  ·exact Zap.of_flat (Zaj.keep2 (Tai _) (fun _ _ _=>rfl) (fun _ h=>.inl h) g (fun _=>rfl) 0 _ hr.flat)
theorem Sim.freeze2 (h:Sim e U w0 S0 nt σ a w S L) (he:e.Ok) {k:Nat} {bk:Bk} (hm:gm σ.m k=some bk):∃ S' L',Sim e U w0 S0 nt ⟨frzS k bk σ.s,remM k σ.m⟩ a w S' L'∧∀ b,S' b ↔ S b∨Zay L k bk b:=by
 have ho:=h.cls.own k bk hm;have hin:∀ b,S b->S b∨Zay L k bk b:=fun _ h=>.inl h;refine ⟨fun b=>S b∨Zay L k bk b,L,⟨⟨fun b hb=>?_,fun b hb=>?_,h.cls.ein,h.cls.uin,h.cls.bsz,fun k' x g hx hg=>?_,fun k' x hx=>?_,fun k1 k2 x x' g hx hx'=>?_,h.cls.g⟩,fun t=>?_,h.size,h.defers,h.kept⟩,fun _=>Iff.rfl⟩
 ·rcases hb with hb | hb
  ·exact h.cls.sin b hb
  ·exact ⟨(ho.lt hb).1,h.cls.notE hm hb⟩
 ·rcases hb with hb | hb
  ·exact h.cls.sfr b hb
  ·rcases h.cls.mine k bk b hm hb with h1 | h1
   ·exact .inr (.inl h1)
   ·exact .inr (.inr h1)
 ·rw [ZaC] at hx;split at hx
  ·cases hx
  ·exact h.cls.mine k' x g hx hg
 ·rw [ZaC] at hx;split at hx
  ·cases hx
  ·rename_i hne;have ho':=h.cls.own k' x hx;refine ho'.keep (Tai _) (fun _ _ _=>rfl) hin (fun g hg=>⟨rfl,fun hs=>?_⟩);rcases hs with hs | hs
   ·exact (ho'.lt hg).2 hs
   ·exact hne (h.cls.inj k' k x bk g hx hm hg hs)
 ·rw [ZaC] at hx hx';split at hx
  ·cases hx
  ·split at hx'
   ·cases hx'
   ·exact h.cls.inj k1 k2 x x' g hx hx'
 ·show ARel w _ L (gs (frzS k bk σ.s) t) _;rw [Zmc];have hr:=h.rel t;generalize gs σ.s t=x at hr ⊢;generalize a.tmps.getD t undef=v at hr ⊢;have keep:ARel w (fun b=>S b∨Zay L k bk b) L x v:=hr.keep (Tai _) (fun _ _ _=>rfl) hin
  cases x with
  | undef=>trivial
  | no=>exact hr
  | d x=>exact keep
  | tup xs=>exact keep
  | ref k' off =>
   simp only [frzA];by_cases hk:k'=k
   ·simp only [hk,if_true];subst hk
    cases bk with
    | var o cs =>
     obtain ⟨q0,q1,q2,q3,q4⟩:=ho;have hr:v=.pointer (some ⟨L.b k',off,none⟩):=hr;simp only [ARel,DRel,Rep];refine ⟨L.b k',off,hr,.inr rfl,q1,?_⟩;have:=q4.drop off;rw [Nat.zero_add] at this;exact Zaj.keep2 (Tai _) (fun _ _ _=>rfl) hin _ (fun _=>rfl) _ _ this
    | buf o ety sz rows=>trivial
    | set E G=>trivial
   ·simp only [hk,if_false];exact hr
  | buf k' =>
   simp only [frzA];by_cases hk:k'=k
   ·simp only [hk,if_true];subst hk
    cases bk with
    | var o cs=>trivial
    | set E G=>trivial
    | buf o ety sz rows =>
     have hr:v=L.v k':=hr;rw [hr];exact ZaE.rep ho.2
   ·simp only [hk,if_false];exact hr
  | row k' j sz off =>
   simp only [frzA];by_cases hk:k'=k
   ·simp only [hk,if_true];trivial
   ·simp only [hk,if_false];exact hr
theorem Sim.freeze1 (h:Sim e U w0 S0 nt σ a w S L) (he:e.Ok) {k:Nat} {bk:Bk} (hm:gm σ.m k=some bk):SimE e U w0 S0 nt ⟨frzS k bk σ.s,remM k σ.m⟩ a w :=
 (h.freeze2 he hm).elim fun S' q=>q.elim fun L' q=>⟨S',L',q.1⟩
theorem SimE.frz (h:SimE e U w0 S0 nt σ a w) (he:e.Ok) (k:Nat):SimE e U w0 S0 nt (frz k σ) a w:=by
 obtain ⟨S,L,h'⟩:=id h;unfold Proofs.YtmdkimnlbaahbaaGreatDoor.frz frzB;split
 ·rename_i bk hm;exact h'.freeze1 he hm
 ·exact h
theorem SimE.frzs (he:e.Ok):∀ (ks:List Nat) (σ:St),SimE e U w0 S0 nt σ a w->SimE e U w0 S0 nt (frzs ks σ) a w
 | [],σ,h=>h
 | k::ks,σ,h=>SimE.frzs he ks _ (h.frz he k)
theorem Sim.rename (h:Sim e U w0 S0 nt σ a w S L) (he:e.Ok) {o:Option (Option Addr × Nat)} {k d ety sz:Nat} {rows:List (List C)} (hd:d < nt) (hm:gm σ.m k=some (.buf o ety sz rows)):SimE e U w0 S0 nt (ownE σ k d (.buf o ety sz rows)) (a.put (some d) (L.v k)) w:=by
 have ho:=h.cls.own k _ hm;refine h.born he hd (τ:=vblk (L.v k)) (b':=0) (v':=L.v k) (s1:=Zaq k σ.s) (m1:=remM k σ.m) (fun _ h=>h) (fun _ h=>.inl h) (fun t=>?_) (fun k' x hx=>?_) (fun g hg=>⟨(ho.lt (g:=g) hg).2,h.cls.notE hm hg,h.cls.mine k _ g hm hg⟩) (fun k' x g hkd hx hg hb=>?_) (Kept.refl _ _ _ _) ?_ (fun g hg=>.inl (by simpa [Zay] using hg)) (by simp [ARel])
 ·rcases Zd0 k t σ.s with ⟨h1,_⟩ | h1
  ·exact .inl h1
  ·exact .inr h1
 ·rw [ZaC] at hx;split at hx
  ·cases hx
  ·exact hx
 ·rw [ZaC] at hx;split at hx
  ·cases hx
  ·rename_i hne;exact hne (h.cls.inj k' k x _ g hx hm hb hg)
 ·simp only [Own1,if_true];exact ho
theorem Sim.empty (h:Sim e U w0 S0 nt σ a w S L) (he:e.Ok) {d ety sz:Nat} {v:Value} (hd:d < nt) (hs:0 < sz) (hv:DRel w S (.clip []) v):SimE e U w0 S0 nt ⟨(d,.buf d)::Zaq d σ.s,(d,.buf none ety sz [])::remM d σ.m⟩ (a.put (some d) v) w:=by
 obtain ⟨h1,b,n,rfl⟩:=hv;obtain ⟨A,n',cap,hv,hn,_⟩:=h1.form;injection hv with q1 q2 q3
 have hn0:n=0:=by rw [q2];simpa using hn.symm
 subst hn0;refine h.born he hd (τ:=none) (b':=0) (v':=.slice b 0 0) (fun _ h=>h) (fun _ h=>.inl h) (fun t=>.inl rfl) (fun k x h=>h) (by simp) (by simp) (Kept.refl _ _ _ _) ?_ (fun g hg=>?_) (by simp [ARel])
 ·simp only [Own1,if_true];exact ⟨by simp,hs,rowsLen.nil,.inl ⟨rfl,b,rfl⟩⟩
 ·simp only [Zay,if_true] at hg
  cases b <;> simp [vblk] at hg
end
section
variable {P:Program} {w:World}
theorem ZxE (ts:Array TypeId) (t ty e:TypeId) (i:TypeInfo) (z:Value) (h0:ts[0]?=some t) (h1:ts[1]?=some t) (ht:P.underlying t=some (.slice e)) (hi:P.info? e=some i) (hz:i.zero=some z) (b:Option Addr) (sLen sCap:Nat) (olds:List Value) (x:Value) (n:Nat) (news:List Value)
  (hln:(Builtin.lenOf x).run P w=.ok n w) (hfo:(Builtin.firstCells i.size sLen (.slice b sLen sCap)).run P w.drew=.ok olds.toArray w.drew) (hf:(Builtin.firstCells i.size n x).run P w.drew=.ok news.toArray w.drew) (hg:sCap < sLen+n) (h63:((sLen+n:Nat):Int)<=9223372036854775807) (hfit:Builtin.nextslicecap (sLen+n) sCap * i.bytes<=281474976710656) :
  (Builtin.append_ ts ty #[.slice b sLen sCap,x]).run P w=.ok (.slice (some ⟨w.heap.size,0,none⟩) (sLen+n) (grownCap w (sLen+n) sCap e)) (w.drew.alloc (.cells (olds.toArray++news.toArray++Builtin.zeroCells z.cells (grownCap w (sLen+n) sCap e - (sLen+n))) e)):=by
 have hn:¬ (sLen+n<=sCap):=om;have h63':¬ (9223372036854775807 < ((sLen:Int)+(n:Int))):=om;have h48':¬ (281474976710656 < Builtin.nextslicecap (sLen+n) sCap * i.bytes):=om;have e1:olds.toArray++(news.toArray++Builtin.zeroCells z.cells (grownCap w (sLen+n) sCap e - (sLen+n)))=(olds++news).toArray++Builtin.zeroCells z.cells (grownCap w (sLen+n) sCap e - (sLen+n)):=by
  apply Array.toList_inj.1;simp
 unfold grownCap at e1;simp [Builtin.append_,h0,h1,run_underlying ht,sizeOf,typeInfo,zeroValue,hi,hz,hln,hn,h63',h48',Question.forced,hf,hfo,newRow,grownCap,e1]
theorem ZxF (ts:Array TypeId) (t ty e:TypeId) (i:TypeInfo) (h0:ts[0]?=some t) (h1:ts[1]?=some t) (ht:P.underlying t=some (.slice e)) (hi:P.info? e=some i) (g sLen sCap:Nat) (cur:Array Value) (hg:w.heap[g]?=some (.cells cur e (0,0))) (x:Value) (n:Nat) (news:List Value)
  (hln:(Builtin.lenOf x).run P w=.ok n w) (hf:(Builtin.firstCells i.size n x).run P w=.ok news.toArray w) (hone:∀ u∈news,u.oneCell'=true) (hroom:sLen+n<=sCap) (hfit:sLen * i.size+news.length<=cur.size) :
  (Builtin.append_ ts ty #[.slice (some ⟨g,0,none⟩) sLen sCap,x]).run P w=.ok (.slice (some ⟨g,0,none⟩) (sLen+n) sCap) (w.setRow g (cur.toList.take (sLen * i.size)++news++cur.toList.drop (sLen * i.size+news.length)).toArray):=by
 have hst:=run_storeCells_at P g (sLen * i.size) e news 0 cur w hg (by simpa using hfit) hone;simp only [Nat.add_zero] at hst;simp [Builtin.append_,h0,h1,run_underlying ht,sizeOf,typeInfo,hi,hln,hroom,hf,Addr.add_lit,hst]
theorem ZxG (ts:Array TypeId) (t ty e:TypeId) (i:TypeInfo) (h0:ts[0]?=some t) (h1:ts[1]?=some t) (ht:P.underlying t=some (.slice e)) (hi:P.info? e=some i) (b:Option Addr) (x:Value)
  (hln:(Builtin.lenOf x).run P w=.ok 0 w) (hf:(Builtin.firstCells i.size 0 x).run P w=.ok #[] w) :
  (Builtin.append_ ts ty #[.slice b 0 0,x]).run P w=.ok (.slice b 0 0) w:=by
 cases b <;> simp [Builtin.append_,h0,h1,run_underlying ht,sizeOf,typeInfo,hi,hln,hf,storeCells]
end
section
variable {e:Env} {U:Nat->Prop} {w0:World} {S0:Nat->Prop} {nt:Nat} {σ:St} {a:Act} {w:World} {S:Nat->Prop} {L:Lay} {o:Oper}
theorem ZfF {rows:List (List C)} {sz:Nat} {v:Value} (hl:rowsLen sz rows) (h:Rep w S (.sl rows) v):∃ (b:Option Addr) (cap:Nat) (news:List Value),v=.slice b rows.length cap∧rows.length<=cap∧cap<=maxLen∧Zad w S rows.flatten news∧∀ (P:Program) (w':World),(∀ p,w'.cell? p=w.cell? p)->(Builtin.firstCells sz rows.length v).run P w'=.ok news.toArray w':=by
 simp only [Rep] at h;obtain ⟨A,n,cap,rfl,hn,hc,hm,h4⟩:=h;subst hn;by_cases h0:0 < rows.length
 ·obtain ⟨b,off,rfl,hs,hb,hr⟩:=h4 h0;obtain ⟨news,h5,h6⟩:=hr.flat.vals;refine ⟨_,_,news,rfl,hc,hm,h5,fun P w' hw=>?_⟩;exact run_firstCells_some w' sz rows.length _ _ _ news (by rw [h5.len,Zb5 hl]) (fun j u hj=>by rw [hw,Addr.add_at];exact h6 j u hj)
 ·have hr:rows=[]:=Tao om;subst hr;refine ⟨_,_,[],rfl,hc,hm,by simp [Zad],fun P w' _=>?_⟩
  cases A <;> simp [Builtin.firstCells,loadCells,loadCellsFrom]
theorem ZiC {rows:List (List C)} {ety sz:Nat} {v:Value} (h:ZaE w S ety sz rows v):∃ (b:Option Addr) (cap:Nat) (news:List Value),v=.slice b rows.length cap∧rows.length<=cap∧cap<=maxLen∧Zad w S rows.flatten news∧∀ (P:Program) (w':World),(∀ p,w'.cell? p=w.cell? p)->(Builtin.firstCells sz rows.length v).run P w'=.ok news.toArray w':=by
 obtain ⟨h1,hl,h3⟩:=h;rcases h3 with ⟨rfl,b,rfl⟩ | ⟨g,cap,cur,rfl,hc,hg,hs,hh,hlc,hm,hcs,hr⟩
 ·refine ⟨_,_,[],rfl,Tai _,Taj _,by simp [Zad],fun P w' _=>?_⟩
  cases b <;> simp [Builtin.firstCells,loadCells,loadCellsFrom]
 ·obtain ⟨news,h5,h6⟩:=hr.flat.vals;refine ⟨_,_,news,rfl,hlc,hm,h5,fun P w' hw=>?_⟩;exact run_firstCells_some w' sz rows.length _ _ _ news (by rw [h5.len,Zb5 hl]) (fun j u hj=>by rw [hw,Addr.add_at];exact h6 j u hj)
theorem ZmA (hC:Cls e U w0.heap.size S0 σ.m w S L) {y:A} {v:Value} {ys:List (List C)} {sz:Nat} (h:slA σ.m y=some ys) (hr:ARel w S L y v) (hl:rowsLen sz ys) :
  ∃ (b:Option Addr) (cap:Nat) (news:List Value),v=.slice b ys.length cap∧Zad w S ys.flatten news∧∀ (P:Program) (w':World),(∀ p,w'.cell? p=w.cell? p)->(Builtin.firstCells sz ys.length v).run P w'=.ok news.toArray w':=by
 unfold slA at h;split at h
 ·injection h with h;subst h
  obtain ⟨b,cap,news,q1,_,_,q2,q3⟩:=ZfF hl hr;exact ⟨b,cap,news,q1,q2,q3⟩
 ·injection h with h;subst h
  obtain ⟨b,cap,news,q1,_,_,q2,q3⟩:=ZfF hl hr.1;exact ⟨b,cap,news,q1,q2,q3⟩
 ·rename_i k;unfold bufA at h;split at h
  ·rename_i o' e' sz' rows' hm;injection h with h;subst h
   have hr:v=L.v k:=hr;have ho:ZaE w S e' sz' rows' (L.v k):=(hC.own k _ hm).2;rw [hr];by_cases h0:rows'=[]
   ·subst h0;obtain ⟨_,_,h3⟩:=ho;rcases h3 with ⟨_,b,hv⟩ | ⟨g,cap,cur,hv,_⟩
    ·refine ⟨b,0,[],hv,by simp [Zad],fun P w' _=>?_⟩;rw [hv]
     cases b <;> simp [Builtin.firstCells,loadCells,loadCellsFrom]
    ·refine ⟨_,cap,[],hv,by simp [Zad],fun P w' _=>?_⟩;rw [hv];simp [Builtin.firstCells,loadCells,loadCellsFrom]
   ·have hss:sz'=sz:=by
     obtain ⟨r,hr0⟩:=List.exists_mem_of_ne_nil _ h0;have h1:=(hl r hr0).1;have h2:=(ho.2.1 r hr0).1;omega
    subst hss;obtain ⟨b,cap,news,q1,_,_,q2,q3⟩:=ZiC ho;exact ⟨b,cap,news,q1,q2,q3⟩
  ·cases h
 ·cases h
theorem ZgU (w:World) (p:Addr):w.drew.cell? p=w.cell? p:=by simp
theorem ZiD {W:World} {ety sz n:Nat} {rows:List (List C)} {cells rest:List Value} {cap:Nat} {w:World} (hs:0 < sz) (hl:rowsLen sz rows) (hz:w.heap.size<=W.heap.size) (hk:∀ b o,S b->W.cell? ⟨b,o,none⟩=w.cell? ⟨b,o,none⟩) (hr:Zad w S rows.flatten cells) (hc:rows.length<=cap) (hm:cap<=maxLen) (h0:0 < cap) {g:Nat} (hg:g < W.heap.size) (hgs:¬ S g)
  (hh:W.heap[g]?=some (.cells (cells++rest).toArray ety (0,0))) (hcs:(cells++rest).length=cap * sz):ZaE W S ety sz rows (.slice (some ⟨g,0,none⟩) rows.length cap):=by
 refine ⟨hs,hl,.inr ⟨g,cap,_,rfl,h0,hg,hgs,hh,hc,hm,by simpa using hcs,?_⟩⟩;apply Zap.of_flat;refine Zaj.of_vals _ _ 0 (Zad.keep2 hz hk (fun _ h=>h) hr) (fun j u hj=>?_);rw [Nat.zero_add];have hj':j < cells.length:=(Tad.1 hj).1;unfold World.cell?;simp only [hh];simp [Tbp hj',hj]
theorem Zf3 (he:e.Ok) (hC:Cls e U w0.heap.size S0 σ.m w S L) {ts:Array TypeId} {t ty:TypeId} {ety sz by':Nat} (h0:ts[0]?=some t) (h1:ts[1]?=some t) (hb:Zbj e.P t=some (ety,sz,by')) {rows ys:List (List C)} {v u:Value}
  (hv:ZaE w S ety sz rows v∨(DRel w S (.clip rows) v∧(rows=[]∨ys≠[]))) (hrl:rowsLen sz rows) (hyl:rowsLen sz ys) (hle:rows.length+ys.length<=maxApp)
  (hy:∃ (b:Option Addr) (cap:Nat) (news:List Value),u=.slice b ys.length cap∧Zad w S ys.flatten news∧∀ (P:Program) (w':World),(∀ p,w'.cell? p=w.cell? p)->(Builtin.firstCells sz ys.length u).run P w'=.ok news.toArray w') :
  ∃ v' w',(Builtin.append_ ts ty #[v,u]).run e.P w=.ok v' w'∧ZaE w' S ety sz (rows++ys) v'∧∃ τ:Option Nat,Kept e.D (fun b=>τ=some b) w.heap.size w w'∧(∀ g,τ=some g->vblk v=some g∧ZaE w S ety sz rows v)∧(∀ g,vblk v'=some g->τ=some g∨w.heap.size<=g):=by
 obtain ⟨i,z,hu,hi,hz,hsz,hby,hzs,hs0,hb4⟩:=ZcV hb;obtain ⟨yb,ycap,news,hu1,hnews,hf⟩:=hy;have hln:∀ w',(Builtin.lenOf u).run e.P w'=.ok ys.length w':=fun w'=>by rw [hu1];simp [Builtin.lenOf]
 have hnl:news.length=ys.length * sz:=by rw [hnews.len,Zb5 hyl]
 have hone:=ZeS (Zl8 hyl) hnews;have hm30:rows.length+ys.length<=1073741824:=hle;have hbytes:(rows.length+ys.length) * i.bytes<=140737488355328:=by
  have h2:(rows.length+ys.length) * i.bytes<=1073741824 * 4096:=Nat.mul_le_mul hm30 om;omega
 have hrl2:rowsLen sz (rows++ys):=hrl.append hyl
 have grow:∀ (b:Option Addr) (cap:Nat) (olds:List Value),v=.slice b rows.length cap->cap < rows.length+ys.length->Zad w S rows.flatten olds->(∀ (P:Program) (w':World),(∀ p,w'.cell? p=w.cell? p)->(Builtin.firstCells sz rows.length v).run P w'=.ok olds.toArray w') ->
   ∃ v' w',(Builtin.append_ ts ty #[v,u]).run e.P w=.ok v' w'∧ZaE w' S ety sz (rows++ys) v'∧∃ τ:Option Nat,Kept e.D (fun b=>τ=some b) w.heap.size w w'∧(∀ g,τ=some g->vblk v=some g∧ZaE w S ety sz rows v)∧(∀ g,vblk v'=some g->τ=some g∨w.heap.size<=g):=by
  intro b cap olds hv hlt hol hfo;have h63:rows.length+ys.length<=maxLen:=by unfold maxLen;omega
  have hrun:=ZxE ts t ty ety i z h0 h1 hu hi hz b rows.length cap olds u ys.length news (hln w) (by rw [hsz,<- hv];exact hfo _ _ (ZgU w)) (by rw [hsz];exact hf _ _ (ZgU w)) hlt om (growslice_fits om hbytes);rw [<- hv] at hrun;have hge:=grownCap_ge w (rows.length+ys.length) cap ety;have hcm:=grownCap_le_maxLen w (rows.length+ys.length) cap ety h63;generalize hcap:grownCap w (rows.length+ys.length) cap ety=nc at hrun hge hcm
  have hcl:olds.length=rows.length * sz:=by rw [hol.len,Zb5 hrl]
  have hk:Kept e.D (fun b=>(none:Option Nat)=some b) w.heap.size w (w.drew.alloc (.cells (olds.toArray++news.toArray++Builtin.zeroCells z.cells (nc - (rows.length+ys.length))) ety)) :=
   ⟨rfl,rfl,rfl,fun _=>Nat.le_succ _,by simp,fun k hk _=>heap_alloc_old w.drew _ hk⟩
  have hheap:=heap_alloc_new w.drew (.cells (olds.toArray++news.toArray++Builtin.zeroCells z.cells (nc - (rows.length+ys.length))) ety);have hsW:(w.drew.alloc (.cells (olds.toArray++news.toArray++Builtin.zeroCells z.cells (nc - (rows.length+ys.length))) ety)).heap.size=w.heap.size+1:=by simp
  have e1:olds.toArray++news.toArray++Builtin.zeroCells z.cells (nc - (rows.length+ys.length))=((olds++news)++(Builtin.zeroCells z.cells (nc - (rows.length+ys.length))).toList).toArray:=by
   apply Array.toList_inj.1;simp
  rw [e1] at hrun hk hheap hsW;generalize w.drew.alloc (.cells ((olds++news)++(Builtin.zeroCells z.cells (nc - (rows.length+ys.length))).toList).toArray ety)=W at hrun hk hheap hsW;refine ⟨_,_,hrun,?_,none,hk,by simp,fun g hg=>?_⟩
  ·have hlen:rows.length+ys.length=(rows++ys).length:=by simp
   rw [hlen];refine ZiD (w:=w) (cells:=olds++news) (rest:=(Builtin.zeroCells z.cells (nc - (rows.length+ys.length))).toList) (n:=0) hs0 hrl2 hk.size (fun b o hs=>Zbg (hk.block b (hC.sin b hs).1 (by simp)) o) ?_ (by simp;omega) hcm om (g:=w.heap.size) om (fun hs=>by have:=(hC.sin _ hs).1;omega) ?_ ?_
   ·rw [List.flatten_append];exact Zad.app hol hnews
   ·exact hheap
   ·simp only [Tae,Array.length_toList,size_zeroCells,hzs,hcl,hnl,<- Nat.add_mul];congr 1;omega
  ·simp only [vblk] at hg;split at hg
   ·cases hg
   ·injection hg with hg;exact .inr om
 have stay:∀ (b:Option Addr),rows=[]->ys=[]->v=.slice b 0 0->∃ v' w',(Builtin.append_ ts ty #[v,u]).run e.P w=.ok v' w'∧ZaE w' S ety sz (rows++ys) v'∧∃ τ:Option Nat,Kept e.D (fun b=>τ=some b) w.heap.size w w'∧(∀ g,τ=some g->vblk v=some g∧ZaE w S ety sz rows v)∧(∀ g,vblk v'=some g->τ=some g∨w.heap.size<=g):=by
  intro b hr hy hvb;subst hr hy;have hn0:news=[]:=Tao (by simpa using hnl);have hrun:=ZxG (P:=e.P) (w:=w) ts t ty ety i h0 h1 hu hi b u (hln w) (by rw [hsz];have:=hf e.P w (fun _=>rfl);rw [hn0] at this;simpa using this);rw [hvb];refine ⟨_,_,hrun,⟨hs0,by simpa using rowsLen.nil,.inl ⟨by simp,b,rfl⟩⟩,none,Kept.refl _ _ _ _,by simp,fun g hg=>?_⟩
  cases b <;> simp [vblk] at hg
 rcases hv with hv | ⟨hv,hne⟩
 ·have hv0:=hv;obtain ⟨_,_,h3⟩:=hv;rcases h3 with ⟨hr,b,hvb⟩ | ⟨g,cap,cur,hvb,hc,hg,hs,hh,hlc,hm,hcs,hr⟩
  ·by_cases hy0:ys=[]
   ·exact stay b hr hy0 hvb
   ·have hyl0:0 < ys.length:=List.length_pos_iff.2 hy0;subst hr;refine grow b 0 [] hvb (by simpa using hyl0) (by simp [Zad]) (fun P w' _=>?_);rw [hvb]
    cases b <;> simp [Builtin.firstCells,loadCells,loadCellsFrom]
  ·by_cases hroom:rows.length+ys.length<=cap
   ·have hfit:rows.length * i.size+news.length<=cur.size:=by rw [hnl,hsz,hcs,<- Nat.add_mul];exact Nat.mul_le_mul_right _ hroom
    have hrun:=ZxF (P:=e.P) (w:=w) ts t ty ety i h0 h1 hu hi g rows.length cap cur hh u ys.length news (hln w) (by rw [hsz];exact hf _ _ (fun _=>rfl)) hone hroom hfit;rw [<- hvb] at hrun;rw [hsz] at hrun hfit;have hput:=Zf1 w g (rows.length * sz) ety news cur hh hfit;have hheap:=setRow_heap w g cur (cur.toList.take (rows.length * sz)++news++cur.toList.drop (rows.length * sz+news.length)).toArray ety _ hh
    have hdr:(w.setRow g (cur.toList.take (rows.length * sz)++news++cur.toList.drop (rows.length * sz+news.length)).toArray).drawn=w.drawn:=ZeT _ _ _;generalize hW:w.setRow g (cur.toList.take (rows.length * sz)++news++cur.toList.drop (rows.length * sz+news.length)).toArray=W at hrun hput hheap hdr;have hszW:W.heap.size=w.heap.size:=hput.size;have hkc:∀ b o,S b->W.cell? ⟨b,o,none⟩=w.cell? ⟨b,o,none⟩:=fun b o hsb=>Zbg (hput.other b (fun e=>hs (e ▸ hsb))) o
    refine ⟨_,_,hrun,⟨hs0,hrl2,.inr ⟨g,cap,_,by simp,hc,om,hs,hheap,by simpa using hroom,hm,by simp;omega,?_⟩⟩,some g,⟨hput.os,hput.tape,hput.output,fun _=>Nat.le_of_eq hdr.symm,om,fun b hb hE=>hput.other b (fun eq=>hE (by rw [eq]))⟩,fun q hq=>?_,fun q hq=>?_⟩
    ·apply Zap.of_flat;rw [List.flatten_append];have r1:=Zaj.keepAt (S':=S) om hkc (fun _ h=>h) g 0 rows.flatten (fun j hj=>hput.old _ (.inl (by rw [Zb5 hrl] at hj;omega))) hr.flat;refine Zaj.append _ _ 0 r1 ?_;rw [Zb5 hrl,Nat.zero_add];exact Zaj.of_vals _ news _ (Zad.keep2 om hkc (fun _ h=>h) hnews) hput.new
    ·injection hq with hq;subst hq
     exact ⟨by rw [hvb];simp only [vblk];rw [if_neg om],hv0⟩
    ·simp only [vblk] at hq;rw [if_neg om] at hq;exact .inl hq
   ·obtain ⟨b',cap',olds,q1,_,_,q2,q3⟩:=ZiC hv0;rw [hvb] at q1;injection q1 with e1 e2 e3
    exact grow _ _ olds hvb om q2 q3
 ·obtain ⟨hrep,b,n,hvb⟩:=hv;obtain ⟨b',cap',olds,q1,q2,q3,q4,q5⟩:=ZfF hrl hrep;rw [hvb] at q1;injection q1 with e1 e2 e3
  by_cases hy0:ys=[]
  ·have hr:rows=[]:=by
    rcases hne with h | h
    ·exact h
    ·exact absurd hy0 h
   refine stay b hr hy0 ?_;rw [hvb];have:n=0:=by rw [e2,hr];rfl
   rw [this]
  ·have hyl0:0 < ys.length:=List.length_pos_iff.2 hy0;exact grow b n olds (by rw [hvb,e2]) om q4 q5
end
section
variable {e:Env} {U:Nat->Prop} {w0:World} {S0:Nat->Prop} {nt:Nat} {σ:St} {a:Act} {w:World} {S:Nat->Prop} {L:Lay} {o:Oper} {Q:Exit->Act->World->Prop}
theorem Zc2 {x:A} {v:Value} {f:FuncId} {caps:List C} (h:Zcu x=some (f,caps)) (hr:ARel w S L x v):∃ us:List Value,v=.func (.func f) #[] us.toArray∧Zad w S caps us:=by
 unfold Zcu at h;split at h
 ·simp only [Taq,Prod.mk.injEq] at h;obtain ⟨rfl,rfl⟩:=h;simpa [ARel,DRel,Rep] using hr
 ·cases h
theorem Zd1 {c:Operand} {args:Array Operand} {ts:Array TypeId} (ho:o.op=.call ⟨.value c,args,ts⟩) {ρv:Operand->Value} {f:FuncId} {us:List Value} (hv:ρv c=.func (.func f) #[] us.toArray) (hb:Zco e.P f=true) :
  (execOp ρv o).run e.P w=.ok (.enter f (args.toList.map ρv++us).toArray) w:=by
 have ha:#[]++args.map ρv++us.toArray=(args.toList.map ρv++us).toArray:=by
  apply Array.toList_inj.1;simp
 unfold Zco at hb;split at hb
 ·rename_i fn hfn;simp only [Tar,Bool.not_eq_true'] at hb;obtain ⟨hb1,hb2⟩:=hb;have hb3:fn.body.isNone=false:=by rw [Option.isNone_eq_false_iff];exact hb2
  simp only [execOp,ho,resolve,hv,Deferred.ofValue,invoke,callFunc,Sem.run_bind,Sem.run_pure,Result.andThen_ok,run_program,hfn,hb1,hb3,Tam,if_false];rw [<- ha]
 ·cases hb
theorem ZhW {c:Operand} {args:Array Operand} {ts:Array TypeId} (ho:o.op=.call ⟨.value c,args,ts⟩):c∈o.op.operands∧∀ x∈args.toList,x∈o.op.operands:=by
 refine ⟨by simp [ho,Op.operands,Call.operands],fun x hx=>?_⟩;simp [ho,Op.operands,Call.operands];exact .inr (by simpa using hx)
theorem ZkT {m:List (Nat × Bk)} {base:Nat} {ρ:Operand->A} {c:Operand} {args:Array Operand} {ts:Array TypeId} (ho:o.op=.call ⟨.value c,args,ts⟩) {f:FuncId} {caps:List C} {xs r:List D} (hc:Zcu (ρ c)=some (f,caps)) (hx:dsA (args.toList.map ρ)=some xs) (hcon:Con e f (xs++caps.map .one) r) :
  ZaW e U base S0 m o ρ (retA r):=by
 intro w S L ρv hC hr;obtain ⟨m1,m2⟩:=ZhW ho;obtain ⟨us,hv,hus⟩:=Zc2 hc (hr c m1);have hds:Zav w S xs (args.toList.map ρv):=ZdY hx (by simp) (mapx (fun p hp=>hr p (m2 p hp)));obtain ⟨hbody,hcon⟩:=hcon;have hcl:=hcon w S _ hC.sin (fun b hb=>Tbd (hC.ein b hb) hC.bsz) hC.g (hds.append (Zav.caps hus));unfold gives;rw [Zd1 ho hv hbody];refine hcl.mono fun en w' ⟨v,h1,h2,h3,h4⟩=>⟨v,h1,_,⟨fun b hb=>.inl hb,fun b hb=>hb.elim .inl (fun q=>.inr q.1)⟩,hC.later h2 h3 (fun b hb=>.inl hb) (fun b hb=>hb),h2,?_⟩
 cases r with
 | nil=>exact h4
 | cons y ys =>
  cases ys with
  | nil=>exact h4
  | cons z zs=>exact h4
theorem ZeU {α:A} (h:Sim e U w0 S0 nt σ a w S L) (hd:∀ d,o.dst=some d->d < nt) (hG:ZaW e U w0.heap.size S0 σ.m o (evA σ.s) α):o.wp e.P a w (SimE e U w0 S0 nt ⟨setA σ.s o.dst α,σ.m⟩) Q:=by
 refine Zc0 (hG w S L a.eval h.cls (fun x _=>h.eval x)) fun v w' ⟨S',hS,hC,hk,hr⟩=>?_;exact ⟨S',L,(h.later hC hk hS.1).put hr hd⟩
theorem ZhX (h:SimE e U w0 S0 nt σ a w) (he:e.Ok) {q:Bool} {ks:List Nat} {σ':St} (hf:frzQ q ks σ=some σ'):SimE e U w0 S0 nt σ' a w:=by
 unfold frzQ at hf;split at hf
 ·injection hf with hf;subst hf;exact h
 ·split at hf
  ·cases hf
  ·injection hf with hf;subst hf;exact SimE.frzs he _ _ h
theorem ZsM (z:Value) (sz:Nat) (hs:0 < sz) (hz:z.cells.size=sz) (n:Nat):(madeCells z.cells (n * sz)).toList=(List.replicate n z).flatMap fun v=>v.cells.toList:=by
 apply List.ext_getElem?;intro k;rw [Go.Great.flat_get hs (List.replicate n z) (fun v hv=>by rw [List.eq_of_mem_replicate hv];exact hz) k];simp only [madeCells,Array.toList_map,Tba,Array.getElem?_toList,Array.getElem?_range];by_cases hk:k < n * sz
 ·have hd:k / sz < n:=(Nat.div_lt_iff_lt_mul hs).2 hk;have hmod:k % sz < z.cells.size:=by rw [hz];exact Nat.mod_lt k hs
  simp [hk,hd,Tbr,hz,hmod];rw [getElem!_pos z.cells (k % sz) hmod,Array.getElem?_eq_getElem hmod]
 ·have hd:¬ k / sz < n:=fun h=>hk ((Nat.div_lt_iff_lt_mul hs).1 h);simp [hk,hd,Tbr]
theorem ZmB {z:Value}:∀ (n:Nat),Zad w S (List.replicate n (z.cells.toList.map toC)).flatten ((List.replicate n z).flatMap fun v=>v.cells.toList)
 | 0=>by simp [Zad]
 | n+1=>by
  simp only [List.replicate_succ,List.flatten_cons,List.flatMap_cons];exact Zad.app (Zb9 _) (ZmB n)
theorem Sim.made (h:Sim e U w0 S0 nt σ a w S L) (he:e.Ok) {d:Nat} (hd:d < nt) {t:TypeId} {l c:Operand} {σ':St} (hdst:o.dst=some d) (ho:o.op=.makeSlice t l c) (hp:ZhS e.P σ o.dst t (evA σ.s l) (evA σ.s c)=some σ'):o.wp e.P a w (SimE e U w0 S0 nt σ') Q:=by
 rw [hdst] at hp;unfold ZhS at hp;split at hp
 ·rename_i d' n n' ety sz by' hd' hl hc hb;injection hd' with hd';subst hd'
  split at hp
  ·rename_i zc hz;split at hp
   ·rename_i hcond;obtain ⟨rfl,hn0,hnm,hzok⟩:=hcond;injection hp with hp;subst hp
    obtain ⟨i,z,hu,hi,hzz,hsz,hby,hzs,hs0,hb4⟩:=ZcV hb;have hzc:zc=z.cells.toList.map toC:=by
     unfold Za3 at hz;simp only [hi,Option.bind_some,hzz,Option.map_some,Taq] at hz;exact hz.symm
    have int:∀ (x:Operand) (k:Int),intA (evA σ.s x)=some k->a.eval x=.int .i64 k:=fun x k hx=>by
     unfold intA at hx;split at hx
     ·rename_i j hj;injection hx with hx;subst hx
      have:=h.eval x;rw [hj] at this;exact Zbk this
     ·cases hx
    have e1:=int l n hl;have e2:=int c n hc;have hm:(n:Int)<=1073741824:=by have:=hnm;simpa [maxApp] using this
    have hbytes:(i.bytes:Int) * n<=281474976710656:=by
     have h1:(i.bytes:Int)<=4096:=om;have:=Int.mul_le_mul h1 hm hn0 (by decide);omega
    have hrun:=run_make (P:=e.P) w t ety i z hu hi hzz .i64 .i64 n n hn0 (Int.le_refl _) hbytes om;rw [hsz] at hrun;have hcells:=ZsM z sz hs0 hzs n.toNat;have hk:Kept e.D (fun b=>(none:Option Nat)=some b) w.heap.size w (w.alloc (.cells (madeCells z.cells (n.toNat * sz)) ety)):=Kept.of_below (ZdW w _) (fun _=>Tai _);have hheap:=heap_alloc_new w (.cells (madeCells z.cells (n.toNat * sz)) ety);have hsW:(w.alloc (.cells (madeCells z.cells (n.toNat * sz)) ety)).heap.size=w.heap.size+1:=by simp
    have hsz2:(madeCells z.cells (n.toNat * sz)).size=n.toNat * sz:=size_madeCells _ _;generalize madeCells z.cells (n.toNat * sz)=mc at hrun hk hheap hsW hcells hsz2;generalize w.alloc (.cells mc ety)=W at hrun hk hheap hsW;have hrl:rowsLen sz (List.replicate n.toNat zc):=fun r hr=>by
     rw [List.eq_of_mem_replicate hr];exact ⟨by rw [hzc];simp [hzs],hzok⟩
    have hbuf:ZaE W S ety sz (List.replicate n.toNat zc) (.slice (some ⟨w.heap.size,0,none⟩) n.toNat n.toNat):=by
     by_cases h0:n.toNat=0
     ·rw [h0];exact ⟨hs0,rowsLen.nil,.inl ⟨rfl,_,rfl⟩⟩
     ·have hlr:(List.replicate n.toNat zc).length=n.toNat:=by simp
      have:=ZiD (S:=S) (W:=W) (w:=w) (ety:=ety) (n:=0) (rows:=List.replicate n.toNat zc) (cells:=mc.toList) (rest:=[]) (cap:=n.toNat) (g:=w.heap.size) hs0 hrl hk.size (fun b o hs=>Zbg (hk.block b (h.cls.sin b hs).1 (by simp)) o) (by rw [hcells,hzc];exact ZmB _) om (by unfold maxLen;omega) om om (fun hs=>by have:=(h.cls.sin _ hs).1;omega) (by simpa using hheap) (by simpa using hsz2);rw [hlr] at this
      exact this
    have hres:SimE e U w0 S0 nt ⟨(d,.buf d)::Zaq d σ.s,(d,.buf none ety sz (List.replicate n.toNat zc))::remM d σ.m⟩ (a.put (some d) (.slice (some ⟨w.heap.size,0,none⟩) n.toNat n.toNat)) W:=by
     refine h.born he hd (τ:=none) (b':=0) (v':=.slice (some ⟨w.heap.size,0,none⟩) n.toNat n.toNat) (fun _ h=>h) (fun _ h=>.inl h) (fun t=>.inl rfl) (fun k x h=>h) (by simp) (by simp) hk ?_ (fun g hg=>?_) (by simp [ARel])
     ·simp only [Own1,if_true];exact ⟨by simp,hbuf⟩
     ·simp only [Zay,if_true,vblk] at hg;split at hg
      ·cases hg
      ·injection hg with hg;exact .inr om
    unfold Oper.wp;have hx:(execOp a.eval o).run e.P w=.ok (.value (.slice (some ⟨w.heap.size,0,none⟩) n.toNat n.toNat)) W:=by
     simp only [execOp,ho,Sem.run_bind,e1,e2,hrun,Result.andThen_ok,Sem.run_pure]
    rw [hx,Oper.upon_value,hdst];exact hres
   ·cases hp
  ·cases hp
 ·cases hp
theorem Sim.appended (h:Sim e U w0 S0 nt σ a w S L) (he:e.Ok) (hd:∀ d,o.dst=some d->d < nt) {args:Array Operand} {ts:Array TypeId} {σ':St} (ho:o.op=.call ⟨.builtin .append,args,ts⟩) (hp:Zge e.P σ o.dst ts (args.toList.map fun x=>nrm σ.m (evA σ.s x))=some σ'):o.wp e.P a w (SimE e U w0 S0 nt σ') Q:=by
 unfold Zge at hp;split at hp
 ·rename_i d x y t hds hxy ht0;split at hp
  ·rename_i ht1;split at hp
   ·rename_i ety sz by' ys hb hys;split at hp
    ·rename_i hyb;obtain ⟨p,q,hpq,hpx,hqy⟩:=Zmb hxy;have hp':=Zcp h.cls (h.eval p);have hq':=Zcp h.cls (h.eval q);rw [hpx] at hp';rw [hqy] at hq';have hyl:=ZeM.1 hyb;have hy:=ZmA h.cls hys hq' hyl;have hargs:args.map a.eval=#[a.eval p,a.eval q]:=by
      apply Array.toList_inj.1;simp [hpq]
     obtain ⟨i,z,hu,hi,hz,hsz,hby,hzs,hs0,hb4⟩:=ZcV hb;have exec:∀ v' w',(Builtin.append_ ts o.type #[a.eval p,a.eval q]).run e.P w=.ok v' w'->SimE e U w0 S0 nt σ' (a.put (some d) v') w'->o.wp e.P a w (SimE e U w0 S0 nt σ') Q:=by
      intro v' w' hrun hsim;unfold Oper.wp;have hx:(execOp a.eval o).run e.P w=.ok (.value v') w':=by
       simp only [execOp,ho,resolve,invoke,builtin,Sem.run_bind,Sem.run_pure,Result.andThen_ok,hargs,hrun]
      rw [hx,Oper.upon_value,hds];exact hsim
     split at hp
     ·rename_i k;split at hp
      ·cases hp
      ·rename_i hne;unfold Zhy at hp;split at hp
       ·rename_i o' e' sz' rows hm;split at hp
        ·rename_i hc;obtain ⟨rfl,rfl,hle⟩:=hc;injection hp with hp;subst hp
         have ho':ZaE w S e' sz' rows (L.v k):=(h.cls.own k _ hm).2;have hpv:a.eval p=L.v k:=hp';obtain ⟨v',w',hrun,hbuf,τ,hk,hτ,hblk⟩:=Zf3 (ty:=o.type) (v:=a.eval p) (u:=a.eval q) he h.cls ht0 ht1 hb (.inl (by rw [hpv];exact ho')) ho'.2.1 hyl hle hy;refine exec v' w' hrun ?_;refine h.born he (hd d hds) (τ:=τ) (b':=0) (v':=v') (s1:=Zaq k σ.s) (m1:=remM k σ.m) (fun _ h=>h) (fun _ h=>.inl h) (fun t=>?_) (fun k' x hx=>?_) (fun g hg=>?_) (fun k' x g hkd hx hg hb'=>?_) hk ?_ (fun g hg=>?_) (by simp [ARel])
         ·rcases Zd0 k t σ.s with ⟨h1,_⟩ | h1
          ·exact .inl h1
          ·exact .inr h1
         ·rw [ZaC] at hx;split at hx
          ·cases hx
          ·exact hx
         ·have hg':=(hτ g hg).1;rw [hpv] at hg';exact ⟨(Own1.lt (k:=k) (L:=L) (bk:=.buf none e' sz' rows) ⟨by simp,ho'⟩ hg').2,h.cls.notE hm hg',h.cls.mine k _ g hm hg'⟩
         ·have hg':=(hτ g hg).1;rw [hpv] at hg';rw [ZaC] at hx;split at hx
          ·cases hx
          ·rename_i hne';exact hne' (h.cls.inj k' k x _ g hx hm hb' hg')
         ·simp only [Own1,if_true];exact ⟨by simp,hbuf⟩
         ·simp only [Zay,if_true] at hg;exact hblk g hg
        ·cases hp
       ·cases hp
     ·rename_i rows;split at hp
      ·rename_i hc;obtain ⟨hrb,hle,hem⟩:=hc;injection hp with hp;subst hp
       have hem':rows=[]∨ys≠[]:=by
        simp only [Bool.or_eq_true,List.isEmpty_iff,Bool.not_eq_true',List.isEmpty_eq_false_iff] at hem;exact hem
       obtain ⟨v',w',hrun,hbuf,τ,hk,hτ,hblk⟩:=Zf3 (ty:=o.type) (v:=a.eval p) (u:=a.eval q) he h.cls ht0 ht1 hb (.inr ⟨hp',hem'⟩) (ZeM.1 hrb) hyl hle hy;refine exec v' w' hrun ?_;have hτ0:∀ g,τ=some g->False:=fun g hg=>by
        obtain ⟨q1,q2⟩:=hτ g hg;obtain ⟨_,_,q3⟩:=q2;obtain ⟨r1,b,n,r2⟩:=hp';rcases q3 with ⟨_,b',q4⟩ | ⟨g',cap,cur,q4,q5,q6,q7,_⟩
        ·rw [q4] at q1;cases b' <;> simp [vblk] at q1
        ·obtain ⟨A,n',cap',q8,q9,q10,q11,q12⟩:=by simpa only [Rep] using r1
         rw [q4] at q8;injection q8 with z1 z2 z3
         by_cases hn0:0 < n'
         ·obtain ⟨b2,off,z4,z5,_⟩:=q12 hn0;rw [<- z1] at z4;injection z4 with z4
          injection z4 with z6
          exact q7 (by rw [z6];exact z5)
         ·rw [q4] at r2;injection r2 with y1 y2 y3
          omega
       refine h.born he (hd d hds) (τ:=none) (b':=0) (v':=v') (fun _ h=>h) (fun _ h=>.inl h) (fun t=>.inl rfl) (fun k' x hx=>hx) (by simp) (by simp) ⟨hk.os,hk.tape,hk.output,hk.drawn,hk.size,fun b hb _=>hk.block b hb (fun ht=>hτ0 b ht)⟩ ?_ (fun g hg=>?_) (by simp [ARel])
       ·simp only [Own1,if_true];exact ⟨by simp,hbuf⟩
       ·simp only [Zay,if_true] at hg;rcases hblk g hg with h1 | h1
        ·exact (hτ0 g h1).elim
        ·exact .inr h1
      ·cases hp
     ·cases hp
    ·cases hp
   ·cases hp
  ·cases hp
 ·cases hp
end
section
variable {e:Env} {U:Nat->Prop} {w0:World} {S0:Nat->Prop} {nt:Nat} {σ:St} {a:Act} {w:World} {S:Nat->Prop} {L:Lay} {o:Oper} {Q:Exit->Act->World->Prop}
theorem Zof (he:e.Ok) (h:SimE e U w0 S0 nt σ a w) (hd:∀ d,o.dst=some d->d < nt) {σ':St} (hp:putE σ o.dst (ZgR e.P σ.m (evA σ.s) o.op)=some σ'):o.wp e.P a w (SimE e U w0 S0 nt σ') Q:=by
 obtain ⟨S,L,h⟩:=h;unfold putE at hp;split at hp
 ·rename_i α hα;injection hp with hp;subst hp
  exact ZeU h hd (ZjP he hα)
 ·cases hp
theorem ZiE (he:e.Ok) (h:SimE e U w0 S0 nt σ a w) (hd:∀ d,o.dst=some d->d < nt) {σ':St} {q:Bool} {ks:List Nat} (hp:ZgS e.P o.dst o.op (frzQ q ks σ)=some σ'):o.wp e.P a w (SimE e U w0 S0 nt σ') Q:=by
 unfold ZgS at hp;split at hp
 ·rename_i σ1 hf;exact Zof he (ZhX h he hf) hd hp
 ·cases hp
theorem ZAs (he:e.Ok) (h:SimE e U w0 S0 nt σ a w) (hd:∀ d,o.dst=some d->d < nt) {σ':St} {t:TypeId} {x:Operand} (ho:o.op=.box t x) (hp:newE σ o.dst (ZcD (evA σ.s x))=some σ'):o.wp e.P a w (SimE e U w0 S0 nt σ') Q:=by
 obtain ⟨S,L,h⟩:=h;unfold newE at hp;split at hp
 ·rename_i d cs hds hz;injection hp with hp;subst hp
  obtain ⟨h1,_⟩:=Zem hz (h.eval x);have hn:=h.new he (us:=(a.eval x).cells) (ty:=t) (hd d hds) h1;unfold Oper.wp;have hrun:(execOp a.eval o).run e.P w=.ok (.value (.pointer (some ⟨w.heap.size,0,none⟩))) (w.alloc (.cells (a.eval x).cells t)):=by
   simp [execOp,ho,Instr.box,newVar,newRow,Result.andThen]
  rw [hrun,Oper.upon_value,hds];exact hn
 ·cases hp
theorem ZxH (he:e.Ok) (h:SimE e U w0 S0 nt σ a w) (hd:∀ d,o.dst=some d->d < nt) {σ':St} {t:TypeId} (ho:o.op=.alloc t) (hp:newE σ o.dst (Za3 e.P t)=some σ'):o.wp e.P a w (SimE e U w0 S0 nt σ') Q:=by
 obtain ⟨S,L,h⟩:=h;unfold newE at hp;split at hp
 ·rename_i d cs hds hz;injection hp with hp;subst hp
  unfold Za3 at hz;simp only [Tav,Option.bind_eq_some_iff] at hz;obtain ⟨v,⟨i,hi,hv⟩,rfl⟩:=hz;have hn:=h.new he (us:=v.cells) (ty:=t) (hd d hds) (Zb9 v.cells.toList);unfold Oper.wp;have hrun:(execOp a.eval o).run e.P w=.ok (.value (.pointer (some ⟨w.heap.size,0,none⟩))) (w.alloc (.cells v.cells t)):=by
   simp [execOp,ho,Instr.alloc,zeroValue,typeInfo,hi,hv,newVar,newRow,Result.andThen]
  rw [hrun,Oper.upon_value,hds];exact hn
 ·cases hp
theorem ZxI (he:e.Ok) (h:SimE e U w0 S0 nt σ a w) {σ':St} {t:TypeId} {x y:Operand} (ho:o.op=.store t x y) (hp:Zhx σ o.dst (nrm σ.m (evA σ.s x)) (ZcD (evA σ.s y)) (Zbi e.P t)=some σ'):o.wp e.P a w (SimE e U w0 S0 nt σ') Q:=by
 obtain ⟨S,L,h⟩:=h;unfold Zhx at hp;split at hp
 ·rename_i k off us n hds hx hy hn;unfold Proofs.YtmdkimnlbaahbaaGreatDoor.storeVar at hp;split at hp
  ·rename_i o' cs hm';split at hp
   ·rename_i hc;injection hp with hp;subst hp
    obtain ⟨hl1,hl2⟩:=hc;obtain ⟨h1,h2⟩:=Zem hy (h.eval y);have h3:=Zcp h.cls (h.eval x);rw [hx] at h3;have h3:a.eval x=.pointer (some ⟨L.b k,off,none⟩):=h3;obtain ⟨w',h4,h5⟩:=h.store (off:=off) he hm' om h1 (ZeS h2 h1);simp only [Zbi,Tav] at hn;obtain ⟨i,hi,hin⟩:=hn;have hsz:(a.eval y).cells.size=i.size:=by rw [hin,<- hl1,<- h1.len,Array.length_toList]
    unfold Oper.wp;have hrun:(execOp a.eval o).run e.P w=.ok .skip w':=by
     simp only [execOp,ho,h3,Instr.storeAt,Instr.sureAddr,Go.storeVar,Sem.run_bind,Sem.run_pure,Result.andThen_ok,sizeOf,typeInfo,hi,run_program,hsz,ne_eq,not_true_eq_false,if_false,h4]
    rw [hrun,Oper.upon_skip,hds];rw [hl1] at h5;exact h5
   ·cases hp
  ·cases hp
 ·rename_i k j sz off us n hds hx hy hn;unfold Proofs.YtmdkimnlbaahbaaGreatDoor.storeRow at hp;split at hp
  ·rename_i o' ety sz' rows hm;split at hp
   ·rename_i hss;subst hss;split at hp
    ·rename_i r hr;split at hp
     ·rename_i hc;injection hp with hp;subst hp
      obtain ⟨hl1,hl2⟩:=hc;obtain ⟨h1,h2⟩:=Zem hy (h.eval y);have h3:=Zcp h.cls (h.eval x);rw [hx] at h3;obtain ⟨g,hg,h3⟩:=h3;obtain ⟨w',h4,h5⟩:=h.storeRow (off:=off) he hm hr hg om h1 h2;simp only [Zbi,Tav] at hn;obtain ⟨i,hi,hin⟩:=hn;have hsz:(a.eval y).cells.size=i.size:=by rw [hin,<- hl1,<- h1.len,Array.length_toList]
      unfold Oper.wp;have hrun:(execOp a.eval o).run e.P w=.ok .skip w':=by
       simp only [execOp,ho,h3,Instr.storeAt,Instr.sureAddr,Go.storeVar,Sem.run_bind,Sem.run_pure,Result.andThen_ok,sizeOf,typeInfo,hi,run_program,hsz,ne_eq,not_true_eq_false,if_false,h4]
      rw [hrun,Oper.upon_skip,hds];rw [hl1] at h5;exact h5
     ·cases hp
    ·cases hp
   ·cases hp
  ·cases hp
 ·cases hp
theorem ZtW (he:e.Ok) (h:SimE e U w0 S0 nt σ a w) (hd:∀ d,o.dst=some d->d < nt) {σ':St} {x:Operand} (ho:o.op=.assign x) (hp:Zdr e.P σ o.dst o.type (evA σ.s x)=some σ'):o.wp e.P a w (SimE e U w0 S0 nt σ') Q:=by
 obtain ⟨S,L,h⟩:=h;have hrun:(execOp a.eval o).run e.P w=.ok (.value (a.eval x)) w:=by simp [execOp,ho]
 have hx:=h.eval x;unfold Oper.wp;rw [hrun,Oper.upon_value];unfold Zdr at hp;split at hp
 ·rename_i d k hds hk;rw [hk] at hx;have hx:a.eval x=L.v k:=hx;unfold Zjl at hp;split at hp
  ·rename_i o' ety sz rows hm;split at hp
   ·rename_i hkd;subst hkd;injection hp with hp;subst hp
    rw [hds];exact ⟨S,L,h.put (α:=.buf k) hx (dst:=some k) (fun d' hd'=>by injection hd' with hd';subst hd';exact hd _ hds)⟩
   ·injection hp with hp;subst hp
    rw [hds,hx];exact h.rename he (hd d hds) hm
  ·cases hp
 ·rename_i d hds hk;rw [hk] at hx;unfold newB at hp;split at hp
  ·rename_i ety sz by' hb;injection hp with hp;subst hp
   obtain ⟨i,z,hu,hi,hz,hsz,hby,hzs,hs0,hb4⟩:=ZcV hb;rw [hds];exact h.empty he (hd d hds) hs0 hx
  ·injection hp with hp;subst hp
   rw [hds];exact ⟨S,L,h.put (α:=.d (.clip [])) hx (dst:=some d) (fun d' hd'=>by injection hd' with hd';subst hd';exact hd _ hds)⟩
 ·injection hp with hp;subst hp
  exact ⟨S,L,h.put hx hd⟩
theorem ZxJ (he:e.Ok) (h:SimE e U w0 S0 nt σ a w) (hd:∀ d,o.dst=some d->d < nt) {q:Bool} {σ':St} (hp:ZhT e.P q σ o.dst o.type o.op=some σ'):o.wp e.P a w (SimE e U w0 S0 nt σ') Q:=by
 unfold ZhT at hp;split at hp
 ·rename_i t ho;split at hp
  ·cases hp
  ·exact ZxH he h hd ho hp
 ·rename_i t x ho;split at hp
  ·cases hp
  ·unfold Zjm at hp;split at hp
   ·rename_i σ1 hf;exact ZAs he (ZhX h he hf) hd ho hp
   ·cases hp
 ·rename_i t x y ho;split at hp
  ·cases hp
  ·unfold ZgT at hp;split at hp
   ·rename_i σ1 hf;exact ZxI he (ZhX h he hf) ho hp
   ·cases hp
 ·rename_i x ho;split at hp
  ·cases hp
  ·exact ZtW he h hd ho hp
 ·rename_i t l c ho;split at hp
  ·cases hp
  ·obtain ⟨S,L,h⟩:=h
   cases hds:o.dst with
   | none=>rw [hds] at hp;simp [ZhS] at hp
   | some d=>exact h.made he (hd d hds) hds ho hp
 ·rename_i args ts ho;split at hp
  ·cases hp
  ·obtain ⟨S,L,h⟩:=h;exact h.appended he hd ho hp
 ·rename_i t parts ho;rw [<- ho] at hp;exact ZiE he h hd hp
 ·rename_i t n parts ho;rw [<- ho] at hp;exact ZiE he h hd hp
 ·rename_i f fs caps ho;rw [<- ho] at hp;exact ZiE he h hd hp
 ·exact Zof he h hd hp
def ZbN (e:Env) (o:Oper) (σ:St) (K:St->Prop):Prop:=e.Ok->∀ (U:Nat->Prop) (w0:World) (S0:Nat->Prop) (nt:Nat) (a:Act) (w:World) (Q:Exit->Act->World->Prop),(∀ d,o.dst=some d->d < nt)->SimE e U w0 S0 nt σ a w->o.wp e.P a w (fun a' w'=>∃ σ',K σ'∧SimE e U w0 S0 nt σ' a' w') Q
def ZeN (e:Env) (o:Oper) (σ:St) (K:St->Prop):Prop:=e.Ok->∃ α,K ⟨setA σ.s o.dst α,σ.m⟩∧∀ (U:Nat->Prop) (base:Nat) (S0:Nat->Prop),ZaW e U base S0 σ.m o (evA σ.s) α
def Turn (e:Env) (σ:St) (P:St->Prop):Prop:=e.Ok->∀ (U:Nat->Prop) (w0:World) (S0:Nat->Prop) (nt:Nat) (a:Act) (w:World),SimE e U w0 S0 nt σ a w->∃ σ',P σ'∧SimE e U w0 S0 nt σ' a w
def ZkU (e:Env) (q:Bool) (o:Oper) (σ:St) (K:St->Prop):Prop:=if q then ZeN e o σ K else ZbN e o σ K
end
section
variable {e:Env} {σ:St} {o:Oper} {K:St->Prop}
theorem ZtX {σ':St} (hp:ZhT e.P false σ o.dst o.type o.op=some σ') (hK:K σ'):ZbN e o σ K:=fun he U w0 S0 nt a w Q hd h=>Oper.wp_mono (fun a' w' hs=>⟨σ',hK,hs⟩) (ZxJ he h hd hp)
theorem ZqM {σ':St} (h1:ZhT e.P true σ o.dst o.type o.op=some σ') (h2:K σ'):ZeN e o σ K:=fun he=>by
 have put:∀ (σ':St),putE σ o.dst (ZgR e.P σ.m (evA σ.s) o.op)=some σ'->K σ'->∃ α,K ⟨setA σ.s o.dst α,σ.m⟩∧∀ (U:Nat->Prop) (base:Nat) (S0:Nat->Prop),ZaW e U base S0 σ.m o (evA σ.s) α:=fun σ' h1 h2=>by
  unfold putE at h1;split at h1
  ·rename_i α hα;injection h1 with h1;subst h1
   exact ⟨α,h2,fun U base S0=>ZjP he hα⟩
  ·cases h1
 have putq:∀ (σ':St) (ks:List Nat),ZgS e.P o.dst o.op (frzQ true ks σ)=some σ'->K σ'->∃ α,K ⟨setA σ.s o.dst α,σ.m⟩∧∀ (U:Nat->Prop) (base:Nat) (S0:Nat->Prop),ZaW e U base S0 σ.m o (evA σ.s) α:=fun σ' ks h1 h2=>by
  unfold ZgS frzQ at h1
  cases ks with
  | nil=>exact put σ' h1 h2
  | cons k ks=>simp at h1
 unfold ZhT at h1;split at h1
 ·simp at h1
 ·simp at h1
 ·simp at h1
 ·simp at h1
 ·simp at h1
 ·simp at h1
 ·rename_i t parts ho;rw [<- ho] at h1;exact putq σ' _ h1 h2
 ·rename_i t n parts ho;rw [<- ho] at h1;exact putq σ' _ h1 h2
 ·rename_i f fs caps ho;rw [<- ho] at h1;exact putq σ' _ h1 h2
 ·exact put σ' h1 h2
theorem ZmC {P:St->Prop} (hT:Turn e σ P) (h:∀ σ',P σ'->ZbN e o σ' K):ZbN e o σ K:=fun he U w0 S0 nt a w Q hd hs=>by
 obtain ⟨σ',h1,h2⟩:=hT he U w0 S0 nt a w hs;exact h σ' h1 he U w0 S0 nt a w Q hd h2
theorem Zd2 (ks:List Nat) {σ':St} (h:frzs ks σ=σ'):Turn e σ (fun x=>x=σ'):=fun he U w0 S0 nt a w hs=>⟨σ',rfl,h ▸ SimE.frzs he ks σ hs⟩
end
theorem ZeF {w:World} {S:Nat->Prop} {L L':Lay} {r:List D} {v:Value} (h:ARel w S L (retA r) v):ARel w S L' (retA r) v:=by
 cases r with
 | nil=>exact h
 | cons y ys =>
  cases ys with
  | nil=>exact h
  | cons z zs=>exact h
section
variable {e:Env} {σ:St} {o:Oper} {K:St->Prop} {c:Operand} {args:Array Operand} {ts:Array TypeId} {f:FuncId} {caps:List C} {xs:List D}
theorem ZxK (ho:o.op=.call ⟨.value c,args,ts⟩) {q:Bool} {σ1:St} {r:List D} (hf:frzQ q (ZdS (args.toList.map (evA σ.s))) σ=some σ1) (hc:Zcu (evA σ1.s c)=some (f,caps)) (hx:dsA (args.toList.map (evA σ1.s))=some xs) (hcon:Con e f (xs++caps.map .one) r) (hK:K ⟨setA σ1.s o.dst (retA r),σ1.m⟩):ZkU e q o σ K:=by
 cases q with
 | true =>
  intro he;have hs:σ1=σ:=by
   unfold frzQ at hf;split at hf
   ·injection hf with hf;exact hf.symm
   ·simp at hf
  subst hs;exact ⟨_,hK,fun U base S0=>ZkT ho hc hx hcon⟩
 | false =>
  intro he U w0 S0 nt a w Q hd h;obtain ⟨S,L,h1⟩:=ZhX h he hf;exact Oper.wp_mono (fun a' w' hs=>⟨_,hK,hs⟩) (ZeU h1 hd (ZkT ho hc hx hcon))
theorem ZBd (ho:o.op=.call ⟨.value c,args,ts⟩) {x0:Operand} {rest:List Operand} {k ty sz:Nat} {oa:Option (Option Addr × Nat)} {rows rows':List (List C)} {r:List D} (hargs:args.toList=x0::rest) (hx0:nrm σ.m (evA σ.s x0)=.buf k) (hm:gm σ.m k=some (.buf oa ty sz rows)) (hc:Zcu (evA σ.s c)=some (f,caps)) (hx:dsA (rest.map (evA σ.s))=some xs)
  (hcon:ConI e f ty sz rows (xs++caps.map .one) rows' r) (hlen:rows'.length=rows.length) (hK:K ⟨setA σ.s o.dst (retA r),(k,.buf oa ty sz rows')::remM k σ.m⟩):ZbN e o σ K:=by
 intro he U w0 S0 nt a w Q hd ⟨S,L,h1⟩;obtain ⟨us,hv,hus⟩:=Zc2 hc (h1.eval c);have hds':Zav w S xs (rest.map a.eval):=ZdY hx (by simp) (mapx (fun p _=>h1.eval p));have hx0':=Zcp h1.cls (h1.eval x0);rw [hx0] at hx0';have hx0':a.eval x0=L.v k:=hx0';obtain ⟨hpl,ho'⟩:(∀ a,oa=some a->L.v k=.slice a.1 rows.length a.2)∧ZaE w S ty sz rows (L.v k):=h1.cls.own k _ hm;obtain ⟨hbody,hcon⟩:=hcon;have hcl:=hcon w S (L.v k) _ h1.cls.sin (fun b hb=>Tbd (h1.cls.ein b hb) h1.cls.bsz) (fun g hg=>h1.cls.notE hm hg) h1.cls.g ho' (hds'.append (Zav.caps hus))
 have hg:gives e.P o a.eval w fun v w'=>Kept e.D (fun b=>e.E b∨vblk (L.v k)=some b) w.heap.size w w'∧e.G w'∧ZaE w' (fun b=>S b∨(w.heap.size<=b∧b < w'.heap.size)) ty sz rows' (L.v k)∧ARel w' (fun b=>S b∨(w.heap.size<=b∧b < w'.heap.size)) ⟨fun _=>0,fun _=>Go.undef⟩ (retA r) v:=by
  unfold gives;rw [Zd1 ho hv hbody,hargs];simp only [Tbu,hx0',Taf];exact hcl.mono fun en w' ⟨v,q1,q2⟩=>⟨v,q1,q2⟩
 refine Zc0 hg fun v w' ⟨k1,k2,k3,k4⟩=>⟨_,hK,?_⟩
 obtain ⟨t1,t2,t3⟩:=h1.touchE (d:=k) (bk:=.buf oa ty sz rows') (m':=(k,.buf oa ty sz rows')::remM k σ.m) (w':=w') (S':=fun b=>S b∨(w.heap.size<=b∧b < w'.heap.size)) (L':=L) (τ:=vblk (L.v k)) (fun _ h=>.inl h) (fun _ h=>h)
  (fun k' x hkd hx=>by simp only [gm,hkd,if_false,ZaC] at hx;exact hx) (by simp [gm]) (fun _ _=>⟨rfl,rfl⟩)
  (fun g hg=>⟨((h1.cls.own k _ hm).lt hg).2,h1.cls.notE hm hg,h1.cls.mine k _ _ hm hg⟩)
  (fun k' x g hkd hx hg hb=>by
   simp only [gm,hkd,if_false,ZaC] at hx;exact hkd (h1.cls.inj k' k x _ _ hx hm hb hg))
  k1 k2 ⟨fun a ha=>by rw [hlen];exact hpl a ha,k3⟩ (fun g hg=>.inl hg)
 have hs2:Sim e U w0 S0 nt ⟨σ.s,(k,.buf oa ty sz rows')::remM k σ.m⟩ a w' _ L:=⟨t1,fun t=>t3 _ _ (fun _=>⟨rfl,rfl⟩) (h1.rel t),h1.size,h1.defers,t2⟩;exact ⟨_,L,hs2.put (ZeF k4) hd⟩
theorem ZtY (ho:o.op=.call ⟨.value c,args,ts⟩) {R:List D->Prop} (hc:Zcu (evA σ.s c)=some (f,caps)) (hx:dsA (args.toList.map (evA σ.s))=some xs) (hcon:ConE e f (xs++caps.map .one) R) (hK:∀ r,R r->K ⟨setA σ.s o.dst (retA r),σ.m⟩):ZbN e o σ K:=by
 intro he U w0 S0 nt a w Q hd ⟨S,L,h1⟩;obtain ⟨us,hv,hus⟩:=Zc2 hc (h1.eval c);have hds':Zav w S xs (args.toList.map a.eval):=ZdY hx (by simp) (mapx (fun p _=>h1.eval p));obtain ⟨hbody,hcon⟩:=hcon;have hcl:=hcon w S _ h1.cls.sin (fun b hb=>Tbd (h1.cls.ein b hb) h1.cls.bsz) h1.cls.g (hds'.append (Zav.caps hus));have hg:gives e.P o a.eval w fun v w'=>∃ r,R r∧∃ S':Nat->Prop,(∀ b,S b->S' b)∧Cls e U w0.heap.size S0 σ.m w' S' L∧Kept e.D e.E w.heap.size w w'∧ARel w' S' L (retA r) v:=by
  unfold gives;rw [Zd1 ho hv hbody];exact hcl.mono fun en w' ⟨v,r,h0,hr,h2,h3,h4⟩=>⟨v,h0,r,hr,_,fun b hb=>.inl hb,h1.cls.later h2 h3 (fun b hb=>.inl hb) (fun b hb=>hb),h2,ZeF h4⟩
 exact Zc0 hg fun v w' ⟨r,hr,S',hS,hC,hk,ha⟩=>⟨_,hK r hr,S',L,(h1.later hC hk hS).put ha hd⟩
theorem Zog {t:TypeId} (ho:o.op=.makeMap t none) (hK:∀ b:Nat,K ⟨setA σ.s o.dst (.d (.one (.lit (.map (some b))))),σ.m⟩):ZbN e o σ K:=by
 intro he U w0 S0 nt a w Q hd ⟨S,L,h1⟩;have hb:Below w.heap.size w (w.alloc (.map #[] 0)):=ZdW w _;have hk:Kept e.D e.E w.heap.size w (w.alloc (.map #[] 0)):=Kept.of_below hb (fun _=>Tai _);have hC:=h1.cls;have hC':Cls e U w0.heap.size S0 σ.m (w.alloc (.map #[] 0)) S L:=hC.later hk (he.keep _ _ hb.size (fun b hE=>hb.block b (Tbd (hC.ein b hE) hC.bsz)) hC.g) (fun _ h=>h) (fun _ h=>.inl h);unfold Oper.wp
 have hrun:(execOp a.eval o).run e.P w=.ok (.value (.map (some w.heap.size))) (w.alloc (.map #[] 0)):=by
  simp [execOp,ho,Instr.makeMap,newObj,Result.andThen];rfl
 rw [hrun,Oper.upon_value];exact ⟨_,hK w.heap.size,S,L,(h1.later hC' hk (fun _ h=>h)).put (by simp [ARel,DRel,Rep]) hd⟩
end
def pinned:Bk->Bool
 | .var (some _) _=>true
 | .buf (some _) _ _ _=>true
 | .set _ _=>true
 | _=>false
def getM (m:List (Nat × Bk)):List Nat->Option (List Bk)
 | []=>some []
 | k::ks=>match gm m k,getM m ks with
  | some x,some r=>some (x::r)
  | _,_=>none
def zipM:List Nat->List Bk->List (Nat × Bk)
 | k::ks,x::xs=>(k,x)::zipM ks xs
 | _,_=>[]
def Zcw:List Nat->List (Nat × Bk)->List (Nat × Bk)
 | [],m=>m
 | k::ks,m=>Zcw ks (remM k m)
def Zcs:List Nat->List (Nat × A)->List (Nat × A)
 | [],s=>s
 | k::ks,s=>Zcs ks (Zaq k s)
def layB (z:List (Nat × Bk)) (L:Lay):Lay :=
 ⟨fun k=>match gm z k with
  | some (.var (some b) _)=>b
  | _=>L.b k,fun k=>match gm z k with
  | some (.buf (some (a,cap)) _ _ rows)=>.slice a rows.length cap
  | _=>L.v k⟩
theorem Zch {w:World} {S:Nat->Prop} {z:List (Nat × Bk)} {L:Lay} {k:Nat} {x:Bk} (h:Zdq w S x) (hz:gm z k=some x):Own1 w S (layB z L) k x∧∀ g,Zay (layB z L) k x g ↔ pblk x g:=by
 cases x with
 | var o cs =>
  cases o with
  | none=>exact h.elim
  | some b =>
   have e:(layB z L).b k=b:=by simp only [layB,hz]
   simp only [Own1,Zay,pblk,e];exact ⟨⟨fun b' hb'=>by injection hb',h⟩,fun _=>trivial⟩
 | buf o ty sz rows =>
  cases o with
  | none=>exact h.elim
  | some q =>
   obtain ⟨a,cap⟩:=q;have e:(layB z L).v k=.slice a rows.length cap:=by simp only [layB,hz]
   simp only [Own1,Zay,pblk,e];exact ⟨⟨fun a' ha'=>by injection ha' with ha';rw [<- ha'],h⟩,fun _=>trivial⟩
 | set E G=>exact ⟨h,fun g=>Iff.rfl⟩
theorem ZcO {w:World} {S:Nat->Prop} {L:Lay} {k:Nat} {x:Bk} (h:Own1 w S L k x) (hp:pinned x=true):Zdq w S x∧∀ g,Zay L k x g ↔ pblk x g:=by
 cases x with
 | var o cs =>
  cases o with
  | none=>simp [pinned] at hp
  | some b =>
   obtain ⟨h0,h1⟩:=h;have e:=h0 b rfl;rw [e] at h1;simp only [Zdq,Zay,pblk,e];exact ⟨h1,fun _=>trivial⟩
 | buf o ty sz rows =>
  cases o with
  | none=>simp [pinned] at hp
  | some q =>
   obtain ⟨a,cap⟩:=q;obtain ⟨h0,h1⟩:=h;have e:=h0 (a,cap) rfl;rw [e] at h1;simp only [Zdq,Zay,pblk,e];exact ⟨h1,fun _=>trivial⟩
 | set E G=>exact ⟨h,fun g=>Iff.rfl⟩
theorem ZkV {z m:List (Nat × Bk)} {k:Nat}:gm (z++m) k=match gm z k with
  | some x=>some x
  | none=>gm m k:=by
 induction z with
 | nil=>rfl
 | cons q r ih =>
  obtain ⟨k',x⟩:=q;simp only [Taf,gm];split
  ·rfl
  ·exact ih
theorem ZdO {ks:List Nat} {pm:List Bk} {k:Nat} {x:Bk} (h:gm (zipM ks pm) k=some x):k∈ks∧x∈pm:=by
 induction ks generalizing pm with
 | nil=>cases h
 | cons q r ih =>
  cases pm with
  | nil=>cases h
  | cons y ys =>
   simp only [zipM,gm] at h;split at h
   ·rename_i e;injection h with h;exact ⟨by simp [e],by simp [h]⟩
   ·have:=ih h;exact ⟨Tal _ this.1,Tal _ this.2⟩
theorem ZgV {ks:List Nat} {pm:List Bk} (ha:Zeu pm) {k k':Nat} {x x':Bk} {g:Nat} (h:gm (zipM ks pm) k=some x) (h':gm (zipM ks pm) k'=some x') (hb:pblk x g) (hb':pblk x' g):k=k':=by
 induction ks generalizing pm with
 | nil=>cases h
 | cons q r ih =>
  cases pm with
  | nil=>cases h
  | cons y ys =>
   simp only [zipM,gm] at h h';obtain ⟨a1,a2⟩:=ha;split at h
   ·rename_i e;injection h with h;subst h
    split at h'
    ·rename_i e';rw [e,e']
    ·exact (a1 _ (ZdO h').2 g hb hb').elim
   ·split at h'
    ·injection h' with h';subst h'
     exact (a1 _ (ZdO h).2 g hb' hb).elim
    ·exact ih a2 h h'
theorem Zkj {ks:List Nat} {m:List (Nat × Bk)} {k:Nat}:gm (Zcw ks m) k=if k∈ks then none else gm m k:=by
 induction ks generalizing m with
 | nil=>simp [Zcw]
 | cons q r ih =>
  simp only [Zcw,ih,ZaC,Tbg];by_cases h1:k∈r
  ·simp [h1]
  ·by_cases h2:k=q <;> simp [h1,h2]
theorem ZgW (t:Nat):∀ (ks:List Nat) (s:List (Nat × A)),(gs (Zcs ks s) t=gs s t∧∀ k∈ks,¬ ZdZ k (gs s t))∨gs (Zcs ks s) t=.undef
 | [],s=>.inl ⟨rfl,by simp⟩
 | k::ks,s=>by
  rcases ZgW t ks (Zaq k s) with ⟨h1,h2⟩ | h1
  ·rcases Zd0 k t s with ⟨h3,h4⟩ | h3
   ·refine .inl ⟨h1.trans h3,fun k' hk'=>?_⟩;rcases Tbg.1 hk' with rfl | hk'
    ·exact h4
    ·rw [<- h3];exact h2 k' hk'
   ·exact .inr (h1.trans h3)
  ·exact .inr h1
theorem Zd3 {m:List (Nat × Bk)}:∀ {ks:List Nat} {pm:List Bk},getM m ks=some pm->∀ x∈pm,∃ k∈ks,gm m k=some x
 | [],pm,h,x,hx=>by simp only [getM,Taq] at h;subst h;cases hx
 | k::ks,pm,h,x,hx=>by
  simp only [getM] at h;split at h
  ·rename_i y r h1 h2;injection h with h;subst h
   rcases Tbg.1 hx with rfl | hx
   ·exact ⟨k,by simp,h1⟩
   ·obtain ⟨k',h3,h4⟩:=Zd3 h2 x hx;exact ⟨k',Tal _ h3,h4⟩
  ·cases h
theorem Zf4 {m:List (Nat × Bk)} {w:World} {S:Nat->Prop} {L:Lay} (hown:∀ k x,gm m k=some x->Own1 w S L k x) (hinj:∀ k k' x x' g,gm m k=some x->gm m k'=some x'->Zay L k x g->Zay L k' x' g->k=k') :
  ∀ {ks:List Nat} {pm:List Bk},ks.Nodup->getM m ks=some pm->(∀ x∈pm,pinned x=true)->Zeu pm
 | [],pm,_,h,_=>by simp only [getM,Taq] at h;subst h;trivial
 | k::ks,pm,hn,h,hp=>by
  simp only [getM] at h;split at h
  ·rename_i y r h1 h2;injection h with h;subst h
   rw [List.nodup_cons] at hn;refine ⟨fun x hx g hy hxg=>?_,Zf4 hown hinj hn.2 h2 (fun x hx=>hp x (Tal _ hx))⟩;obtain ⟨k',h3,h4⟩:=Zd3 h2 x hx;have e:=hinj k k' y x g h1 h4 (((ZcO (hown k y h1) (hp y (by simp))).2 g).2 hy) (((ZcO (hown k' x h4) (hp x (Tal _ hx))).2 g).2 hxg);exact hn.1 (e ▸ h3)
  ·cases h
section
variable {e:Env} {σ:St} {o:Oper} {K:St->Prop} {c:Operand} {args:Array Operand} {ts:Array TypeId} {f:FuncId} {caps:List C} {xs:List D}
theorem ZBe (ho:o.op=.call ⟨.value c,args,ts⟩) (ks ks':List Nat) {pm:List Bk} {R:List D->List Bk->Prop} (hn:ks.Nodup) (hpm:getM σ.m ks=some pm) (hpn:pm.all pinned=true) (hc:Zcu (evA σ.s c)=some (f,caps)) (hx:dsA (args.toList.map (evA σ.s))=some xs) (hcon:ConP e f (xs++caps.map .one) pm R)
  (hK:∀ r pm',R r pm'->K ⟨setA (Zcs (ks++ks') σ.s) o.dst (retA r),zipM ks' pm'++Zcw (ks++ks') σ.m⟩):ZbN e o σ K:=by
 intro he U w0 S0 nt a w Q hd ⟨S,L,h1⟩;have hpn:∀ x∈pm,pinned x=true:=fun x hx=>List.all_eq_true.1 hpn x hx;obtain ⟨us,hv,hus⟩:=Zc2 hc (h1.eval c);have hds':Zav w S xs (args.toList.map a.eval):=ZdY hx (by simp) (mapx (fun p _=>h1.eval p));obtain ⟨hbody,hcon⟩:=hcon;have hat:∀ g,Za7 pm g->∃ k x,k∈ks∧gm σ.m k=some x∧Zay L k x g:=fun g ⟨x,hx,hg⟩=>by
  obtain ⟨k,hk,hkx⟩:=Zd3 hpm x hx;exact ⟨k,x,hk,hkx,((ZcO (h1.cls.own k x hkx) (hpn x hx)).2 g).2 hg⟩
 have hcl:=hcon w S _ h1.cls.sin (fun b hb=>Tbd (h1.cls.ein b hb) h1.cls.bsz) h1.cls.g (fun x hx=>by
  obtain ⟨k,hk,hkx⟩:=Zd3 hpm x hx;have:=ZcO (h1.cls.own k x hkx) (hpn x hx);exact ⟨this.1,fun g hg=>h1.cls.notE hkx ((this.2 g).2 hg)⟩) (Zf4 h1.cls.own h1.cls.inj hn hpm hpn) (hds'.append (Zav.caps hus))
 have hg:gives e.P o a.eval w fun v w'=>∃ r pm',R r pm'∧Kept e.D (fun b=>e.E b∨Za7 pm b) w.heap.size w w'∧e.G w' ∧
   (∀ x∈pm',Zdq w' (fun b=>(S b∨Za7 pm b∨(w.heap.size<=b∧b < w'.heap.size))∧¬ Za7 pm' b) x∧∀ g,pblk x g->Za7 pm g∨w.heap.size<=g)∧Zeu pm' ∧
   ARel w' (fun b=>(S b∨Za7 pm b∨(w.heap.size<=b∧b < w'.heap.size))∧¬ Za7 pm' b) ⟨fun _=>0,fun _=>Go.undef⟩ (retA r) v:=by
  unfold gives;rw [Zd1 ho hv hbody];exact hcl.mono fun en w' ⟨v,r,pm',q0,q1⟩=>⟨v,q0,r,pm',q1⟩
 refine Zc0 hg fun v w' ⟨r,pm',hR,k1,k2,k3,k4,k5⟩=>⟨_,hK r pm' hR,?_⟩;have hlt:∀ g,Za7 pm g->g < w.heap.size∧¬ S g∧¬ e.E g∧(w0.heap.size<=g∨U g):=fun g hg=>by
  obtain ⟨k,x,_,hkx,hb⟩:=hat g hg;have:=(h1.cls.own k x hkx).lt hb;exact ⟨this.1,this.2,h1.cls.notE hkx hb,h1.cls.mine k x g hkx hb⟩
 have hz:∀ k x,gm (zipM ks' pm'++Zcw (ks++ks') σ.m) k=some x->(gm (zipM ks' pm') k=some x∧k∈ks++ks'∧x∈pm')∨(¬ k∈ks++ks'∧gm (zipM ks' pm') k=none∧gm σ.m k=some x):=fun k x hx=>by
  rw [ZkV] at hx
  cases hzz:gm (zipM ks' pm') k with
  | some y =>
   rw [hzz] at hx;injection hx with hx;subst hx
   have:=ZdO hzz;exact .inl ⟨rfl,Tbh.2 (.inr this.1),this.2⟩
  | none =>
   rw [hzz] at hx;simp only [Zkj] at hx;split at hx
   ·cases hx
   ·rename_i hne;exact .inr ⟨hne,rfl,hx⟩
 obtain ⟨t1,t2,t3⟩:=h1.touchM (p:=fun k=>k∈ks++ks') (m':=zipM ks' pm'++Zcw (ks++ks') σ.m) (w':=w') (S':=fun b=>(S b∨Za7 pm b∨(w.heap.size<=b∧b < w'.heap.size))∧¬ Za7 pm' b) (L':=layB (zipM ks' pm') L) (τ:=Za7 pm)
  (fun b hs=>⟨.inl hs,fun ⟨x,hx,hg⟩=>by
   rcases (k3 x hx).2 b hg with q | q
   ·exact (hlt b q).2.1 hs
   ·have:=(h1.cls.sin b hs).1;omega⟩)
  (fun b hb=>hb.1.elim .inl (fun q=>.inr (q.elim (fun q=>.inl ⟨q,(hlt b q).1⟩) .inr)))
  (fun k x hp hx=>by
   rcases hz k x hx with ⟨_,h2,_⟩ | ⟨_,_,h3⟩
   ·exact (hp h2).elim
   ·exact h3)
  (fun k hp=>by
   have hzn:gm (zipM ks' pm') k=none:=by
    cases hzz:gm (zipM ks' pm') k with
    | none=>rfl
    | some y=>exact (hp (Tbh.2 (.inr (ZdO hzz).1))).elim
   simp only [layB,hzn,and_self])
  (fun g hg=>(hlt g hg).2)
  (fun k x g hp hx hg hb=>by
   obtain ⟨k',x',hk',hkx',hb'⟩:=hat g hg;rcases hz k x hx with ⟨_,h2,_⟩ | ⟨_,_,h3⟩
   ·exact hp h2
   ·have:=h1.cls.inj k k' x x' g h3 hkx' hb hb';subst this;exact hp (Tbh.2 (.inl hk')))
  k1 k2
  (fun k x hp hx=>by
   rcases hz k x hx with ⟨h2,_,h3⟩ | ⟨h2,_,_⟩
   ·have:=Zch (L:=L) (k3 x h3).1 h2;exact ⟨this.1,fun g hg=>(k3 x h3).2 g ((this.2 g).1 hg)⟩
   ·exact (h2 hp).elim)
  (fun k k' x x' g hp hp' hx hx' hb hb'=>by
   rcases hz k x hx with ⟨h2,_,h3⟩ | ⟨h2,_,_⟩
   ·rcases hz k' x' hx' with ⟨h2',_,h3'⟩ | ⟨h2',_,_⟩
    ·have q:=Zch (L:=L) (k3 x h3).1 h2;have q':=Zch (L:=L) (k3 x' h3').1 h2';exact ZgV k4 h2 h2' ((q.2 g).1 hb) ((q'.2 g).1 hb')
    ·exact (h2' hp').elim
   ·exact (h2 hp).elim)
 have hs2:Sim e U w0 S0 nt ⟨Zcs (ks++ks') σ.s,zipM ks' pm'++Zcw (ks++ks') σ.m⟩ a w' (fun b=>(S b∨Za7 pm b∨(w.heap.size<=b∧b < w'.heap.size))∧¬ Za7 pm' b) (layB (zipM ks' pm') L):=by
  refine ⟨t1,fun t=>?_,h1.size,h1.defers,t2⟩;show ARel w' _ _ (gs (Zcs (ks++ks') σ.s) t) _;rcases ZgW t (ks++ks') σ.s with ⟨q1,q2⟩ | q1
  ·rw [q1];exact t3 _ _ (fun k hp hk=>(q2 k hp hk).elim) (h1.rel t)
  ·rw [q1];trivial
 exact ⟨_,_,hs2.put (ZeF k5) hd⟩
end
def mapS (f:A->A):List (Nat × A)->List (Nat × A)
 | []=>[]
 | (t,a)::r=>(t,f a)::mapS f r
theorem Zjo {f:A->A} (hf:f .undef=.undef) (t:Nat):∀ (s:List (Nat × A)),gs (mapS f s) t=f (gs s t)
 | []=>by simp [mapS,gs,hf]
 | (t',x)::r=>by
  simp only [mapS,gs];split
  ·rfl
  ·exact Zjo hf t r
def litV (k b:Nat):A->A
 | .ref k' off=>if k'=k then .d (.one (.lit (.pointer (some ⟨b,off,none⟩)))) else .ref k' off
 | x=>x
def litB (k:Nat) (a:Option Addr) (n cap:Nat):A->A
 | .buf k'=>if k'=k then .d (.one (.lit (.slice a n cap))) else .buf k'
 | x=>x
theorem Cls.swap {e:Env} {U:Nat->Prop} {base:Nat} {S0:Nat->Prop} {m:List (Nat × Bk)} {w:World} {S:Nat->Prop} {L:Lay} (h:Cls e U base S0 m w S L) {k:Nat} {bk bk':Bk} (hm:gm m k=some bk) (ho:Own1 w S L k bk') (hb:∀ g,Zay L k bk' g->Zay L k bk g):Cls e U base S0 ((k,bk')::remM k m) w S L:=by
 have key:∀ k' x,gm ((k,bk')::remM k m) k'=some x->(k'=k∧x=bk')∨(k'≠k∧gm m k'=some x):=fun k' x hx=>by
  simp only [gm,ZaC] at hx;split at hx
  ·rename_i e;injection hx with hx;exact .inl ⟨e,hx.symm⟩
  ·exact .inr ⟨by assumption,hx⟩
 refine ⟨h.sin,h.sfr,h.ein,h.uin,h.bsz,fun k' x g hx hg=>?_,fun k' x hx=>?_,fun k1 k2 x x' g hx hx' hg hg'=>?_,h.g⟩
 ·rcases key k' x hx with ⟨rfl,rfl⟩ | ⟨_,hx⟩
  ·exact h.mine _ _ g hm (hb g hg)
  ·exact h.mine _ _ g hx hg
 ·rcases key k' x hx with ⟨rfl,rfl⟩ | ⟨_,hx⟩
  ·exact ho
  ·exact h.own _ _ hx
 ·rcases key k1 x hx with ⟨e1,e2⟩ | ⟨_,q1⟩
  ·rcases key k2 x' hx' with ⟨e3,e4⟩ | ⟨_,q2⟩
   ·rw [e1,e3]
   ·subst e1 e2;exact h.inj _ _ _ _ g hm q2 (hb g hg) hg'
  ·rcases key k2 x' hx' with ⟨e3,e4⟩ | ⟨_,q2⟩
   ·subst e3 e4;exact h.inj _ _ _ _ g q1 hm hg (hb g hg')
   ·exact h.inj _ _ _ _ g q1 q2 hg hg'
section
variable {e:Env} {σ:St}
theorem ZtZ (k:Nat) {cs:List C} (hm:gm σ.m k=some (.var none cs)):Turn e σ (fun σ'=>∃ b,(∀ k' b' cs',k'≠k->gm σ.m k'=some (.var (some b') cs')->b≠b')∧σ'=⟨mapS (litV k b) σ.s,(k,.var (some b) cs)::remM k σ.m⟩):=by
 intro he U w0 S0 nt a w ⟨S,L,h⟩;have ho:Own1 w S L k (.var none cs):=h.cls.own k _ hm;refine ⟨_,⟨L.b k,fun k' b' cs' hk hm' hb=>hk ?_,rfl⟩,S,L,h.cls.swap hm (bk':=.var (some (L.b k)) cs) ⟨fun b hb=>by injection hb,ho.2⟩ (fun g hg=>hg),fun t=>?_,h.size,h.defers,h.kept⟩
 ·have h1:=(h.cls.own k' _ hm').1 b' rfl;exact h.cls.inj k' k _ _ b' hm' hm h1 hb
 ·show ARel w S L (gs (mapS (litV k (L.b k)) σ.s) t) _;rw [Zjo rfl];have hr:=h.rel t;generalize gs σ.s t=x at hr ⊢
  cases x with
  | ref k' off =>
   simp only [litV];by_cases hk:k'=k
   ·subst hk;simp only [if_true];have hr:a.tmps.getD t undef=.pointer (some ⟨L.b k',off,none⟩):=hr;simp [ARel,DRel,Rep,hr]
   ·simp only [hk,if_false];exact hr
  | _=>exact hr
theorem ZmD (k:Nat) {ety sz:Nat} {rows:List (List C)} (hm:gm σ.m k=some (.buf none ety sz rows)):Turn e σ (fun σ'=>∃ a cap,σ'=⟨mapS (litB k a rows.length cap) σ.s,(k,.buf (some (a,cap)) ety sz rows)::remM k σ.m⟩):=by
 intro he U w0 S0 nt a w ⟨S,L,h⟩;obtain ⟨_,ho⟩:_∧ZaE w S ety sz rows (L.v k):=h.cls.own k _ hm;obtain ⟨p,cap,hv⟩:∃ p cap,L.v k=.slice p rows.length cap:=by
  obtain ⟨_,_,h3⟩:=ho;rcases h3 with ⟨h4,p,hv⟩ | ⟨g,cap,cur,hv,_⟩
  ·exact ⟨p,0,by rw [hv,h4];rfl⟩
  ·exact ⟨_,cap,hv⟩
 refine ⟨_,⟨p,cap,rfl⟩,S,L,h.cls.swap hm (bk':=.buf (some (p,cap)) ety sz rows) ⟨fun q hq=>by injection hq with hq;rw [<- hq];exact hv,ho⟩ (fun g hg=>hg),fun t=>?_,h.size,h.defers,h.kept⟩;show ARel w S L (gs (mapS (litB k p rows.length cap) σ.s) t) _;rw [Zjo rfl];have hr:=h.rel t;generalize gs σ.s t=x at hr ⊢
 cases x with
 | buf k' =>
  simp only [litB];by_cases hk:k'=k
  ·subst hk;simp only [if_true];have hr:a.tmps.getD t undef=L.v k':=hr;simp [ARel,DRel,Rep,hr,hv]
  ·simp only [hk,if_false];exact hr
 | _=>exact hr
theorem ZxL (t:Nat):Turn e σ (fun σ'=>σ'=⟨(t,nrm σ.m (gs σ.s t))::σ.s,σ.m⟩):=by
 intro he U w0 S0 nt a w ⟨S,L,h⟩;refine ⟨_,rfl,S,L,h.cls,fun t'=>?_,h.size,h.defers,h.kept⟩;simp only [gs];split
 ·rename_i e;subst e;exact Zcp h.cls (h.rel _)
 ·exact h.rel t'
theorem ZxM (t ety sz:Nat) (hs:0 < sz) (ht:gs σ.s t=.d (.clip [])):Turn e σ (fun σ'=>σ'=⟨(t,.buf t)::Zaq t σ.s,(t,.buf none ety sz [])::remM t σ.m⟩):=by
 intro he U w0 S0 nt a w ⟨S,L,h⟩;have hv:=h.rel t;rw [ht] at hv;have hlt:t < nt:=by
  rcases Nat.lt_or_ge t nt with hl | hl
  ·exact hl
  ·have:a.tmps.getD t undef=undef:=by rw [Array.getD_eq_getD_getElem?,Array.getElem?_eq_none (by rw [h.size];exact hl)];rfl
   rw [this] at hv;obtain ⟨_,p,n,hp⟩:=hv
   cases hp
 obtain ⟨S',L',h'⟩:=h.empty (ety:=ety) he hlt hs hv;refine ⟨_,rfl,S',L',h'.cls,fun t'=>?_,h.size,h.defers,h'.kept⟩;have:=h'.rel t';rw [ZbW (by rw [h.size];exact hlt)] at this;split at this
 ·rename_i e;rw [e];rw [e] at this;exact this
 ·exact this
end
section
variable {e:Env} {σ:St}
theorem ZqN (ks ks':List Nat) {pm:List Bk} {Φ:List Bk->Prop} (hn:ks.Nodup) (hpm:getM σ.m ks=some pm) (hpn:pm.all pinned=true)
  (hre:∀ (w:World) (S:Nat->Prop),(∀ x∈pm,Zdq w S x)->Zeu pm->∃ pm',Φ pm'∧(∀ x∈pm',Zdq w S x)∧Zeu pm'∧∀ g,Za7 pm' g->Za7 pm g) :
  Turn e σ (fun σ'=>∃ pm',Φ pm'∧σ'=⟨Zcs (ks++ks') σ.s,zipM ks' pm'++Zcw (ks++ks') σ.m⟩):=by
 intro he U w0 S0 nt a w ⟨S,L,h1⟩;have hpn:∀ x∈pm,pinned x=true:=fun x hx=>List.all_eq_true.1 hpn x hx;have hat:∀ g,Za7 pm g->∃ k x,k∈ks∧gm σ.m k=some x∧Zay L k x g:=fun g ⟨x,hx,hg⟩=>by
  obtain ⟨k,hk,hkx⟩:=Zd3 hpm x hx;exact ⟨k,x,hk,hkx,((ZcO (h1.cls.own k x hkx) (hpn x hx)).2 g).2 hg⟩
 obtain ⟨pm',hΦ,k3,k4,hsub⟩:=hre w S (fun x hx=>by
  obtain ⟨k,hk,hkx⟩:=Zd3 hpm x hx;exact (ZcO (h1.cls.own k x hkx) (hpn x hx)).1) (Zf4 h1.cls.own h1.cls.inj hn hpm hpn)
 have hlt:∀ g,Za7 pm g->g < w.heap.size∧¬ S g∧¬ e.E g∧(w0.heap.size<=g∨U g):=fun g hg=>by
  obtain ⟨k,x,_,hkx,hb⟩:=hat g hg;have:=(h1.cls.own k x hkx).lt hb;exact ⟨this.1,this.2,h1.cls.notE hkx hb,h1.cls.mine k x g hkx hb⟩
 have hz:∀ k x,gm (zipM ks' pm'++Zcw (ks++ks') σ.m) k=some x->(gm (zipM ks' pm') k=some x∧k∈ks++ks'∧x∈pm')∨(¬ k∈ks++ks'∧gm (zipM ks' pm') k=none∧gm σ.m k=some x):=fun k x hx=>by
  rw [ZkV] at hx
  cases hzz:gm (zipM ks' pm') k with
  | some y =>
   rw [hzz] at hx;injection hx with hx;subst hx
   have:=ZdO hzz;exact .inl ⟨rfl,Tbh.2 (.inr this.1),this.2⟩
  | none =>
   rw [hzz] at hx;simp only [Zkj] at hx;split at hx
   ·cases hx
   ·rename_i hne;exact .inr ⟨hne,rfl,hx⟩
 obtain ⟨t1,t2,t3⟩:=h1.touchM (p:=fun k=>k∈ks++ks') (m':=zipM ks' pm'++Zcw (ks++ks') σ.m) (w':=w) (S':=S) (L':=layB (zipM ks' pm') L) (τ:=Za7 pm)
  (fun b hs=>hs) (fun b hb=>.inl hb)
  (fun k x hp hx=>by
   rcases hz k x hx with ⟨_,h2,_⟩ | ⟨_,_,h3⟩
   ·exact (hp h2).elim
   ·exact h3)
  (fun k hp=>by
   have hzn:gm (zipM ks' pm') k=none:=by
    cases hzz:gm (zipM ks' pm') k with
    | none=>rfl
    | some y=>exact (hp (Tbh.2 (.inr (ZdO hzz).1))).elim
   simp only [layB,hzn,and_self])
  (fun g hg=>(hlt g hg).2)
  (fun k x g hp hx hg hb=>by
   obtain ⟨k',x',hk',hkx',hb'⟩:=hat g hg;rcases hz k x hx with ⟨_,h2,_⟩ | ⟨_,_,h3⟩
   ·exact hp h2
   ·have:=h1.cls.inj k k' x x' g h3 hkx' hb hb';subst this;exact hp (Tbh.2 (.inl hk')))
  (Kept.refl _ _ _ _) h1.cls.g
  (fun k x hp hx=>by
   rcases hz k x hx with ⟨h2,_,h3⟩ | ⟨h2,_,_⟩
   ·have:=Zch (L:=L) (k3 x h3) h2;exact ⟨this.1,fun g hg=>.inl (hsub g ⟨x,h3,(this.2 g).1 hg⟩)⟩
   ·exact (h2 hp).elim)
  (fun k k' x x' g hp hp' hx hx' hb hb'=>by
   rcases hz k x hx with ⟨h2,_,h3⟩ | ⟨h2,_,_⟩
   ·rcases hz k' x' hx' with ⟨h2',_,h3'⟩ | ⟨h2',_,_⟩
    ·have q:=Zch (L:=L) (k3 x h3) h2;have q':=Zch (L:=L) (k3 x' h3') h2';exact ZgV k4 h2 h2' ((q.2 g).1 hb) ((q'.2 g).1 hb')
    ·exact (h2' hp').elim
   ·exact (h2 hp).elim)
 refine ⟨_,⟨pm',hΦ,rfl⟩,S,layB (zipM ks' pm') L,t1,fun t=>?_,h1.size,h1.defers,t2⟩;show ARel w _ _ (gs (Zcs (ks++ks') σ.s) t) _;rcases ZgW t (ks++ks') σ.s with ⟨q1,q2⟩ | q1
 ·rw [q1];exact t3 _ _ (fun k hp hk=>(q2 k hp hk).elim) (h1.rel t)
 ·rw [q1];trivial
theorem ZxN (κ ety sz:Nat) (hs:0 < sz):Turn e σ (fun σ'=>σ'=⟨Zaq κ σ.s,(κ,.buf (some (none,0)) ety sz [])::remM κ σ.m⟩):=by
 intro he U w0 S0 nt a w ⟨S,L,h⟩
 obtain ⟨t1,t2,t3⟩:=h.touchT (d:=κ) (bk:=.buf (some (none,0)) ety sz []) (m':=(κ,.buf (some (none,0)) ety sz [])::remM κ σ.m) (w':=w) (S':=S) (L':=⟨L.b,fun k=>if k=κ then .slice none 0 0 else L.v k⟩) (τ:=fun _=>False)
  (fun _ h=>h) (fun _ h=>.inl h) (fun k x hkd hx=>by simp only [gm,hkd,if_false,ZaC] at hx;exact hx) (by simp [gm]) (fun k hkd=>by simp [hkd]) (fun g hg=>hg.elim) (fun k x g hkd hx hg=>hg.elim)
  (Kept.refl _ _ _ _) h.cls.g ⟨fun q hq=>by injection hq with hq;subst hq;simp,hs,rowsLen.nil,.inl ⟨rfl,none,by simp⟩⟩ (fun g hg=>by simp [Zay,vblk] at hg)
 refine ⟨_,rfl,S,_,t1,fun t=>?_,h.size,h.defers,t2⟩;show ARel w S _ (gs (Zaq κ σ.s) t) _;rcases Zd0 κ t σ.s with ⟨q1,q2⟩ | q1
 ·rw [q1];exact t3 _ _ (fun hk=>(q2 hk).elim) (h.rel t)
 ·rw [q1];trivial
def datC (a:Option Addr) (n cap:Nat) (rows:List (List C)):C->C
 | .lit (.slice a' n' cap')=>if a'=a∧n'=n∧cap'=cap then .sl rows else .lit (.slice a' n' cap')
 | c=>c
def datA (a:Option Addr) (n cap:Nat) (rows:List (List C)):A->A
 | .d (.one c)=>.d (.one (datC a n cap rows c))
 | .d (.agg cs)=>.d (.agg (cs.map (datC a n cap rows)))
 | x=>x
def datS (a:Option Addr) (n cap:Nat) (rows:List (List C)):List Nat->List (Nat × A)->List (Nat × A)
 | [],s=>s
 | t::ts,s=>datS a n cap rows ts ((t,datA a n cap rows (gs s t))::s)
def datV (a:Option Addr) (n cap:Nat) (rows:List (List C)) (k:Nat) (m:List (Nat × Bk)):Option Bk->List (Nat × Bk)
 | some (.var o cs)=>(k,.var o (cs.map (datC a n cap rows)))::remM k m
 | _=>m
def datM (a:Option Addr) (n cap:Nat) (rows:List (List C)):List Nat->List (Nat × Bk)->List (Nat × Bk)
 | [],m=>m
 | k::ks,m=>datM a n cap rows ks (datV a n cap rows k m (gm m k))
section
variable {w:World} {S:Nat->Prop} {a:Option Addr} {n cap:Nat} {rows:List (List C)}
theorem Zkk (hr:Rep w S (.sl rows) (.slice a n cap)) {c:C} {v:Value} (h:Rep w S c v):Rep w S (datC a n cap rows c) v:=by
 unfold datC;split
 ·rename_i a' n' cap';split
  ·rename_i hq;obtain ⟨rfl,rfl,rfl⟩:=hq;have hv:v=.slice a' n' cap':=by simpa [Rep] using h
   rw [hv];exact hr
  ·exact h
 ·exact h
theorem Zkl (hr:Rep w S (.sl rows) (.slice a n cap)) {b:Nat}:∀ {cs:List C} {off:Nat},Zaj w S b off cs->Zaj w S b off (cs.map (datC a n cap rows))
 | [],_,h=>h
 | c::cs,off,h=>by
  simp only [Tbu,Zaj] at h ⊢;obtain ⟨⟨u,h1,h2⟩,h3⟩:=h;exact ⟨⟨u,h1,Zkk hr h2⟩,Zkl hr h3⟩
theorem ZmE (hr:Rep w S (.sl rows) (.slice a n cap)):∀ {cs:List C} {us:List Value},Zad w S cs us->Zad w S (cs.map (datC a n cap rows)) us
 | [],[],h=>h
 | c::cs,u::us,h=>by
  simp only [Tbu,Zad] at h ⊢;exact ⟨Zkk hr h.1,ZmE hr h.2⟩
 | [],_::_,h=>h
 | _::_,[],h=>h
theorem ZxO {L:Lay} (hr:Rep w S (.sl rows) (.slice a n cap)) {x:A} {v:Value} (h:ARel w S L x v):ARel w S L (datA a n cap rows x) v:=by
 cases x with
 | d x =>
  cases x with
  | one c=>exact Zkk hr h
  | agg cs=>obtain ⟨vs,h1,h2⟩:=h;exact ⟨vs,h1,ZmE hr h2⟩
  | clip rs=>exact h
 | _=>exact h
end
theorem Sim.datS {U:Nat->Prop} {w0:World} {S0:Nat->Prop} {nt:Nat} {ac:Act} {w:World} {S:Nat->Prop} {L:Lay} {a:Option Addr} {n cap:Nat} {rows:List (List C)} (hr:Rep w S (.sl rows) (.slice a n cap)):∀ (ts:List Nat) (σ:St),Sim e U w0 S0 nt σ ac w S L->Sim e U w0 S0 nt ⟨datS a n cap rows ts σ.s,σ.m⟩ ac w S L
 | [],σ,h=>h
 | t::ts,σ,h=>Sim.datS hr ts ⟨(t,datA a n cap rows (gs σ.s t))::σ.s,σ.m⟩ ⟨h.cls,fun t'=>by
   simp only [gs];split
   ·rename_i e';subst e';exact ZxO hr (h.rel _)
   ·exact h.rel t',h.size,h.defers,h.kept⟩
theorem Sim.datM {U:Nat->Prop} {w0:World} {S0:Nat->Prop} {nt:Nat} {ac:Act} {w:World} {S:Nat->Prop} {L:Lay} {a:Option Addr} {n cap:Nat} {rows:List (List C)} (hr:Rep w S (.sl rows) (.slice a n cap)):∀ (ks:List Nat) (σ:St),Sim e U w0 S0 nt σ ac w S L->Sim e U w0 S0 nt ⟨σ.s,datM a n cap rows ks σ.m⟩ ac w S L
 | [],σ,h=>h
 | k::ks,σ,h=>by
  refine Sim.datM hr ks ⟨σ.s,datV a n cap rows k σ.m (gm σ.m k)⟩ ?_;unfold datV;split
  ·rename_i o cs hm;obtain ⟨h0,h1,h2,⟨arr,ty,h3,h4⟩,h5⟩:=h.cls.own k _ hm;exact ⟨h.cls.swap hm (bk':=.var o (cs.map (datC a n cap rows))) ⟨h0,h1,h2,⟨arr,ty,h3,by rw [Tay];exact h4⟩,Zkl hr h5⟩ (fun g hg=>hg),h.rel,h.size,h.defers,h.kept⟩
  ·exact h
theorem Zoh (k:Nat) (ts ks:List Nat) {a:Option Addr} {cap ety sz:Nat} {rows:List (List C)} (hm:gm σ.m k=some (.buf (some (a,cap)) ety sz rows)) :
  Turn e σ (fun σ'=>σ'=⟨datS a rows.length cap rows ts (frzS k (.buf (some (a,cap)) ety sz rows) σ.s),datM a rows.length cap rows ks (remM k σ.m)⟩):=by
 intro he U w0 S0 nt ac w ⟨S,L,h⟩;have ho:=h.cls.own k _ hm;have hv:L.v k=.slice a rows.length cap:=ho.1 (a,cap) rfl;have hrep:=ZaE.rep ho.2;rw [hv] at hrep;obtain ⟨S',L',h',hS'⟩:=h.freeze2 he hm;have hr:Rep w S' (.sl rows) (.slice a rows.length cap):=hrep.mono fun b hb=>(hS' b).2 (hb.imp id (fun q=>by show vblk (L.v k)=some b;rw [hv];exact q));exact ⟨_,rfl,S',L',(Sim.datM hr ks ⟨_,remM k σ.m⟩ (Sim.datS hr ts _ h'))⟩
theorem Zp0 {o:Oper} {K:St->Prop} {t:TypeId} {parts:Array (Nat × Operand)} (ho:o.op=.build t parts) {cs cs':List C} (hz:ZdD e.P t=some cs) (hst:Zbv e.P t=true) (hok:cs.all Zau=true) (hf:Zc4 e.P t cs (parts.toList.map fun p=>(p.1,evA σ.s p.2))=some cs')
  (hK:K ⟨setA σ.s o.dst (.d (.agg cs')),σ.m⟩):ZbN e o σ K:=by
 intro he U w0 S0 nt a w Q hd ⟨S,L,h⟩;unfold ZdD at hz;simp only [Tav,Option.bind_eq_some_iff] at hz;obtain ⟨v,⟨i,hi,hv⟩,rfl⟩:=hz;exact Oper.wp_mono (fun a' w' hs=>⟨_,hK,hs⟩) (ZeU h hd (ZiA ho hi hv hst hok (fun w S=>Zgp _) hf))
end
section
variable {e:Env} {U:Nat->Prop} {w0:World} {S0:Nat->Prop} {nt:Nat} {σ:St} {a:Act} {w:World} {S:Nat->Prop} {L:Lay} {o:Oper}
theorem Zdw {ops:List Oper} {j d:Nat} (h:((ops.map (·.dst))[j]?).join=some d):(ops.toArray[j]?).bind (·.dst)=some d:=by
 simp only [Tba] at h;simp only [List.getElem?_toArray]
 cases ho:ops[j]? with
 | none=>rw [ho] at h;simp at h
 | some p=>rw [ho] at h;simpa using h
theorem ARel.bool {b:Bool} {v:Value} (h:ARel w S L (.d (.one (.lit (.bool b)))) v):v=.bool b:=by simpa [ARel,DRel,Rep] using h
theorem ZgX {l:Array Value} {d:Nat} {b:Bool} (h:l.getD d undef=.bool b):l[d]?=some (.bool b):=by
 by_cases hd:d < l.size
 ·simp [hd] at h;simp [hd,h]
 ·simp [hd,undef] at h
theorem Zt0 (h:Sim e U w0 S0 nt σ a w S L) {ops:List Oper} {j:Nat} {want b:Bool} (hg:o.guard=some (j,want)) (hs:(((ops.map (·.dst))[j]?).join.map (gs σ.s))=some (.d (.one (.lit (.bool b))))):Region.wanted o (yielded ops.toArray a.tmps)=decide (b=want):=by
 simp only [Tav] at hs;obtain ⟨d,h1,h2⟩:=hs;have h3:=h.rel d;rw [h2] at h3;have h4:=ZgX h3.bool;have h5:((ops.toArray[j]?).bind (·.dst))=some d:=Zdw h1;have h6:yielded ops.toArray a.tmps j=some b:=by unfold yielded;rw [h5];simp only [Option.bind_some,h4]
 simp only [Region.wanted,hg,h6]
 cases b <;> cases want <;> rfl
theorem ZsN {l:Array Value} {d:Nat} (h:l.getD d undef=undef):l[d]?=some undef∨l[d]?=none:=by
 by_cases hd:d < l.size
 ·simp [hd] at h;simp [hd,h]
 ·simp [hd]
theorem ZgY {ops:Array Oper} {tmps:Array Value} {j d:Nat} {want:Bool} (hg:o.guard=some (j,want)) (hs:(ops[j]?).bind (·.dst)=some d) (h:tmps.getD d undef=undef):Region.wanted o (yielded ops tmps)=false:=by
 have h6:yielded ops tmps j=none:=by
  unfold yielded;rw [hs];rcases ZsN h with h1 | h1 <;> simp only [Option.bind_some,h1]
  rfl
 simp only [Region.wanted,hg,h6]
 cases want <;> rfl
def Zeb (e:Env) (ds:List (Option Nat)) (os:List Oper) (σ:St) (K:St->Prop):Prop:=e.Ok->∀ (U:Nat->Prop) (w0:World) (S0:Nat->Prop) (nt:Nat) (a:Act) (w:World) (ops:List Oper) (Q:Exit->Act->World->Prop),ops.map (·.dst)=ds->(∀ o∈os,∀ d,o.dst=some d->d < nt) ->
 (∀ a w σ',K σ'->SimE e U w0 S0 nt σ' a w->Q .normal a w)->SimE e U w0 S0 nt σ a w->wpList e.P ops.toArray Q os a w
def Runs (e:Env) (ds:List (Option Nat)):Nat->List Oper->St->(St->Prop)->Prop
 | 0,os,σ,K=>Zeb e ds os σ K
 | _+1,[],σ,K=>K σ
 | n+1,o::os,σ,K=>match o.guard with
  | none=>if n=0∧isAl o=true then ∃ d t cs,o.dst=some d∧o.op=.alloc t∧Za3 e.P t=some cs∧Zeb e ds os ⟨(d,.ref d 0)::Zaq d σ.s,(d,.var none cs)::remM d σ.m⟩ K
   else ZeN e o σ (fun σ'=>Runs e ds n os σ' K)
  | some (j,want)=>match (ds[j]?.join).map (gs σ.s) with
   | some (.d (.one (.lit (.bool b))))=>if b=want then ZeN e o σ (fun σ'=>Runs e ds n os σ' K) else Runs e ds n os ⟨setA σ.s o.dst .no,σ.m⟩ K
   | some .no=>Runs e ds n os ⟨setA σ.s o.dst .no,σ.m⟩ K
   | _=>False
theorem Zt1 {ds:List (Option Nat)} {K:St->Prop} {σ:St} (h:K σ):Zeb e ds [] σ K:=fun he U w0 S0 nt a w ops Q hds hd hQ hs=>hQ a w σ h hs
theorem ZsO {ds:List (Option Nat)} {K:St->Prop} {os:List Oper} {σ:St} {P:St->Prop} (hT:Turn e σ P) (h:∀ σ',P σ'->Zeb e ds os σ' K):Zeb e ds os σ K:=fun he U w0 S0 nt a w ops Q hds hd hQ hs=>by
 obtain ⟨σ',h1,h2⟩:=hT he U w0 S0 nt a w hs;exact h σ' h1 he U w0 S0 nt a w ops Q hds hd hQ h2
theorem ZcP {ds:List (Option Nat)} {K:St->Prop} {os:List Oper} {σ:St} {o:Oper} (hg:o.guard=none) (h:ZbN e o σ (fun σ'=>Zeb e ds os σ' K)):Zeb e ds (o::os) σ K:=fun he U w0 S0 nt a w ops Q hds hd hQ hs=>by
 unfold wpList;have hw:Region.wanted o (yielded ops.toArray a.tmps)=true:=by simp [Region.wanted,hg]
 rw [if_pos hw];exact .inl (Oper.wp_mono (fun a' w' ⟨σ',hK,hS⟩=>hK he U w0 S0 nt a' w' ops Q hds (fun o' ho'=>hd o' (by simp [ho'])) hQ hS) (h he U w0 S0 nt a w Q (hd o (by simp)) hs))
theorem Zp1 {ds:List (Option Nat)} {K:St->Prop} {os:List Oper} {σ:St} {o:Oper} {j:Nat} {want:Bool} (hg:o.guard=some (j,want)) (h:match (ds[j]?.join).map (gs σ.s) with
   | some (.d (.one (.lit (.bool b))))=>if b=want then ZbN e o σ (fun σ'=>Zeb e ds os σ' K) else Zeb e ds os ⟨setA σ.s o.dst .no,σ.m⟩ K
   | some .no=>Zeb e ds os ⟨setA σ.s o.dst .no,σ.m⟩ K
   | _=>False):Zeb e ds (o::os) σ K:=fun he U w0 S0 nt a w ops Q hds hd hQ hs=>by
 unfold wpList;obtain ⟨S,L,h1⟩:=id hs;subst hds;split at h
 ·rename_i b hb;rw [Zt0 h1 hg hb];by_cases hbw:b=want
  ·rw [if_pos hbw] at h;simp only [hbw,decide_true,if_true];exact .inl (Oper.wp_mono (fun a' w' ⟨σ',hK,hS⟩=>hK he U w0 S0 nt a' w' ops Q rfl (fun o' ho'=>hd o' (by simp [ho'])) hQ hS) (h he U w0 S0 nt a w Q (hd o (by simp)) hs))
  ·rw [if_neg hbw] at h;simp only [hbw,decide_false,Tam,if_false];exact h he U w0 S0 nt _ _ ops Q rfl (fun o' ho'=>hd o' (by simp [ho'])) hQ ⟨S,L,h1.put (α:=.no) rfl (hd o (by simp))⟩
 ·rename_i hb;simp only [Tav] at hb;obtain ⟨d,hb1,hb2⟩:=hb;have h3:=h1.rel d;rw [hb2] at h3;rw [ZgY (d:=d) hg (Zdw hb1) h3];simp only [Tam,if_false];exact h he U w0 S0 nt _ _ ops Q rfl (fun o' ho'=>hd o' (by simp [ho'])) hQ ⟨S,L,h1.put (α:=.no) rfl (hd o (by simp))⟩
 ·exact h.elim
theorem Zhz (he:e.Ok) (ops:List Oper) {K:St->Prop} {Q:Exit->Act->World->Prop} (hQ:∀ a w σ',K σ'->SimE e U w0 S0 nt σ' a w->Q .normal a w) (os:List Oper) (σ:St) (a:Act) (w:World) (hd:∀ o∈os,∀ d,o.dst=some d->d < nt) (h:SimE e U w0 S0 nt σ a w) (hp:Runs e (ops.map (·.dst)) 0 os σ K):wpList e.P ops.toArray Q os a w:=by
 have hp:Zeb e (ops.map (·.dst)) os σ K:=by simpa only [Runs] using hp
 exact hp he U w0 S0 nt a w ops Q rfl hd hQ h
end
section
variable {e:Env} {U:Nat->Prop} {w0:World} {S0:Nat->Prop} {nt:Nat} {ops:Array Oper} {n:Nat}
structure HeadAt (ops:Array Oper) (n i:Nat) (o:Oper) (d:Nat):Prop where
 op:ops[i]?=some o
 dst:o.dst=some d
 back:∀ e∈o.after,Region.binds .any e=true->e.on < i
 guard:∀ j want,o.guard=some (j,want)->j < n∧Region.waitsFor .any ops i j=true
 dep:∀ (j:Nat) (p:Oper),j < n->ops[j]?=some p->(j≠i->p.dst≠some d)∧(∀ t∈Zce o,p.dst=some t->Region.waitsFor .any ops i j=true)
theorem Zb7.get (h:Zb7 ops n=true) {i:Nat} (hi:i < n):∃ o d,HeadAt ops n i o d:=by
 have h1:=List.all_eq_true.1 h i (List.mem_range.2 hi)
 cases ho:ops[i]? with
 | none=>rw [ho] at h1;simp at h1
 | some o =>
  rw [ho] at h1;simp only [Tar] at h1;obtain ⟨⟨⟨h2,h3⟩,h5⟩,h4⟩:=h1;obtain ⟨d,hd⟩:=Option.isSome_iff_exists.1 h2;refine ⟨o,d,ho,hd,fun e he hb=>?_,fun j want hg=>?_,fun j p hj hp=>?_⟩
  ·have:=Array.all_eq_true'.1 h3 e he;simpa [hb] using this
  ·rw [hg] at h5;simpa using h5
  ·have h5:=List.all_eq_true.1 h4 j (List.mem_range.2 hj);rw [hp] at h5;simp only [Tar,Bool.or_eq_true,beq_iff_eq,bne_iff_ne,ne_eq,Bool.not_eq_true'] at h5;refine ⟨fun hne hpd=>?_,fun t ht hpt=>?_⟩
   ·rcases h5.1 with h | h
    ·exact hne h
    ·exact h (hpd.trans hd.symm)
   ·rcases h5.2 with h | h
    ·have:=List.any_eq_false.1 h t ht;simp [hpt] at this
    ·exact h
theorem HeadAt.waits {i:Nat} {o:Oper} {d j:Nat} (h:HeadAt ops n i o d) (hw:Region.waitsFor .any ops i j=true):∃ e∈o.after,Region.binds .any e=true∧e.on=j:=by
 obtain ⟨p3,hp3,e,he,hbe,hon⟩:=Region.waitsFor_spec hw;rw [h.op] at hp3;injection hp3 with hp3
 subst hp3;exact ⟨e,he,hbe,hon⟩
def Zew (e:Env) (U:Nat->Prop) (base:Nat) (S0:Nat->Prop) (m:List (Nat × Bk)) (ops:List Oper) (o:Oper) (s:List (Nat × A)) (α:A):Prop :=
 match o.guard with
 | none=>ZaW e U base S0 m o (evA s) α
 | some (j,want)=>(∃ b,((ops.map (·.dst))[j]?).join.map (gs s)=some (.d (.one (.lit (.bool b))))∧if b=want then ZaW e U base S0 m o (evA s) α else α=.no)∨(((ops.map (·.dst))[j]?).join.map (gs s)=some .no∧α=.no)
def Zci (e:Env) (U:Nat->Prop) (base:Nat) (S0:Nat->Prop) (m:List (Nat × Bk)) (ops:List Oper):List Oper->List (Nat × A)->List A->Prop
 | [],_,[]=>True
 | o::os,s,α::αs=>Zew e U base S0 m ops o s α∧Zci e U base S0 m ops os (setA s o.dst α) αs
 | _,_,_=>False
def after:List (Nat × A)->List Oper->List A->List (Nat × A)
 | s,o::os,α::αs=>after (setA s o.dst α) os αs
 | s,_,_=>s
theorem Zda (he:e.Ok) (base:Nat) (S0:Nat->Prop) (l:List Oper) {K:St->Prop} (rest:List Oper) (k:Nat):∀ (os:List Oper) (σ:St),(k=0->∀ o,os.getLast?=some o->isAl o=false)->Runs e (l.map (·.dst)) (os.length+k) (os++rest) σ K ->
  ∃ αs,αs.length=os.length∧Zci e U base S0 σ.m l os σ.s αs∧Runs e (l.map (·.dst)) k rest ⟨after σ.s os αs,σ.m⟩ K
 | [],σ,_,h=>⟨[],rfl,trivial,by rw [Tak,Nat.zero_add] at h;exact h⟩
 | o::os,σ,hl,h=>by
  have ih:=fun (σ':St) (h':Runs e (l.map (·.dst)) (os.length+k) (os++rest) σ' K)=>Zda he base S0 l rest k os σ' (fun hk o' ho'=>by
   cases os with
   | nil=>cases ho'
   | cons p ps=>exact hl hk o' (by rw [List.getLast?_cons_cons];exact ho')) h'
  rw [Tag,show os.length+1+k=(os.length+k)+1 by omega] at h;simp only [Taf,Runs] at h
  cases hg:o.guard with
  | none =>
   rw [hg] at h;simp only at h;have hna:¬ (os.length+k=0∧isAl o=true):=fun ⟨h1,h2⟩=>by
    have h3:os=[]:=Tao om;subst h3;rw [hl om o rfl] at h2
    cases h2
   rw [if_neg hna] at h;obtain ⟨α,h1,h2⟩:=h he;obtain ⟨αs,h3,h4,h5⟩:=ih _ h1;exact ⟨α::αs,by simp [h3],⟨by unfold Zew;rw [hg];exact h2 U base S0,h4⟩,h5⟩
  | some jw =>
   obtain ⟨j,want⟩:=jw;rw [hg] at h;simp only at h;split at h
   ·rename_i b hb;by_cases hbw:b=want
    ·rw [if_pos hbw] at h;obtain ⟨α,h1,h2⟩:=h he;obtain ⟨αs,h3,h4,h5⟩:=ih _ h1;exact ⟨α::αs,by simp [h3],⟨by unfold Zew;rw [hg];exact .inl ⟨b,hb,by rw [if_pos hbw];exact h2 U base S0⟩,h4⟩,h5⟩
    ·rw [if_neg hbw] at h;obtain ⟨αs,h3,h4,h5⟩:=ih _ h;exact ⟨.no::αs,by simp [h3],⟨by unfold Zew;rw [hg];exact .inl ⟨b,hb,by rw [if_neg hbw]⟩,h4⟩,h5⟩
   ·rename_i hb;obtain ⟨αs,h3,h4,h5⟩:=ih _ h;exact ⟨.no::αs,by simp [h3],⟨by unfold Zew;rw [hg];exact .inr ⟨hb,rfl⟩,h4⟩,h5⟩
   ·exact h.elim
theorem Zci.get {base:Nat} {m:List (Nat × Bk)} {l:List Oper}:∀ {os:List Oper} {s:List (Nat × A)} {αs:List A},Zci e U base S0 m l os s αs->∀ (i:Nat) (o:Oper),os[i]?=some o->∃ α,αs[i]?=some α∧Zew e U base S0 m l o (after s (os.take i) (αs.take i)) α
 | [],_,_,_,i,o,h=>by simp at h
 | p::os,s,[],h,_,_,_=>by simp [Zci] at h
 | p::os,s,α::αs,h,0,o,ho=>by
  simp at ho;subst ho;exact ⟨α,by simp,by simpa [after] using h.1⟩
 | p::os,s,α::αs,h,i+1,o,ho=>by
  obtain ⟨β,h1,h2⟩:=Zci.get h.2 i o (by simpa using ho);exact ⟨β,by simpa using h1,by simpa [after] using h2⟩
theorem Zcj {t:Nat}:∀ (os:List Oper) (αs:List A) (s:List (Nat × A)),(∀ o∈os,o.dst≠some t)->gs (after s os αs) t=gs s t
 | [],αs,s,_=>by cases αs <;> rfl
 | o::os,[],s,_=>rfl
 | o::os,α::αs,s,h=>by
  simp only [after];rw [Zcj os αs _ (fun p hp=>h p (by simp [hp]))]
  cases hd:o.dst with
  | none=>rfl
  | some d =>
   have:t≠d:=fun e=>h o (by simp) (by rw [hd,e]);simp [setA,gs,this]
theorem Zdi {t:Nat}:∀ (os:List Oper) (αs:List A) (s:List (Nat × A)) (i:Nat) (o:Oper) (α:A),os[i]?=some o->αs[i]?=some α->o.dst=some t->(∀ (j:Nat) (p:Oper),j≠i->os[j]?=some p->p.dst≠some t)->gs (after s os αs) t=α
 | [],_,_,_,_,_,h,_,_,_=>by simp at h
 | _::_,[],_,_,_,_,_,h,_,_=>by simp at h
 | p::os,β::αs,s,0,o,α,h1,h2,h3,h4=>by
  simp at h1 h2;subst h1 h2;simp only [after];rw [Zcj os αs _ (fun q hq=>by obtain ⟨j,hj⟩:=List.mem_iff_getElem?.1 hq;exact h4 (j+1) q om (by simpa using hj))];simp [h3,setA,gs]
 | p::os,β::αs,s,i+1,o,α,h1,h2,h3,h4=>by
  simp only [after];exact Zdi os αs _ i o α (by simpa using h1) (by simpa using h2) h3 (fun j q hj hq=>h4 (j+1) q om (by simpa using hq))
structure InvA (e:Env) (U:Nat->Prop) (w0:World) (S0:Nat->Prop) (nt:Nat) (m:List (Nat × Bk)) (ops:Array Oper) (n:Nat) (s:List (Nat × A)) (αs:List A) (L:Lay) (listed:Array Bool) (a:Act) (w:World) (S:Nat->Prop):Prop where
 head:HeadInv .any ops n listed
 size:a.tmps.size=nt
 defers:a.defers=[]
 cls:Cls e U w0.heap.size S0 m w S L
 kept:Kept e.D (fun b=>e.E b∨U b) w0.heap.size w0 w
 out:∀ t,(∀ (i:Nat) (o:Oper),i < n->ops[i]?=some o->o.dst≠some t)->ARel w S L (gs s t) (a.tmps.getD t undef)
 done:∀ (i:Nat) (o:Oper) (d:Nat) (α:A),i < n->listed.getD i false=true->ops[i]?=some o->o.dst=some d->αs[i]?=some α->ARel w S L α (a.tmps.getD d undef)
variable {m:List (Nat × Bk)} {s:List (Nat × A)} {αs:List A} {L:Lay}
theorem InvA.operand (hH:Zb7 ops n=true) (hn:n<=ops.size) {listed:Array Bool} {a:Act} {w:World} {S:Nat->Prop} (hI:InvA e U w0 S0 nt m ops n s αs L listed a w S) (hal:αs.length=n) {i:Nat} {o:Oper} {d:Nat} (hA:HeadAt ops n i o d) (hi:i < n)
  (hall:∀ e∈o.after,Region.binds .any e=true->listed.getD e.on false=true) {t:Nat} (hw:∀ (j:Nat) (p:Oper),j < n->ops[j]?=some p->p.dst=some t->Region.waitsFor .any ops i j=true) :
  ARel w S L (gs (after s (ops.toList.take i) (αs.take i)) t) (a.tmps.getD t undef):=by
 by_cases hex:∃ (j:Nat) (p:Oper),j < n∧ops[j]?=some p∧p.dst=some t
 ·obtain ⟨j,p,hj,hp,hpt⟩:=hex;obtain ⟨e',he',hbe,hon⟩:=hA.waits (hw j p hj hp hpt);have hl:=hall e' he' hbe;rw [hon] at hl;have hji:=hA.back e' he' hbe;rw [hon] at hji;obtain ⟨α,hα⟩:∃ α,αs[j]?=some α:=⟨αs[j],Taa om⟩;obtain ⟨p',d',hP⟩:=Zb7.get hH hj;have hpp:p'=p:=by have:=hP.op;rw [hp] at this;injection this with this;exact this.symm
  subst hpp;have hdt:d'=t:=by have:=hP.dst;rw [hpt] at this;injection this with this;exact this.symm
  subst hdt;rw [Zdi (ops.toList.take i) (αs.take i) s j p' α (by rw [List.getElem?_take,if_pos hji];simpa using hp) (by rw [List.getElem?_take,if_pos hji];exact hα) hpt (fun k q hk hq=>by
   rw [List.getElem?_take] at hq;split at hq
   ·exact (hP.dep k q om (by simpa using hq)).1 hk
   ·cases hq)]
  exact hI.done j p' d' α hj hl hp hpt hα
 ·have hno:∀ (j:Nat) (p:Oper),j < n->ops[j]?=some p->p.dst≠some t:=fun j p hj hp hd=>hex ⟨j,p,hj,hp,hd⟩;rw [Zcj _ _ _ (fun p hp=>by
   obtain ⟨j,hj⟩:=List.mem_iff_getElem?.1 hp;rw [List.getElem?_take] at hj;split at hj
   ·exact hno j p om (by simpa using hj)
   ·cases hj)]
  exact hI.out t hno
theorem InvA.put (hH:Zb7 ops n=true) {listed:Array Bool} {a:Act} {w w':World} {S S':Nat->Prop} (hI:InvA e U w0 S0 nt m ops n s αs L listed a w S) {i:Nat} {o:Oper} {d:Nat} {α:A} {v:Value} (hA:HeadAt ops n i o d) (hi:i < n) (hr:i∈Region.ready .any ops listed) (hdn:d < nt)
  (hα:αs[i]?=some α) (hS:∀ b,S b->S' b) (hC:Cls e U w0.heap.size S0 m w' S' L) (hk:Kept e.D e.E w.heap.size w w') (hv:ARel w' S' L α v) :
  InvA e U w0 S0 nt m ops n s αs L (listed.setIfInBounds i true) (a.put o.dst v) w' S':=by
 have hlt:d < a.tmps.size:=by rw [hI.size];exact hdn
 rw [hA.dst];refine ⟨hI.head.set hr hi,by simp [Act.put,hI.size],by simp [Act.put,hI.defers],hC,hI.kept.trans ⟨hk.os,hk.tape,hk.output,hk.drawn,hk.size,fun b hb hE=>hk.block b (by have:=hI.cls.bsz;omega) (fun h1=>hE (.inl h1))⟩,fun t ht=>?_,fun j p dj β hj hl hp hdj hβ=>?_⟩
 ·rw [ZbW hlt];have:t≠d:=fun eq=>ht i o hi hA.op (by rw [hA.dst,eq]);rw [if_neg this];exact (hI.out t ht).keep hk.size (hI.cls.cell hk) hS
 ·rw [ZbW hlt];by_cases hji:j=i
  ·subst hji;rw [hA.op] at hp;injection hp with hp
   subst hp;rw [hA.dst] at hdj;injection hdj with hdj
   subst hdj;rw [hα] at hβ;injection hβ with hβ
   subst hβ;simpa using hv
  ·have hne:dj≠d:=fun eq=>(hA.dep j p hj hp).1 hji (by rw [hdj,eq]);rw [if_neg hne];rw [getD_set_ne false (Ne.symm hji)] at hl;exact (hI.done j p dj β hj hl hp hdj hβ).keep hk.size (hI.cls.cell hk) hS
theorem Zgq (hH:Zb7 ops n=true) {listed:Array Bool} (hh:HeadInv .any ops n listed) {i:Nat} (hi:i < n) (hun:listed.getD i true=false):Region.ready .any ops listed≠[]:=by
 induction i using Nat.strongRecOn with
 | _ i ih =>
  obtain ⟨o,d,hA⟩:=Zb7.get hH hi;by_cases hall:∀ e∈o.after,Region.binds .any e=true->listed.getD e.on false=true
  ·intro h0;have:=mem_ready.2 ⟨hun,o,hA.op,hall⟩;rw [h0] at this
   cases this
  ·simp only [Classical.not_forall] at hall;obtain ⟨e,he,hb,hl⟩:=hall;have hlt:=hA.back e he hb;have hs:e.on < listed.size:=by rw [hh.size];have:=(Tbl.1 hA.op).1;omega
   exact ih e.on hlt om (by rw [Zbf hs];simpa using hl)
def ZiF (e:Env) (U:Nat->Prop) (w0:World) (S0:Nat->Prop) (nt:Nat) (m:List (Nat × Bk)) (ops:Array Oper) (n:Nat) (s:List (Nat × A)) (αs:List A) (L:Lay) (J:Array Bool->Act->World->(Nat->Prop)->Prop) (Q:Exit->Act->World->Prop):Prop :=
 ∀ (listed:Array Bool) (a:Act) (w:World) (S:Nat->Prop) (i:Nat) (o:Oper) (d:Nat) (α:A),InvA e U w0 S0 nt m ops n s αs L listed a w S->J listed a w S->HeadAt ops n i o d->i < n->i∈Region.ready .any ops listed->d < nt->αs[i]?=some α ->
  (∀ x∈o.op.operands,ARel w S L (evA (after s (ops.toList.take i) (αs.take i)) x) (a.eval x))->ZaW e U w0.heap.size S0 m o (evA (after s (ops.toList.take i) (αs.take i))) α ->
  o.wp e.P a w (fun a' w'=>∃ S',InvA e U w0 S0 nt m ops n s αs L (listed.setIfInBounds i true) a' w' S'∧J (listed.setIfInBounds i true) a' w' S') Q
theorem Zha (hH:Zb7 ops n=true) (Q:Exit->Act->World->Prop):ZiF e U w0 S0 nt m ops n s αs L (fun _ _ _ _=>True) Q :=
 fun listed a w S i o d α hI _ hA hin hr hdn hα hop hG=>Zc0 (hG w S L a.eval hI.cls hop) fun v w' ⟨S',hS,hC,hk,hv⟩=>⟨S',hI.put hH hA hin hr hdn hα hS.1 hC hk hv,trivial⟩
theorem Zdj {J:Array Bool->Act->World->(Nat->Prop)->Prop} (he:e.Ok) (hH:Zb7 ops n=true) (hn:n<=ops.size) (hs:n < ops.size->Region.sinkB .any ops n=true∧Region.chainB .any ops n=true) (hsq:Region.seqB .any ops (ops.size - n) n (Zbp ops.size n)=true)
  (hsz:∀ (i:Nat) (o:Oper) (d:Nat),i < n->ops[i]?=some o->o.dst=some d->d < nt) (hal:αs.length=n) (hch:Zci e U w0.heap.size S0 m ops.toList (ops.toList.take n) s αs) {Q:Exit->Act->World->Prop} (hgo:ZiF e U w0 S0 nt m ops n s αs L J Q)
  (hsk:∀ (listed:Array Bool) (a:Act) (w:World) (S:Nat->Prop) (i:Nat) (o:Oper) (d:Nat),J listed a w S->InvA e U w0 S0 nt m ops n s αs L listed a w S->HeadAt ops n i o d->i < n->i∈Region.ready .any ops listed->d < nt->o.guard≠none->J (listed.setIfInBounds i true) (a.put o.dst undef) w S)
  (hend:∀ listed a w S,InvA e U w0 S0 nt m ops n s αs L listed a w S->J listed a w S->(∀ i,i < n->listed.getD i false=true)->wpList e.P ops Q (ops.toList.drop n) a w) :
  ∀ (k:Nat) (listed:Array Bool) (a:Act) (w:World) (S:Nat->Prop),InvA e U w0 S0 nt m ops n s αs L listed a w S->J listed a w S->(List.range n).countP (fun i=>!listed.getD i true)=k->wpAny e.P .any ops Q (k+(ops.size - n)) listed a w
 | 0,listed,a,w,S,hI,hJ,hc=>by
  have hall:∀ i,i < n->listed.getD i true=true:=fun i hi=>by
   have:=List.countP_eq_zero.1 hc i (List.mem_range.2 hi);simpa using this
  have heq:=Ziw hI.head hn hall;have hdl:(ops.toList.drop n).length=ops.size - n:=by simp
  have hE:=hend listed a w S hI hJ (fun i hi=>by
   have hl:i < listed.size:=by rw [hI.head.size];omega
   rw [<- Zbf hl];exact hall i hi)
  have:=wpAny_of_seq (md:=.any) (Q':=Q) (ops.toList.drop n) n listed a w (fun j=>by simp [Tbb]) (by rw [hdl,heq];exact hsq) hE;rw [hdl] at this;simpa using this
 | k+1,listed,a,w,S,hI,hJ,hc=>by
  obtain ⟨i0,hi0,hu0⟩:∃ i,i < n∧listed.getD i true=false:=by
   have:0 < (List.range n).countP (fun i=>!listed.getD i true):=om;obtain ⟨i,hi,hp⟩:=List.countP_pos_iff.1 this;exact ⟨i,List.mem_range.1 hi,by simpa using hp⟩
  rw [show k+1+(ops.size - n)=(k+(ops.size - n))+1 by omega];refine ⟨fun h0=>absurd h0 (Zgq hH hI.head hi0 hu0),fun i hr=>?_⟩;obtain ⟨hun,oi,hoi,hall⟩:=mem_ready.1 hr;have hin:i < n:=by
   rcases Nat.lt_or_ge i n with h | h
   ·exact h
   ·have hns:n < ops.size:=Nat.lt_of_le_of_lt h (Tbl.1 hoi).1;exact absurd hr (tail_waits (hs hns).1 (hs hns).2 hns hI.head _ i0 rfl hi0 hu0 i h)
  obtain ⟨o,d,hA⟩:=Zb7.get hH hin;have hoo:oi=o:=by have:=hA.op;rw [hoi] at this;injection this
  subst hoo;have hls:i < listed.size:=by rw [hI.head.size];exact (Tbl.1 hoi).1
  obtain ⟨α,hα,hst⟩:=hch.get i oi (by rw [List.getElem?_take,if_pos hin];simpa using hoi);have htk:(ops.toList.take n).take i=ops.toList.take i:=by rw [List.take_take,Nat.min_eq_left om]
  rw [htk] at hst;have hdn:=hsz i oi d hin hoi hA.dst;have hcount:(List.range n).countP (fun j=>!(listed.setIfInBounds i true).getD j true)=k:=by
   have h1:(List.range n).countP (fun j=>!(listed.setIfInBounds i true).getD j true)+1=(List.range n).countP (fun j=>!listed.getD j true):=by
    have hperm:=List.perm_cons_erase (List.mem_range.2 hin);rw [hperm.countP_eq,hperm.countP_eq,List.countP_cons,List.countP_cons];have hcong:((List.range n).erase i).countP (fun j=>!(listed.setIfInBounds i true).getD j true)=((List.range n).erase i).countP (fun j=>!listed.getD j true):=by
     refine List.countP_congr fun j hj=>?_;have hne:j≠i:=fun e=>by
      subst e;exact List.Nodup.not_mem_erase (List.nodup_range) hj
     rw [getD_set_ne true (Ne.symm hne)]
    rw [hcong,hun];simp [hls]
   omega
  have hop:∀ x∈oi.op.operands,ARel w S L (evA (after s (ops.toList.take i) (αs.take i)) x) (a.eval x):=fun x hx=>by
   cases x with
   | tmp t =>
    exact hI.operand hH hn hal hA hin hall (fun j p hj hp hpt=>(hA.dep j p hj hp).2 t (List.mem_filterMap.2 ⟨.tmp t,by simpa using hx,rfl⟩) hpt)
   | const v =>
    simp only [evA,Act.eval];unfold ZdL;split
    ·simp only [ARel,DRel,Rep];exact ⟨⟨none,0,0,rfl,rfl,Tai _,by decide,fun h=>absurd h (by decide)⟩,none,0,rfl⟩
    ·rename_i vs;exact ⟨vs.toList,rfl,Zb9 _⟩
    ·simp [ARel,DRel,Rep]
   | func f =>
    simp only [evA,Act.eval,ARel,DRel,Rep];exact ⟨[],rfl,by simp [Zad]⟩
   | global g=>trivial
  have go:ZaW e U w0.heap.size S0 m oi (evA (after s (ops.toList.take i) (αs.take i))) α->oi.wp e.P a w (wpAny e.P .any ops Q (k+(ops.size - n)) (listed.setIfInBounds i true)) Q:=fun hG =>
   Oper.wp_mono (fun a' w' ⟨S',hI',hJ'⟩=>Zdj he hH hn hs hsq hsz hal hch hgo hsk hend k _ _ _ S' hI' hJ' hcount) (hgo listed a w S i oi d α hI hJ hA hin hr hdn hα hop hG)
  unfold wpOp;simp only [hoi];unfold Zew at hst
  cases hg:oi.guard with
  | none =>
   rw [hg] at hst;have hwt:Region.wanted oi (yielded ops a.tmps)=true:=by simp [Region.wanted,hg]
   rw [if_pos hwt];exact .inl (go hst)
  | some jw =>
   obtain ⟨j,want⟩:=jw;rw [hg] at hst;obtain ⟨hjn,hjw⟩:=hA.guard j want hg;have hrelD:∀ dj,((ops[j]?).bind (·.dst))=some dj->ARel w S L (gs (after s (ops.toList.take i) (αs.take i)) dj) (a.tmps.getD dj undef):=fun dj hdj=>hI.operand hH hn hal hA hin hall (t:=dj) (fun j' p hj' hp hpt=>by
    obtain ⟨p0,d0,hP0⟩:=Zb7.get hH hjn;have hd0:d0=dj:=by have:=hdj;rw [hP0.op] at this;simp [hP0.dst] at this;exact this
    by_cases hjj:j'=j
    ·rw [hjj];exact hjw
    ·exact absurd (by rw [hpt,hd0]) ((hP0.dep j' p hj' hp).1 hjj))
   rcases hst with ⟨b,hb1,hb2⟩ | ⟨hb1,hb2⟩
   rotate_left
   ·simp only [Tav] at hb1;obtain ⟨dj,hd1,hd2⟩:=hb1;have hdj:((ops[j]?).bind (·.dst))=some dj:=by simpa using Zdw hd1
    have hrel:=hrelD dj hdj;rw [hd2] at hrel;rw [ZgY hg hdj hrel];subst hb2;simp only [Tam,if_false];exact Zdj he hH hn hs hsq hsz hal hch hgo hsk hend k _ _ _ S (hI.put hH hA hin hr hdn hα (fun _ h=>h) hI.cls (Kept.refl _ _ _ _) rfl) (hsk listed a w S i oi d hJ hI hA hin hr hdn (by rw [hg];simp)) hcount
   simp only [Tav] at hb1;obtain ⟨dj,hd1,hd2⟩:=hb1;have hdj:((ops[j]?).bind (·.dst))=some dj:=by simpa using Zdw hd1
   have hrel:=hrelD dj hdj;rw [hd2] at hrel;have h4:=ZgX hrel.bool;have hwt:Region.wanted oi (yielded ops a.tmps)=decide (b=want):=by
    have h6:yielded ops a.tmps j=some b:=by unfold yielded;rw [hdj];simp only [Option.bind_some,h4]
    simp only [Region.wanted,hg,h6]
    cases b <;> cases want <;> rfl
   rw [hwt];by_cases hbw:b=want
   ·rw [if_pos hbw] at hb2;simp only [hbw,decide_true,if_true];exact .inl (go hb2)
   ·rw [if_neg hbw] at hb2;subst hb2;simp only [hbw,decide_false,Tam,if_false];exact Zdj he hH hn hs hsq hsz hal hch hgo hsk hend k _ _ _ S (hI.put hH hA hin hr hdn hα (fun _ h=>h) hI.cls (Kept.refl _ _ _ _) rfl) (hsk listed a w S i oi d hJ hI hA hin hr hdn (by rw [hg];simp)) hcount
end
end Go.Proofs.YtmdkimnlbaahbaaGreatDoor
