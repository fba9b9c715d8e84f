/-
  Part of a proof.
-/
import Derived.WalkKit
import Derived.WalkSpells
import Derived.WalkLawsBesides
import Derived.Lib.Hide
import Derived.Deep.Draws
import Derived.Test.YtbecmfjokofihaaGreatDoorRows
import Derived.ChangeSame
import Derived.JoinedOf
import Derived.JoinedAt
import Derived.RowKit
import Derived.RowKit2
import Derived.OpenShut
import Derived.ProofKit
import Derived.Deep.Slices
import Derived.Carry
import Derived.StillTailTactics
import Derived.StillTail
import Derived.Great.BuildSlice
import Derived.Laws.AppendOwn
import Derived.Laws.MakeOwn
set_option linter.unusedSimpArgs false
set_option linter.unusedVariables false
set_option maxHeartbeats 400000000
set_option maxRecDepth 100000
namespace Go.Proofs.YtbecmfjokofihaaGreatDoor
open Go.RowKit
variable {p0 p1 p2 p3 p4 p5 p6 p7 p8 p9 p10 p11 p12:Prop} {cap sz k off ety:Nat} {S':Nat->Prop} {w':World} {x y:Operand} {u:Value} {t:TypeId} {args:Array Operand} {ρv:Operand->Value} {parts:Array (Nat × Operand)} {ts:Array TypeId} {τ:Option Nat}
variable {q:Bool} {ks:List Nat}
theorem ai {a b : Prop} (x : a) (y : b) : a ∧ b := And.intro x y
theorem aj3 (x0:p0) (x1:p1) (x2:p2) : p0∧p1∧p2 := ⟨x0,x1,x2⟩
theorem aj4 (x0:p0) (x1:p1) (x2:p2) (x3:p3) : p0∧p1∧p2∧p3 := ⟨x0,x1,x2,x3⟩
theorem aj5 (x0:p0) (x1:p1) (x2:p2) (x3:p3) (x4:p4) : p0∧p1∧p2∧p3∧p4 := ⟨x0,x1,x2,x3,x4⟩
theorem aj6 (x0:p0) (x1:p1) (x2:p2) (x3:p3) (x4:p4) (x5:p5) : p0∧p1∧p2∧p3∧p4∧p5 := ⟨x0,x1,x2,x3,x4,x5⟩
theorem aj7 (x0:p0) (x1:p1) (x2:p2) (x3:p3) (x4:p4) (x5:p5) (x6:p6) : p0∧p1∧p2∧p3∧p4∧p5∧p6 := ⟨x0,x1,x2,x3,x4,x5,x6⟩
theorem aj8 (x0:p0) (x1:p1) (x2:p2) (x3:p3) (x4:p4) (x5:p5) (x6:p6) (x7:p7) : p0∧p1∧p2∧p3∧p4∧p5∧p6∧p7 := ⟨x0,x1,x2,x3,x4,x5,x6,x7⟩
theorem aj9 (x0:p0) (x1:p1) (x2:p2) (x3:p3) (x4:p4) (x5:p5) (x6:p6) (x7:p7) (x8:p8) : p0∧p1∧p2∧p3∧p4∧p5∧p6∧p7∧p8 := ⟨x0,x1,x2,x3,x4,x5,x6,x7,x8⟩
theorem aj10 (x0:p0) (x1:p1) (x2:p2) (x3:p3) (x4:p4) (x5:p5) (x6:p6) (x7:p7) (x8:p8) (x9:p9) : p0∧p1∧p2∧p3∧p4∧p5∧p6∧p7∧p8∧p9 := ⟨x0,x1,x2,x3,x4,x5,x6,x7,x8,x9⟩
theorem aj11 (x0:p0) (x1:p1) (x2:p2) (x3:p3) (x4:p4) (x5:p5) (x6:p6) (x7:p7) (x8:p8) (x9:p9) (x10:p10) : p0∧p1∧p2∧p3∧p4∧p5∧p6∧p7∧p8∧p9∧p10 := ⟨x0,x1,x2,x3,x4,x5,x6,x7,x8,x9,x10⟩
theorem aj12 (x0:p0) (x1:p1) (x2:p2) (x3:p3) (x4:p4) (x5:p5) (x6:p6) (x7:p7) (x8:p8) (x9:p9) (x10:p10) (x11:p11) : p0∧p1∧p2∧p3∧p4∧p5∧p6∧p7∧p8∧p9∧p10∧p11 := ⟨x0,x1,x2,x3,x4,x5,x6,x7,x8,x9,x10,x11⟩
theorem aj13 (x0:p0) (x1:p1) (x2:p2) (x3:p3) (x4:p4) (x5:p5) (x6:p6) (x7:p7) (x8:p8) (x9:p9) (x10:p10) (x11:p11) (x12:p12) : p0∧p1∧p2∧p3∧p4∧p5∧p6∧p7∧p8∧p9∧p10∧p11∧p12 := ⟨x0,x1,x2,x3,x4,x5,x6,x7,x8,x9,x10,x11,x12⟩
theorem aj14 {p13:Prop} (x0:p0) (x1:p1) (x2:p2) (x3:p3) (x4:p4) (x5:p5) (x6:p6) (x7:p7) (x8:p8) (x9:p9) (x10:p10) (x11:p11) (x12:p12) (x13:p13) : p0∧p1∧p2∧p3∧p4∧p5∧p6∧p7∧p8∧p9∧p10∧p11∧p12∧p13 := ⟨x0,x1,x2,x3,x4,x5,x6,x7,x8,x9,x10,x11,x12,x13⟩
theorem aj15 {p13 p14:Prop} (x0:p0) (x1:p1) (x2:p2) (x3:p3) (x4:p4) (x5:p5) (x6:p6) (x7:p7) (x8:p8) (x9:p9) (x10:p10) (x11:p11) (x12:p12) (x13:p13) (x14:p14) : p0∧p1∧p2∧p3∧p4∧p5∧p6∧p7∧p8∧p9∧p10∧p11∧p12∧p13∧p14 := ⟨x0,x1,x2,x3,x4,x5,x6,x7,x8,x9,x10,x11,x12,x13,x14⟩
theorem aj16 {p13 p14 p15:Prop} (x0:p0) (x1:p1) (x2:p2) (x3:p3) (x4:p4) (x5:p5) (x6:p6) (x7:p7) (x8:p8) (x9:p9) (x10:p10) (x11:p11) (x12:p12) (x13:p13) (x14:p14) (x15:p15) : p0∧p1∧p2∧p3∧p4∧p5∧p6∧p7∧p8∧p9∧p10∧p11∧p12∧p13∧p14∧p15 := ⟨x0,x1,x2,x3,x4,x5,x6,x7,x8,x9,x10,x11,x12,x13,x14,x15⟩
theorem om {p : Prop} (h : p := by omega) : p := h
structure Bx (Y:Prop):Prop where o:Y
theorem d8 {α:Type} [BEq α] [ReflBEq α] {a:α}:(a==a)=true:=beq_self_eq_true a
theorem lT (x y:Int) (h:x<y:=by omega):(x<y)=True:=eq_true h
theorem lF (x y:Int) (h:¬x<y:=by omega):(x<y)=False:=eq_false h
theorem Taa : type_of% @List.getElem?_eq_getElem := @List.getElem?_eq_getElem
theorem Tac : type_of% @List.mem_of_getElem? := @List.mem_of_getElem?
theorem Tad : type_of% @List.getElem?_eq_some_iff := @List.getElem?_eq_some_iff
theorem Tae : type_of% @List.length_append := @List.length_append
theorem Taf : type_of% @List.cons_append := @List.cons_append
theorem Tag : type_of% @List.length_cons := @List.length_cons
theorem Tah : type_of% @List.nil_append := @List.nil_append
theorem Tai : type_of% @Nat.le_refl := @Nat.le_refl
theorem Taj : type_of% @Nat.zero_le := @Nat.zero_le
theorem Tak : type_of% @List.length_nil := @List.length_nil
theorem Tal : type_of% @List.mem_cons_of_mem := @List.mem_cons_of_mem
theorem Tam : type_of% @Bool.false_eq_true := @Bool.false_eq_true
theorem Tan : type_of% @Nat.lt_succ_self := @Nat.lt_succ_self
theorem Tao : type_of% @List.eq_nil_of_length_eq_zero := @List.eq_nil_of_length_eq_zero
theorem Tap : type_of% @List.take_length := @List.take_length
theorem Taq : type_of% @Option.some.injEq := @Option.some.injEq
theorem Tar : type_of% @Bool.and_eq_true := @Bool.and_eq_true
theorem Tas : type_of% @List.mem_cons_self := @List.mem_cons_self
theorem Tat : type_of% @List.getElem?_cons_zero := @List.getElem?_cons_zero
theorem Tau : type_of% @List.getElem?_cons_succ := @List.getElem?_cons_succ
theorem Tav : type_of% @Option.map_eq_some_iff := @Option.map_eq_some_iff
theorem Taw : type_of% @List.length_take := @List.length_take
theorem Tax : type_of% @List.length_drop := @List.length_drop
theorem Tay : type_of% @List.length_map := @List.length_map
theorem Taz : type_of% @List.length_set := @List.length_set
theorem Tba : type_of% @List.getElem?_map := @List.getElem?_map
theorem Tbb : type_of% @List.getElem?_drop := @List.getElem?_drop
theorem Tbc : type_of% @List.take_succ_cons := @List.take_succ_cons
theorem Tbd : type_of% @Nat.lt_of_lt_of_le := @Nat.lt_of_lt_of_le
theorem Tbe : type_of% @Nat.le_trans := @Nat.le_trans
theorem Tbf : type_of% @List.append_assoc := @List.append_assoc
theorem Tbg : type_of% @List.mem_cons := @List.mem_cons
theorem Tbh : type_of% @List.mem_append := @List.mem_append
theorem Tbi : type_of% @List.mem_map := @List.mem_map
theorem Tbj : type_of% @List.mem_singleton := @List.mem_singleton
theorem Tbk : type_of% @List.getElem?_of_mem := @List.getElem?_of_mem
theorem Tbl : type_of% @Array.getElem?_eq_some_iff := @Array.getElem?_eq_some_iff
theorem Tbm : type_of% @List.take_append_drop := @List.take_append_drop
theorem Tbn : type_of% @List.getElem?_set_self := @List.getElem?_set_self
theorem Tbo : type_of% @List.getElem?_set_ne := @List.getElem?_set_ne
theorem Tbp : type_of% @List.getElem?_append_left := @List.getElem?_append_left
theorem Tbq : type_of% @List.getElem?_append_right := @List.getElem?_append_right
theorem Tbr : type_of% @List.getElem?_replicate := @List.getElem?_replicate
theorem Tbs : type_of% @Nat.pow_le_pow_right := @Nat.pow_le_pow_right
theorem Tbt : type_of% @Nat.testBit_lt_two_pow := @Nat.testBit_lt_two_pow
theorem Tbu : type_of% @List.map_cons := @List.map_cons
theorem Tbv : type_of% @List.map_append := @List.map_append
theorem Tbw : type_of% @Nat.add_assoc := @Nat.add_assoc
theorem Tbx : type_of% @Int.toNat_natCast := @Int.toNat_natCast
theorem m234 {p:Prop} (h:p:=by
 cases c <;> simp only [fH] at h;obtain ⟨n,rfl,h⟩:=h;exact ⟨n,rfl,h⟩):p:=h
inductive C where
 | lit (v:Value)
 | sl (rows:List (List C))
 | ptr (cs:List C)
 | fn (f:Nat) (caps:List C)
mutual
def aQ (w:World) (S:Nat->Prop):C->Value->Prop
 | .lit x,v=>v=x
 | .sl rows,v=>∃ A n cap,v=.slice A n cap∧rows.length=n∧n<=cap∧cap<=maxLen ∧
   (0 < n->∃ b off,A=some ⟨b,off,none⟩∧S b∧b < w.heap.size∧b7 w S b off rows)
 | .ptr cs,v=>∃ b off,v=.pointer (some ⟨b,off,none⟩)∧S b∧b < w.heap.size∧bn w S b off cs
 | .fn f caps,v=>∃ us:List Value,v=.func (.func f) #[] us.toArray∧aC w S caps us
def b7 (w:World) (S:Nat->Prop) (b:Nat):Nat->List (List C)->Prop
 | _,[]=>True
 | off,r::rs=>bn w S b off r∧b7 w S b (off+r.length) rs
def bn (w:World) (S:Nat->Prop) (b:Nat):Nat->List C->Prop
 | _,[]=>True
 | off,c::cs=>(∃ u,w.cell? ⟨b,off,none⟩=some u∧aQ w S c u)∧bn w S b (off+1) cs
def aC (w:World) (S:Nat->Prop):List C->List Value->Prop
 | [],[]=>True
 | c::cs,v::vs=>aQ w S c v∧aC w S cs vs
 | [],_::_=>False
 | _::_,[]=>False
end
section
variable {w w':World} {S S':Nat->Prop}
mutual
theorem aQ.keep (hz:w.heap.size<=w'.heap.size) (hk:∀ b o,S b->w'.cell? ⟨b,o,none⟩=w.cell? ⟨b,o,none⟩) (hS:∀ b,S b->S' b) :
  ∀ (c:C) (v:Value),aQ w S c v->aQ w' S' c v
 | .lit x,v,h=>by simpa [aQ] using h
 | .sl rows,v,h=>by
  simp only [aQ] at h ⊢;obtain ⟨A,n,cap,hv,hn,hc,hm,hr⟩:=h;refine ⟨A,n,cap,hv,hn,hc,hm,fun h0=>?_⟩;obtain ⟨b,off,hA,hs,hb,cn⟩:=hr h0;exact ⟨b,off,hA,hS b hs,om,b7.keep hz hk hS b hs off rows cn⟩
 | .ptr cs,v,h=>by
  simp only [aQ] at h ⊢;obtain ⟨b,off,hv,hs,hb,hr⟩:=h;exact ⟨b,off,hv,hS b hs,om,bn.keep hz hk hS b hs off cs hr⟩
 | .fn f caps,v,h=>by
  simp only [aQ] at h ⊢;obtain ⟨us,hv,hr⟩:=h;exact ⟨us,hv,aC.keepC hz hk hS caps us hr⟩
theorem aC.keepC (hz:w.heap.size<=w'.heap.size) (hk:∀ b o,S b->w'.cell? ⟨b,o,none⟩=w.cell? ⟨b,o,none⟩) (hS:∀ b,S b->S' b) :
  ∀ (cs:List C) (us:List Value),aC w S cs us->aC w' S' cs us
 | [],[],_=>by simp [aC]
 | c::cs,u::us,h=>by
  simp only [aC] at h ⊢;exact ⟨aQ.keep hz hk hS c u h.1,aC.keepC hz hk hS cs us h.2⟩
 | [],_::_,h=>by simp [aC] at h
 | _::_,[],h=>by simp [aC] at h
theorem b7.keep (hz:w.heap.size<=w'.heap.size) (hk:∀ b o,S b->w'.cell? ⟨b,o,none⟩=w.cell? ⟨b,o,none⟩) (hS:∀ b,S b->S' b) (b:Nat) (hb:S b) :
  ∀ (off:Nat) (rows:List (List C)),b7 w S b off rows->b7 w' S' b off rows
 | _,[],_=>by simp [b7]
 | off,r::rs,h=>by
  simp only [b7] at h ⊢;exact ⟨bn.keep hz hk hS b hb off r h.1,b7.keep hz hk hS b hb _ rs h.2⟩
theorem bn.keep (hz:w.heap.size<=w'.heap.size) (hk:∀ b o,S b->w'.cell? ⟨b,o,none⟩=w.cell? ⟨b,o,none⟩) (hS:∀ b,S b->S' b) (b:Nat) (hb:S b) :
  ∀ (off:Nat) (cs:List C),bn w S b off cs->bn w' S' b off cs
 | _,[],_=>by simp [bn]
 | off,c::cs,h=>by
  simp only [bn] at h ⊢;obtain ⟨⟨u,hu,hr⟩,h2⟩:=h;exact ⟨⟨u,by rw [hk b off hb];exact hu,aQ.keep hz hk hS c u hr⟩,bn.keep hz hk hS b hb _ cs h2⟩
end
mutual
theorem aQ.inside:∀ (c:C) (v:Value),aQ w S c v->aQ w (fun b=>S b∧b < w.heap.size) c v
 | .lit x,v,h=>by simpa [aQ] using h
 | .sl rows,v,h=>by
  simp only [aQ] at h ⊢;obtain ⟨A,n,cap,hv,hn,hc,hm,hr⟩:=h;refine ⟨A,n,cap,hv,hn,hc,hm,fun h0=>?_⟩;obtain ⟨b,off,hA,hs,hb,cn⟩:=hr h0;exact ⟨b,off,hA,⟨hs,hb⟩,hb,b7.inside b off rows cn⟩
 | .ptr cs,v,h=>by
  simp only [aQ] at h ⊢;obtain ⟨b,off,hv,hs,hb,hr⟩:=h;exact ⟨b,off,hv,⟨hs,hb⟩,hb,bn.inside b off cs hr⟩
 | .fn f caps,v,h=>by
  simp only [aQ] at h ⊢;obtain ⟨us,hv,hr⟩:=h;exact ⟨us,hv,aC.insideC caps us hr⟩
theorem aC.insideC:∀ (cs:List C) (us:List Value),aC w S cs us->aC w (fun b=>S b∧b < w.heap.size) cs us
 | [],[],_=>by simp [aC]
 | c::cs,u::us,h=>by
  simp only [aC] at h ⊢;exact ⟨aQ.inside c u h.1,aC.insideC cs us h.2⟩
 | [],_::_,h=>by simp [aC] at h
 | _::_,[],h=>by simp [aC] at h
theorem b7.inside (b:Nat):∀ (off:Nat) (rows:List (List C)),b7 w S b off rows->b7 w (fun b=>S b∧b < w.heap.size) b off rows
 | _,[],_=>by simp [b7]
 | off,r::rs,h=>by
  simp only [b7] at h ⊢;exact ⟨bn.inside b off r h.1,b7.inside b _ rs h.2⟩
theorem bn.inside (b:Nat):∀ (off:Nat) (cs:List C),bn w S b off cs->bn w (fun b=>S b∧b < w.heap.size) b off cs
 | _,[],_=>by simp [bn]
 | off,c::cs,h=>by
  simp only [bn] at h ⊢;obtain ⟨⟨u,hu,hr⟩,h2⟩:=h;exact ⟨⟨u,hu,aQ.inside c u hr⟩,bn.inside b _ cs h2⟩
end
theorem aQ.below {c:C} {v:Value} (h:aQ w S c v) (hb:Below w.heap.size w w'):aQ w' S c v :=
 aQ.keep hb.size (fun b o hs=>hb.cell (p:=⟨b,o,none⟩) hs.2) (fun _ hs=>hs.1) c v (aQ.inside c v h)
theorem aQ.mono {c:C} {v:Value} (h:aQ w S c v) (hS:∀ b,S b->S' b):aQ w S' c v :=
 aQ.keep (Tai _) (fun _ _ _=>rfl) hS c v h
theorem b7.get {b k:Nat}:∀ (rows:List (List C)) (off i:Nat) (r:List C),(∀ x∈rows,x.length=k)->b7 w S b off rows->rows[i]?=some r->bn w S b (off+i * k) r
 | [],_,_,_,_,_,hi=>by simp at hi
 | x::xs,off,0,r,_,h,hi=>by
  simp only [Tat,Taq] at hi;subst hi;simpa using h.1
 | x::xs,off,i+1,r,hl,h,hi=>by
  have hx:=hl x (by simp);have:=b7.get xs (off+x.length) i r (fun y hy=>hl y (by simp [hy])) h.2 (by simpa using hi);rw [hx] at this;rw [Nat.add_mul];have e:off+k+i * k=off+(i * k+1 * k):=om;rw [e] at this;exact this
theorem aC.below:∀ {cs:List C} {us:List Value},aC w S cs us->Below w.heap.size w w'->aC w' S cs us
 | [],[],_,_=>by simp [aC]
 | c::cs,u::us,h,hb=>by
  simp only [aC] at h ⊢;exact ⟨h.1.below hb,aC.below h.2 hb⟩
 | [],_::_,h,_=>by simp [aC] at h
 | _::_,[],h,_=>by simp [aC] at h
theorem aC.mono:∀ {cs:List C} {us:List Value},aC w S cs us->(∀ b,S b->S' b)->aC w S' cs us
 | [],[],_,_=>by simp [aC]
 | c::cs,u::us,h,hb=>by
  simp only [aC] at h ⊢;exact ⟨h.1.mono hb,aC.mono h.2 hb⟩
 | [],_::_,h,_=>by simp [aC] at h
 | _::_,[],h,_=>by simp [aC] at h
end
def Room (w:World) (b off cap:Nat) (rows:List (List C)):Prop :=
 (∀ o,w.frozen? ⟨b,o,none⟩=false)∧off=0∧∃ (bc:Array Value) (ety sz:Nat),w.heap[b]?=some (.cells bc ety (0,0))∧bc.size=cap * sz∧0 < sz∧∀ r∈rows,r.length=sz
mutual
def aU (w:World):C->(Nat->Prop)->Value->Prop
 | .lit x,_,v=>v=x
 | .sl rows,S,v=>∃ A n cap,v=.slice A n cap∧rows.length=n∧n<=cap∧cap<=maxLen ∧
   (0 < cap->∃ (b off:Nat) (S':Nat->Prop),A=some ⟨b,off,none⟩∧S b∧b < w.heap.size∧Room w b off cap rows∧(∀ x,S' x->S x∧x≠b)∧ic w b rows S' off)
 | .ptr _,_,_=>False
 | .fn _ _,_,_=>False
def ic (w:World) (b:Nat):List (List C)->(Nat->Prop)->Nat->Prop
 | [],_,_=>True
 | r::rs,S,off=>∃ (S1 S2:Nat->Prop),(∀ x,S1 x->S x)∧(∀ x,S2 x->S x)∧(∀ x,S1 x->S2 x->False)∧kr w b r S1 off∧ic w b rs S2 (off+r.length)
def kr (w:World) (b:Nat):List C->(Nat->Prop)->Nat->Prop
 | [],_,_=>True
 | c::cs,S,off=>∃ (S1 S2:Nat->Prop) (u:Value),(∀ x,S1 x->S x)∧(∀ x,S2 x->S x)∧(∀ x,S1 x->S2 x->False)∧w.cell? ⟨b,off,none⟩=some u∧aU w c S1 u∧kr w b cs S2 (off+1)
end
def aT (w:World):List C->(Nat->Prop)->List Value->Prop
 | [],_,[]=>True
 | c::cs,S,u::us=>∃ (S1 S2:Nat->Prop),(∀ x,S1 x->S x)∧(∀ x,S2 x->S x)∧(∀ x,S1 x->S2 x->False)∧aU w c S1 u∧aT w cs S2 us
 | _,_,_=>False
section
variable {w w':World}
mutual
theorem aU.rep:∀ (c:C) (S:Nat->Prop) (v:Value),aU w c S v->aQ w S c v
 | .lit x,_,v,h=>by simpa [aQ,aU] using h
 | .sl rows,S,v,h=>by
  simp only [aQ,aU] at h ⊢;obtain ⟨A,n,cap,hv,hn,hc,hm,hr⟩:=h;refine ⟨A,n,cap,hv,hn,hc,hm,fun h0=>?_⟩;obtain ⟨b,off,S',hA,hs,hb,_,hS,cn⟩:=hr om;exact ⟨b,off,hA,hs,hb,ic.rep rows S' S b off (fun x hx=>(hS x hx).1) cn⟩
 | .ptr _,_,_,h=>by simp [aU] at h
 | .fn _ _,_,_,h=>by simp [aU] at h
theorem ic.rep:∀ (rows:List (List C)) (S S0:Nat->Prop) (b off:Nat),(∀ x,S x->S0 x)->ic w b rows S off->b7 w S0 b off rows
 | [],_,_,_,_,_,_=>by simp [b7]
 | r::rs,S,S0,b,off,hS,h=>by
  simp only [b7,ic] at h ⊢;obtain ⟨S1,S2,h1,h2,_,hr,mZ⟩:=h;exact ⟨kr.rep r S1 S0 b off (fun x hx=>hS x (h1 x hx)) hr,ic.rep rs S2 S0 b _ (fun x hx=>hS x (h2 x hx)) mZ⟩
theorem kr.rep:∀ (cs:List C) (S S0:Nat->Prop) (b off:Nat),(∀ x,S x->S0 x)->kr w b cs S off->bn w S0 b off cs
 | [],_,_,_,_,_,_=>by simp [bn]
 | c::cs,S,S0,b,off,hS,h=>by
  simp only [bn,kr] at h ⊢;obtain ⟨S1,S2,u,h1,h2,_,hu,hc,ez⟩:=h;exact ⟨⟨u,hu,(aU.rep c S1 u hc).mono (fun x hx=>hS x (h1 x hx))⟩,kr.rep cs S2 S0 b _ (fun x hx=>hS x (h2 x hx)) ez⟩
end
theorem aT.rep:∀ (cs:List C) (S S0:Nat->Prop) (us:List Value),(∀ x,S x->S0 x)->aT w cs S us->aC w S0 cs us
 | [],_,_,[],_,_=>by simp [aC]
 | c::cs,S,S0,u::us,hS,h=>by
  simp only [aC,aT] at h ⊢;obtain ⟨S1,S2,h1,h2,_,hc,ez⟩:=h;exact ⟨(aU.rep c S1 u hc).mono (fun x hx=>hS x (h1 x hx)),aT.rep cs S2 S0 us (fun x hx=>hS x (h2 x hx)) ez⟩
 | [],_,_,_::_,_,h=>by simp [aT] at h
 | _::_,_,_,[],_,h=>by simp [aT] at h
mutual
theorem aU.keep (hz:w.heap.size<=w'.heap.size):∀ (c:C) (S S':Nat->Prop) (v:Value),(∀ b,S b->w'.heap[b]?=w.heap[b]?)->(∀ b,S b->S' b)->aU w c S v->aU w' c S' v
 | .lit x,_,_,v,_,_,h=>by simpa [aU] using h
 | .sl rows,S,S',v,hk,hS,h=>by
  simp only [aU] at h ⊢;obtain ⟨A,n,cap,hv,hn,hc,hm,hr⟩:=h;refine ⟨A,n,cap,hv,hn,hc,hm,fun h0=>?_⟩;obtain ⟨b,off,T,hA,hs,hb,hf,hT,cn⟩:=hr h0;obtain ⟨hf,mL,bc,ety,sz,tX,DU⟩:=hf;refine ⟨b,off,T,hA,hS b hs,om,⟨fun o=>?_,mL,bc,ety,sz,by rw [hk b hs];exact tX,DU⟩,fun x hx=>⟨hS x (hT x hx).1,(hT x hx).2⟩,?_⟩
  ·rw [<- hf o];exact World.frozen?_of_block (hk b hs)
  ·exact ic.keep hz rows T T b off (fun o _=>World.cell?_of_block (hk b hs)) (fun x hx=>hk x (hT x hx).1) (fun _ h=>h) cn
 | .ptr _,_,_,_,_,_,h=>by simp [aU] at h
 | .fn _ _,_,_,_,_,_,h=>by simp [aU] at h
theorem ic.keep (hz:w.heap.size<=w'.heap.size):∀ (rows:List (List C)) (S S':Nat->Prop) (b off:Nat),(∀ o,o < off+rows.flatten.length->w'.cell? ⟨b,o,none⟩=w.cell? ⟨b,o,none⟩) ->
  (∀ x,S x->w'.heap[x]?=w.heap[x]?)->(∀ x,S x->S' x)->ic w b rows S off->ic w' b rows S' off
 | [],_,_,_,_,_,_,_,_=>by simp [ic]
 | r::rs,S,S',b,off,hb,hk,hS,h=>by
  simp only [ic] at h ⊢;obtain ⟨S1,S2,h1,h2,hd,hr,mZ⟩:=h;simp only [List.flatten_cons,Tae] at hb
  exact ⟨S1,S2,fun x hx=>hS x (h1 x hx),fun x hx=>hS x (h2 x hx),hd,kr.keep hz r S1 S1 b off (fun o ho=>hb o om) (fun x hx=>hk x (h1 x hx)) (fun _ h=>h) hr,
   ic.keep hz rs S2 S2 b _ (fun o ho=>hb o om) (fun x hx=>hk x (h2 x hx)) (fun _ h=>h) mZ⟩
theorem kr.keep (hz:w.heap.size<=w'.heap.size):∀ (cs:List C) (S S':Nat->Prop) (b off:Nat),(∀ o,o < off+cs.length->w'.cell? ⟨b,o,none⟩=w.cell? ⟨b,o,none⟩) ->
  (∀ x,S x->w'.heap[x]?=w.heap[x]?)->(∀ x,S x->S' x)->kr w b cs S off->kr w' b cs S' off
 | [],_,_,_,_,_,_,_,_=>by simp [kr]
 | c::cs,S,S',b,off,hb,hk,hS,h=>by
  simp only [kr] at h ⊢;obtain ⟨S1,S2,u,h1,h2,hd,hu,hc,ez⟩:=h;simp only [Tag] at hb
  exact ⟨S1,S2,u,fun x hx=>hS x (h1 x hx),fun x hx=>hS x (h2 x hx),hd,by rw [hb off om];exact hu,aU.keep hz c S1 S1 u (fun x hx=>hk x (h1 x hx)) (fun _ h=>h) hc,
   kr.keep hz cs S2 S2 b _ (fun o ho=>hb o om) (fun x hx=>hk x (h2 x hx)) (fun _ h=>h) ez⟩
end
theorem aT.keep (hz:w.heap.size<=w'.heap.size):∀ (cs:List C) (S S':Nat->Prop) (us:List Value),(∀ b,S b->w'.heap[b]?=w.heap[b]?)->(∀ b,S b->S' b)->aT w cs S us->aT w' cs S' us
 | [],_,_,[],_,_,_=>by simp [aT]
 | c::cs,S,S',u::us,hk,hS,h=>by
  simp only [aT] at h ⊢;obtain ⟨S1,S2,h1,h2,hd,hc,ez⟩:=h;exact ⟨S1,S2,fun x hx=>hS x (h1 x hx),fun x hx=>hS x (h2 x hx),hd,aU.keep hz c S1 S1 u (fun x hx=>hk x (h1 x hx)) (fun _ h=>h) hc,aT.keep hz cs S2 S2 us (fun x hx=>hk x (h2 x hx)) (fun _ h=>h) ez⟩
 | [],_,_,_::_,_,_,h=>by simp [aT] at h
 | _::_,_,_,[],_,_,h=>by simp [aT] at h
theorem kr.of_vals {b:Nat}:∀ (cs:List C) (S:Nat->Prop) (us:List Value) (off:Nat),aT w cs S us->(∀ j u,us[j]?=some u->w.cell? ⟨b,off+j,none⟩=some u)->kr w b cs S off
 | [],_,_,_,_,_=>by simp [kr]
 | c::cs,S,u::us,off,h,hc=>by
  simp only [kr,aT] at h ⊢;obtain ⟨S1,S2,h1,h2,hd,hu,cu⟩:=h;exact ⟨S1,S2,u,h1,h2,hd,by simpa using hc 0 u rfl,hu,kr.of_vals cs S2 us (off+1) cu (fun j v hv=>by have:=hc (j+1) v (by simpa using hv);rw [<- this];congr 2;omega)⟩
 | _::_,_,[],_,h,_=>by simp [aT] at h
theorem ic.snoc {b:Nat}:∀ (rows:List (List C)) (r:List C) (S S1 S2:Nat->Prop) (off:Nat),ic w b rows S1 off->kr w b r S2 (off+rows.flatten.length)->(∀ x,S1 x->S x)->(∀ x,S2 x->S x)->(∀ x,S1 x->S2 x->False)->ic w b (rows++[r]) S off
 | [],r,S,S1,S2,off,_,h2,_,e2,_=>by
  simp only [Tah,ic,and_true];exact ⟨S2,fun _=>False,e2,fun _ h=>h.elim,fun _ _ h=>h,by simpa using h2⟩
 | x::xs,r,S,S1,S2,off,h1,h2,e1,e2,hd=>by
  simp only [Taf,ic] at h1 ⊢;obtain ⟨T1,T2,t1,t2,td,hx,sY⟩:=h1;refine ⟨T1,fun y=>T2 y∨S2 y,fun y hy=>e1 y (t1 y hy),fun y hy=>hy.elim (fun h=>e1 y (t2 y h)) (e2 y),fun y hy hy2=>hy2.elim (td y hy) (hd y (t1 y hy)),hx,?_⟩;refine ic.snoc xs r _ T2 S2 _ sY ?_ (fun y h=>.inl h) (fun y h=>.inr h) (fun y h=>hd y (t2 y h));simp only [List.flatten_cons,Tae] at h2;rw [Tbw];exact h2
end
inductive TN where
 | int | str | ints | sub | decl | op | term | binding | bindings | occ | cond | eqn | step | link | chain | weight | pend
inductive F where
 | int | str | bool
 | sl (t:TN)
def mJ:List F:=[.int,.str,.int,.sl .term]
def pZ:List F:=[.sl .int,.sl .term,.sl .term,.sl .binding]
def Zab:TN->List F
 | .int=>[.int]
 | .str=>[.str]
 | .ints=>[.sl .int]
 | .sub=>[.int,.int]
 | .decl=>[.sl .int,.int]
 | .op=>[.str,.sl .decl,.bool,.bool,.int]
 | .term=>mJ
 | .binding=>mJ++mJ
 | .bindings=>[.sl .binding]
 | .occ=>pZ
 | .cond=>mJ++mJ
 | .eqn=>mJ++mJ++[.sl .cond]
 | .step=>[.int]++pZ++mJ
 | .link=>[.int]++pZ++[.sl .chain]
 | .chain=>mJ++mJ++[.sl .link]
 | .weight=>[.int,.sl .int]
 | .pend=>[.int,.sl .term,.sl .term]
def eP (n:Int):Prop:=-9223372036854775808<=n∧n<=9223372036854775807
def ux:List F:=[.sl .str,.sl .sub]
def lM:List F:=ux++[.sl .op]
def tv:List F:=lM++[.sl .eqn,.sl .eqn]
def algF:List F:=[.int,.sl .ints]
def redF:List F:=mJ++[.sl .pend,.bool,.int,.int]
mutual
def fH:F->C->Prop
 | .int,.lit v=>∃ n:Int,v=.int .i64 n∧eP n
 | .str,.lit v=>∃ s:ByteArray,v=.string s∧s.size<=maxLen
 | .bool,.lit v=>∃ b:Bool,v=.bool b
 | .sl t,.sl rows=>aO (Zab t) rows
 | .int,.sl _=>False
 | .str,.sl _=>False
 | .bool,.sl _=>False
 | .sl _,.lit _=>False
 | _,.ptr _=>False
 | _,.fn _ _=>False
def aO (fs:List F):List (List C)->Prop
 | []=>True
 | r::rs=>aV fs r∧aO fs rs
def aV:List F->List C->Prop
 | [],[]=>True
 | f::fs,c::cs=>fH f c∧aV fs cs
 | [],_::_=>False
 | _::_,[]=>False
end
mutual
def dN:C->Nat
 | .lit (.string s)=>s.size
 | .lit _=>0
 | .sl rows=>rows.length+ah rows
 | .ptr _=>0
 | .fn _ _=>0
def ah:List (List C)->Nat
 | []=>0
 | r::rs=>ab r+ah rs
def ab:List C->Nat
 | []=>0
 | c::cs=>dN c+ab cs
end
theorem aV.len:∀ {fs:List F} {cs:List C},aV fs cs->cs.length=fs.length
 | [],[],_=>rfl
 | f::fs,c::cs,h=>by simp only [aV] at h;simp [aV.len h.2]
 | [],_::_,h=>by simp [aV] at h
 | _::_,[],h=>by simp [aV] at h
theorem aO.get {fs:List F}:∀ {rows:List (List C)} {i:Nat} {r:List C},aO fs rows->rows[i]?=some r->aV fs r
 | [],_,_,_,h=>by simp at h
 | x::xs,0,r,h,hi=>by simp at hi;subst hi;exact h.1
 | x::xs,i+1,r,h,hi=>aO.get (rows:=xs) (i:=i) h.2 (by simpa using hi)
theorem aO.lens {fs:List F}:∀ {rows:List (List C)},aO fs rows->∀ x∈rows,x.length=fs.length
 | [],_,x,hx=>by simp at hx
 | r::rs,h,x,hx=>by
  rcases Tbg.1 hx with rfl | hx
  ·exact aV.len h.1
  ·exact aO.lens h.2 x hx
theorem ZdT:∀ {rows:List (List C)} {k:Nat} {r:List C},rows[k]?=some r->ah (rows.take (k+1))=ah (rows.take k)+ab r
 | [],_,_,h=>by simp at h
 | x::xs,0,r,h=>by simp at h;subst h;simp [ah]
 | x::xs,k+1,r,h=>by have:=ZdT (rows:=xs) (k:=k) (by simpa using h);simp only [Tbc,ah] at this ⊢;omega
theorem ZcT:∀ (rows:List (List C)) (k:Nat),ah (rows.take k)<=ah rows
 | [],k=>by simp
 | x::xs,0=>by simp [ah]
 | x::xs,k+1=>by have:=ZcT xs k;simp only [Tbc,ah] at this ⊢;omega
mutual
def mo:C->Nat
 | .lit _=>1
 | .sl rows=>1+fY rows
 | .ptr _=>1
 | .fn _ _=>1
def fY:List (List C)->Nat
 | []=>0
 | r::rs=>d6 r+fY rs
def d6:List C->Nat
 | []=>0
 | c::cs=>mo c+d6 cs
end
theorem n7:∀ {rows:List (List C)} {i:Nat} {r:List C},rows[i]?=some r->d6 r<=fY rows
 | [],_,_,h=>by simp at h
 | x::xs,0,r,h=>by simp at h;subst h;simp [fY]
 | x::xs,i+1,r,h=>by have:=n7 (rows:=xs) (i:=i) (by simpa using h);simp only [fY];omega
def sub (left:Int) (b:Nat):Int:=if (b:Int)<=left then left - b else -1
theorem iK {left:Int} {b:Nat} (h:left < b):sub left b=-1:=by unfold sub;rw [if_neg om]
theorem gW {left:Int} {b:Nat} (h:(b:Int)<=left):sub left b=left - b:=by unfold sub;rw [if_pos h]
section
variable {w:World} {S:Nat->Prop}
theorem aQ.form {rows:List (List C)} {v:Value} (h:aQ w S (.sl rows) v):∃ A n cap,v=.slice A n cap∧rows.length=n∧n<=cap∧cap<=maxLen:=by
 simp only [aQ] at h;obtain ⟨A,n,cap,hv,hn,hc,hm,_⟩:=h;exact ⟨A,n,cap,hv,hn,hc,hm⟩
theorem aQ.get {rows:List (List C)} {A:Option Addr} {n i:Nat} {fs:List F} (h:aQ w S (.sl rows) (.slice A n cap)) (aj:aO fs rows) (hi:i < n) :
  ∃ b off r,A=some ⟨b,off,none⟩∧S b∧b < w.heap.size∧rows[i]?=some r∧aV fs r∧bn w S b (off+i * fs.length) r:=by
 simp only [aQ] at h;obtain ⟨A',n',dz,hv,hn,hc,hm,hr⟩:=h;injection hv with e1 e2 e3
 subst e1 e2 e3;obtain ⟨b,off,hA,hs,hb,cn⟩:=hr om;have rd:rows[i]?=some rows[i]:=Taa om;exact ⟨b,off,rows[i],hA,hs,hb,rd,aj.get rd,b7.get rows off i _ (fun x hx=>aj.lens x hx) cn rd⟩
end
theorem tB:∀ {rows:List (List C)} {i:Nat} {r:List C},rows[i]?=some r->ab r<=ah rows
 | [],_,_,h=>by simp at h
 | x::xs,0,r,h=>by simp at h;subst h;simp [ah]
 | x::xs,i+1,r,h=>by have:=tB (rows:=xs) (i:=i) (by simpa using h);simp only [ah];omega
structure Same (S:Nat->Prop) (w w':World):Prop where
 size:w.heap.size<=w'.heap.size
 block:∀ b,S b->w'.heap[b]?=w.heap[b]?
theorem Same.refl (S:Nat->Prop) (w:World):Same S w w:=⟨Tai _,fun _ _=>rfl⟩
theorem Same.trans {S:Nat->Prop} {a b c:World} (h:Same S a b) (k:Same S b c):Same S a c:=⟨Tbe h.size k.size,fun x hx=>(k.block x hx).trans (h.block x hx)⟩
theorem Same.mono {S:Nat->Prop} {a b:World} (h:Same S a b) (hS:∀ x,S' x->S x):Same S' a b:=⟨h.size,fun x hx=>h.block x (hS x hx)⟩
theorem Same.drew (S:Nat->Prop) (w:World):Same S w w.drew:=⟨Tai _,fun _ _=>rfl⟩
theorem Same.below {B:Nat} {w:World} (h:Below B w w'):Same (· < B) w w':=⟨h.size,h.block⟩
theorem aU.same {w:World} {c:C} {S:Nat->Prop} {v:Value} (h:aU w c S v) (k:Same S w w'):aU w' c S v:=aU.keep k.size c S S v k.block (fun _ h=>h) h
theorem aT.same {w:World} {cs:List C} {S:Nat->Prop} {us:List Value} (h:aT w cs S us) (k:Same S w w'):aT w' cs S us:=aT.keep k.size cs S S us k.block (fun _ h=>h) h
theorem aU.mono {w:World} {c:C} {S:Nat->Prop} {v:Value} (h:aU w c S v) (k:∀ x,S x->S' x):aU w c S' v:=aU.keep (Tai _) c S S' v (fun _ _=>rfl) k h
theorem aT.mono {w:World} {cs:List C} {S:Nat->Prop} {us:List Value} (h:aT w cs S us) (k:∀ x,S x->S' x):aT w cs S' us:=aT.keep (Tai _) cs S S' us (fun _ _=>rfl) k h
theorem aT.lit {w:World} {cs:List C} {S:Nat->Prop} {us:List Value} {x:Value} (h:aT w cs S us):aT w (.lit x::cs) S (x::us) :=
 ⟨fun _=>False,S,fun _ h=>h.elim,fun _ h=>h,fun _ h _=>h,by simp [aU],h⟩
theorem aT.nil {w:World} {S:Nat->Prop}:aT w [] S []:=by simp [aT]
theorem aT.cons {w:World} {c:C} {cs:List C} {S:Nat->Prop} (S1 S2:Nat->Prop) {us:List Value} (h:aU w c S1 u) (h2:aT w cs S2 us) (e1:∀ x,S1 x->S x) (e2:∀ x,S2 x->S x) (hd:∀ x,S1 x->S2 x->False):aT w (c::cs) S (u::us) :=
 ⟨S1,S2,e1,e2,hd,h,h2⟩
theorem aT.append {w:World}:∀ {cs ds:List C} {S:Nat->Prop} (S1 S2:Nat->Prop) {us vs:List Value},aT w cs S1 us->aT w ds S2 vs->(∀ x,S1 x->S x)->(∀ x,S2 x->S x)->(∀ x,S1 x->S2 x->False)->aT w (cs++ds) S (us++vs)
 | [],ds,S,S1,S2,[],vs,_,h2,_,e2,_=>by simpa using h2.mono e2
 | c::cs,ds,S,S1,S2,u::us,vs,h1,h2,e1,e2,hd=>by
  simp only [aT,Taf] at h1 ⊢;obtain ⟨T1,T2,t1,t2,td,hu,cu⟩:=h1
  exact ⟨T1,fun y=>T2 y∨S2 y,fun y hy=>e1 y (t1 y hy),fun y hy=>hy.elim (fun h=>e1 y (t2 y h)) (e2 y),fun y hy hy2=>hy2.elim (td y hy) (hd y (t1 y hy)),hu,
   aT.append T2 S2 cu h2 (fun y h=>.inl h) (fun y h=>.inr h) (fun y h=>hd y (t2 y h))⟩
 | [],_,_,_,_,_::_,_,h,_,_,_,_=>by simp [aT] at h
 | _::_,_,_,_,_,[],_,h,_,_,_,_=>by simp [aT] at h
theorem aT.len {w:World}:∀ {cs:List C} {S:Nat->Prop} {us:List Value},aT w cs S us->us.length=cs.length
 | [],_,[],_=>rfl
 | c::cs,S,u::us,h=>by
  simp only [aT] at h;obtain ⟨_,_,_,_,_,_,h2⟩:=h;simp [aT.len h2]
 | [],_,_::_,h=>by simp [aT] at h
 | _::_,_,[],h=>by simp [aT] at h
theorem aC.len {w:World} {S:Nat->Prop}:∀ {cs:List C} {us:List Value},aC w S cs us->us.length=cs.length
 | [],[],_=>rfl
 | c::cs,u::us,h=>by simp only [aC] at h;simp [aC.len h.2]
 | [],_::_,h=>by simp [aC] at h
 | _::_,[],h=>by simp [aC] at h
theorem fH.one {w:World} {S:Nat->Prop} {f:F} {c:C} (h:fH f c) (hr:aQ w S c u):u.oneCell'=true:=by
 cases c with
 | lit v =>
  simp only [aQ] at hr;subst hr
  cases f <;> simp only [fH] at h
  ·obtain ⟨n,rfl,_⟩:=h;rfl
  ·obtain ⟨n,rfl,_⟩:=h;rfl
  ·obtain ⟨n,rfl⟩:=h;rfl
 | sl rows =>
  obtain ⟨A,n,cap,rfl,_⟩:=hr.form;rfl
 | ptr cs=>cases f <;> simp [fH] at h
 | fn f' caps=>cases f <;> simp [fH] at h
theorem aV.one {w:World} {S:Nat->Prop}:∀ {fs:List F} {cs:List C} {us:List Value},aV fs cs->aC w S cs us->∀ u∈us,u.oneCell'=true
 | [],[],[],_,_,u,hu=>by simp at hu
 | f::fs,c::cs,x::us,h,hr,u,hu=>by
  simp only [aV] at h;simp only [aC] at hr;rcases Tbg.1 hu with rfl | hu
  ·exact h.1.one hr.1
  ·exact aV.one h.2 hr.2 u hu
 | [],_::_,_,h,_,_,_=>by simp [aV] at h
 | _::_,[],_,h,_,_,_=>by simp [aV] at h
 | [],[],_::_,_,h,_,_=>by simp [aC] at h
 | _::_,_::_,[],_,h,_,_=>by simp [aC] at h
structure Put (w w':World) (g off:Nat) (us:List Value):Prop where
 os:w'.os=w.os
 tape:w'.tape=w.tape
 output:w'.output=w.output
 size:w'.heap.size=w.heap.size
 other:∀ k,k≠g->w'.heap[k]?=w.heap[k]?
 row:∀ bc t,w.heap[g]?=some (.cells bc t (0,0))->∃ xY,w'.heap[g]?=some (.cells xY t (0,0))∧xY.size=bc.size
 new:∀ j u,us[j]?=some u->w'.cell? ⟨g,off+j,none⟩=some u
 old:∀ o,(o < off∨off+us.length<=o)->w'.cell? ⟨g,o,none⟩=w.cell? ⟨g,o,none⟩
theorem Zgm (w:World) (g off:Nat) (t:TypeId) (us:List Value) (bc:Array Value) (hg:w.heap[g]?=some (.cells bc t (0,0))) (hf:off+us.length<=bc.size) :
  Put w (w.setRow g (bc.toList.take off++us++bc.toList.drop (off+us.length)).toArray) g off us:=by
 have hl:(bc.toList.take off).length=off:=by simp;omega
 refine ⟨rfl,rfl,rfl,by simp,fun k hk=>setRow_other w g k _ hk,fun cur2 t2 h2=>?_,fun j u hu=>?_,fun o ho=>?_⟩
 ·rw [hg] at h2;injection h2 with h2
  injection h2 with h3 h4
  subst h3 h4;exact ⟨_,setRow_heap w g bc _ t _ hg,by simp;omega⟩
 ·have hj:j < us.length:=(Tad.1 hu).1;rw [cell_setRow_same w g _ bc _ t _ hg,List.getElem?_toArray,Tbf,Tbq om,hl,Tbp om];rw [<- hu];congr 1;omega
 ·rw [cell_setRow_same w g _ bc _ t _ hg,cell_of_row w g o bc t _ hg,List.getElem?_toArray,Tbf];rcases ho with ho | ho
  ·rw [Tbp om,List.getElem?_take];simp [ho]
  ·rw [Tbq om,hl,Tbq om,Tbb];have e:off+us.length+(o - off - us.length)=o:=om;rw [e];simp
def xH (w0:World) (g:Nat) (E:TypeId) (m sz:Nat) (rows:List (List C)) (k:Nat) (wr:World):Prop :=
 Below g w0 wr∧g < wr.heap.size∧(∃ bc,wr.heap[g]?=some (.cells bc E (0,0))∧bc.size=m * sz)∧ic wr g (rows.take k) (fun x=>g < x∧x < wr.heap.size) 0
theorem xH.start {w0:World} {E:TypeId} {m:Nat} {rows:List (List C)} {bc:Array Value} (h:bc.size=m * sz):xH w0 w0.heap.size E m sz rows 0 (w0.alloc (.cells bc E)) :=
 ⟨(Below.refl _ _).alloc (Tai _) _,by simp,⟨bc,heap_alloc_new w0 _,h⟩,by simp [ic]⟩
theorem ZhW {fs:List F}:∀ {rows:List (List C)},aO fs rows->∀ k,k<=rows.length->(rows.take k).flatten.length=k * fs.length
 | [],_,k,hk=>by simp at hk;subst hk;simp
 | r::rs,h,0,_=>by simp
 | r::rs,h,k+1,hk=>by
  have:=ZhW h.2 k (by simpa using hk);simp only [Tbc,List.flatten_cons,Tae,this,(aV.len h.1),Nat.add_mul];omega
theorem uz {α:Type} {l:List α} {x:α} (h:l[k]?=some x):l.take (k+1)=l.take k++[x]:=by
 rw [List.take_add_one,h];rfl
theorem xH.row {w0 wr w2:World} {g:Nat} {E:TypeId} {m:Nat} {rows:List (List C)} (h:xH w0 g E m sz rows k wr) (hb:Below wr.heap.size wr w2):∃ bc,w2.heap[g]?=some (.cells bc E (0,0))∧bc.size=m * sz:=by
 obtain ⟨bc,h1,h2⟩:=h.2.2.1;exact ⟨bc,by rw [hb.block g h.2.1];exact h1,h2⟩
theorem xH.step {w0 wr w2 w3:World} {g:Nat} {E:TypeId} {m:Nat} {fs:List F} {rows:List (List C)} {r:List C} {us:List Value} (h:xH w0 g E m fs.length rows k wr) (aj:aO fs rows) (hk:rows[k]?=some r)
  (hb:Below wr.heap.size wr w2) (eH:aT w2 r (fun x=>wr.heap.size<=x∧x < w2.heap.size) us) (hp:Put w2 w3 g (k * fs.length) us):xH w0 g E m fs.length rows (k+1) w3:=by
 obtain ⟨h1,h2,⟨bc,h3,h4⟩,h5⟩:=h;have eX:k < rows.length:=(Tad.1 hk).1;have tY:=ZhW aj k om;have bO:=hb.size;refine ⟨?_,by have:=hp.size;omega,?_,?_⟩
 ·exact (h1.trans (hb.mono om)).trans ⟨hp.os,hp.tape,hp.output,by have:=hp.size;omega,fun x hx=>hp.other x om⟩
 ·have py:w2.heap[g]?=some (.cells bc E (0,0)):=by rw [hb.block g h2];exact h3
  obtain ⟨xY,h6,h7⟩:=hp.row bc E py;exact ⟨xY,h6,om⟩
 ·rw [uz hk];refine ic.snoc (rows.take k) r _ (fun x=>g < x∧x < wr.heap.size) (fun x=>wr.heap.size<=x∧x < w2.heap.size) 0 ?_ ?_ ?_ ?_ ?_
  ·refine ic.keep (w:=wr) (by have:=hp.size;omega) _ _ _ g 0 (fun o ho=>?_) (fun x hx=>?_) (fun _ h=>h) h5
   ·rw [hp.old o (.inl om)];exact World.cell?_of_block (hb.block g h2)
   ·rw [hp.other x om];exact hb.block x om
  ·refine kr.of_vals r _ us _ ?_ (fun j u hu=>?_)
   ·exact aT.keep (w:=w2) (by have:=hp.size;omega) r _ _ us (fun b dC=>hp.other b om) (fun _ h=>h) eH
   ·have:=hp.new j u hu;rw [<- this];congr 2;omega
  ·intro x hx;have:=hp.size;exact ⟨hx.1,om⟩
  ·intro x hx;have:=hp.size;exact ⟨om,om⟩
  ·intro x hx hy;omega
theorem xH.done {w0 wr:World} {E:TypeId} {m:Nat} {rows:List (List C)} (h:xH w0 w0.heap.size E m sz rows m wr) (hm:rows.length=m) (dg:m<=maxLen) (hz:0 < sz) (hl:∀ r∈rows,r.length=sz) :
  aU wr (.sl rows) (fun x=>w0.heap.size<=x∧x < wr.heap.size) (.slice (some ⟨w0.heap.size,0,none⟩) m m)∧Below w0.heap.size w0 wr:=by
 obtain ⟨h1,h2,⟨bc,h3,h4⟩,h5⟩:=h;rw [List.take_of_length_le om] at h5;refine ⟨?_,h1⟩;simp only [aU];exact ⟨_,m,m,rfl,hm,Tai _,dg,fun _=>⟨w0.heap.size,0,_,rfl,⟨Tai _,h2⟩,h2,⟨fun o=>frozen_of_row wr _ o bc E h3,rfl,bc,E,sz,h3,h4,hz,hl⟩,fun x hx=>⟨⟨om,hx.2⟩,om⟩,h5⟩⟩
theorem pe {c:C} (h:fH .int c):∃ n:Int,c=.lit (.int .i64 n)∧eP n:=by
 exact m234
theorem Ah {c:C} (h:fH .str c):∃ s:ByteArray,c=.lit (.string s)∧s.size<=maxLen:=by
 exact m234
theorem ZmW {c:C} (h:fH .bool c):∃ b:Bool,c=.lit (.bool b):=by
 cases c <;> simp only [fH] at h
 obtain ⟨n,rfl⟩:=h;exact ⟨n,rfl⟩
theorem kl {t:TN} {c:C} (h:fH (.sl t) c):∃ rows,c=.sl rows∧aO (Zab t) rows:=by
 cases c <;> simp only [fH] at h
 exact ⟨_,rfl,h⟩
theorem ZrZ {n:Int} (h:eP n):fH .int (.lit (.int .i64 n)):=by simp only [fH];exact ⟨n,rfl,h⟩
theorem ZyT {s:ByteArray} (h:s.size<=maxLen):fH .str (.lit (.string s)):=by simp only [fH];exact ⟨s,rfl,h⟩
theorem ZF3 {b:Bool}:fH .bool (.lit (.bool b)):=by simp only [fH];exact ⟨b,rfl⟩
theorem tL {t:TN} {rows:List (List C)} (h:aO (Zab t) rows):fH (.sl t) (.sl rows):=by simp only [fH];exact h
theorem len1 {α:Type} {l:List α} (h:l.length=1):∃ a0,l=[a0]:=by
 match l,h with
 | [a0],_=>exact ⟨a0,rfl⟩
theorem ry {α:Type} {l:List α} (h:l.length=2):∃ a0 a1,l=[a0,a1]:=by
 match l,h with
 | [a0,a1],_=>exact ⟨a0,a1,rfl⟩
theorem Ca {α:Type} {l:List α} (h:l.length=3):∃ a0 a1 a2,l=[a0,a1,a2]:=by
 match l,h with
 | [a0,a1,a2],_=>exact ⟨a0,a1,a2,rfl⟩
theorem len4 {α:Type} {l:List α} (h:l.length=4):∃ a0 a1 a2 a3,l=[a0,a1,a2,a3]:=by
 match l,h with
 | [a0,a1,a2,a3],_=>exact ⟨a0,a1,a2,a3,rfl⟩
theorem yy {α:Type} {l:List α} (h:l.length=5):∃ a0 a1 a2 a3 a4,l=[a0,a1,a2,a3,a4]:=by
 match l,h with
 | [a0,a1,a2,a3,a4],_=>exact ⟨a0,a1,a2,a3,a4,rfl⟩
theorem len6 {α:Type} {l:List α} (h:l.length=6):∃ a0 a1 a2 a3 a4 a5,l=[a0,a1,a2,a3,a4,a5]:=by
 match l,h with
 | [a0,a1,a2,a3,a4,a5],_=>exact ⟨a0,a1,a2,a3,a4,a5,rfl⟩
theorem len8 {α:Type} {l:List α} (h:l.length=8):∃ a0 a1 a2 a3 a4 a5 a6 a7,l=[a0,a1,a2,a3,a4,a5,a6,a7]:=by
 match l,h with
 | [a0,a1,a2,a3,a4,a5,a6,a7],_=>exact ⟨a0,a1,a2,a3,a4,a5,a6,a7,rfl⟩
theorem Cb {α:Type} {l:List α} (h:l.length=9):∃ a0 a1 a2 a3 a4 a5 a6 a7 a8,l=[a0,a1,a2,a3,a4,a5,a6,a7,a8]:=by
 match l,h with
 | [a0,a1,a2,a3,a4,a5,a6,a7,a8],_=>exact ⟨a0,a1,a2,a3,a4,a5,a6,a7,a8,rfl⟩
theorem Zmm {B:Nat} {a w:World} (h:Below B a w) (n:Nat):Below B a (w.drewN n):=⟨h.os,h.tape,h.output,h.size,h.block⟩
section
open Go.ChangeShapes Go.WideShapes Go.ChangeAt Go.Deep
inductive TyOk (P:Program) (T:TN->TypeId) (R:TN->Prop):TypeId->List F->Prop where
 | int {t:TypeId}:P.underlying t=some (.int .i64)->TyOk P T R t [.int]
 | str {t:TypeId}:P.underlying t=some .string->TyOk P T R t [.str]
 | bool {t:TypeId}:P.underlying t=some .bool->TyOk P T R t [.bool]
 | sl {t:TypeId} {tn:TN}:P.underlying t=some (.slice (T tn))->P.cellsOf (T tn)=(Zab tn).length->R tn->TyOk P T R t [.sl tn]
 | st {t:TypeId} {flds:Array Field} {fss:List (List F)}:P.underlying t=some (.struct flds)->flds.size=fss.length->P.cellsOf t=fss.flatten.length ->
   (∀ (j:Nat) (f:Field) (fs:List F),flds[j]?=some f->fss[j]?=some fs->f.offset=(fss.take j).flatten.length∧P.cellsOf f.type=fs.length) ->
   (∀ (j:Nat) (f:Field) (fs:List F),flds[j]?=some f->fss[j]?=some fs->TyOk P T R f.type fs)->TyOk P T R t fss.flatten
section
variable {H:Type} {enc:TypeId × Value->H} {P:Program} {w:World} {base:Nat} {spare:Nat->Bool} {held:Bool}
theorem aC.cat {S:Nat->Prop}:∀ {cs ds:List C} {us vs:List Value},aC w S cs us->aC w S ds vs->aC w S (cs++ds) (us++vs)
 | [],_,[],_,_,h2=>by simpa using h2
 | c::cs,ds,u::us,vs,h1,h2=>by
  simp only [aC,Taf] at h1 ⊢;exact ⟨h1.1,aC.cat h1.2 h2⟩
 | [],_,_::_,_,h,_=>by simp [aC] at h
 | _::_,_,[],_,h,_=>by simp [aC] at h
theorem aV.cat:∀ {fs gs:List F} {cs ds:List C},aV fs cs->aV gs ds->aV (fs++gs) (cs++ds)
 | [],_,[],_,_,h2=>by simpa using h2
 | f::fs,gs,c::cs,ds,h1,h2=>by
  simp only [aV,Taf] at h1 ⊢;exact ⟨h1.1,aV.cat h1.2 h2⟩
 | [],_,_::_,_,h,_=>by simp [aV] at h
 | _::_,_,[],_,h,_=>by simp [aV] at h
theorem Zp2 (S:Nat->Prop):∀ (fss:List (List F)) (cs:List Value) (off:Nat),cs.length=off+fss.flatten.length ->
  (∀ (j:Nat) (fs:List F),fss[j]?=some fs->∃ row,aV fs row∧aC w S row ((cs.drop (off+(fss.take j).flatten.length)).take fs.length)) ->
  ∃ row,aV fss.flatten row∧aC w S row (cs.drop off)
 | [],cs,off,hl,_=>⟨[],by simp [aV],by
   have:cs.drop off=[]:=by simp at hl ⊢;omega
   rw [this];simp [aC]⟩
 | fs::fss,cs,off,hl,h=>by
  simp only [List.flatten_cons,Tae] at hl;obtain ⟨dq,h0,r0⟩:=h 0 fs rfl;obtain ⟨dw,h1,r1⟩:=Zp2 S fss cs (off+fs.length) om (fun j gs hj=>by
   obtain ⟨row,ha,hb⟩:=h (j+1) gs (by simpa using hj);refine ⟨row,ha,?_⟩;simp only [Tbc,List.flatten_cons,Tae] at hb;rw [Tbw];exact hb)
  simp only [List.take_zero,List.flatten_nil,Tak,Nat.add_zero] at r0;refine ⟨dq++dw,aV.cat h0 h1,?_⟩;have e:cs.drop off=(cs.drop off).take fs.length++cs.drop (off+fs.length):=by
   rw [<- List.drop_drop,Tbm]
  rw [e];exact aC.cat r0 r1
theorem bn.of_cells {S:Nat->Prop} {b:Nat}:∀ (row:List C) (us:List Value) (off:Nat),aC w S row us->(∀ j,j < us.length->w.cell? ⟨b,off+j,none⟩=us[j]?)->bn w S b off row
 | [],_,_,_,_=>by simp [bn]
 | c::cs,u::us,off,h,hc=>by
  simp only [bn,aC] at h ⊢;refine ⟨⟨u,by have:=hc 0 (by simp);simpa using this,h.1⟩,bn.of_cells cs us (off+1) h.2 (fun j hj=>?_)⟩;have:=hc (j+1) (by simpa using hj);simp only [Tau] at this;rw [<- this];congr 2;omega
 | _::_,[],_,h,_=>by simp [aC] at h
theorem b7.of_range {S:Nat->Prop} {b k:Nat} (f:Nat->List C):∀ (n i off:Nat),(∀ j,j < n->(f (i+j)).length=k∧bn w S b (off+j * k) (f (i+j)))->b7 w S b off ((List.range' i n).map f)
 | 0,_,_,_=>by simp [b7]
 | n+1,i,off,h=>by
  simp only [List.range'_succ,Tbu,b7];have h0:=h 0 om;simp only [Nat.add_zero,Nat.zero_mul] at h0;refine ⟨h0.2,?_⟩;rw [h0.1];refine b7.of_range (k:=k) f n (i+1) (off+k) (fun j hj=>?_);have:=h (j+1) om;have e1:i+(j+1)=i+1+j:=om;have e2:off+(j+1) * k=off+k+j * k:=by rw [Nat.add_mul];omega
  rw [e1,e2] at this;exact this
theorem aO.of_range {fs:List F} (f:Nat->List C):∀ (n i:Nat),(∀ j,j < n->aV fs (f (i+j)))->aO fs ((List.range' i n).map f)
 | 0,_,_=>by simp [aO]
 | n+1,i,h=>by
  simp only [List.range'_succ,Tbu,aO];refine ⟨by simpa using h 0 om,aO.of_range f n (i+1) (fun j hj=>?_)⟩;have:=h (j+1) om;have e1:i+(j+1)=i+1+j:=om;rw [e1] at this;exact this
theorem Zr0 (tn:TN):0 < (Zab tn).length:=by cases tn <;> simp [Zab,mJ,pZ]
theorem ZCY (a:Addr) (n:Nat) (h:∃ v,w.cell? (a.add n)=some v) (h0:∃ v,w.cell? (a.add 0)=some v):a=⟨a.block,a.off,none⟩:=by
 obtain ⟨v,hv⟩:=h0;obtain ⟨b,o,s⟩:=a;simp only [Addr.add,if_true] at hv
 cases s with
 | none=>rfl
 | some s =>
  simp only [World.cell?] at hv;split at hv <;> simp at hv
theorem Zq5 {e:TypeId} {fuel:Nat} {cs:List Value} {x:DataW H × List MemPlace} (ht:P.underlying t=some (.slice e)) (h:DataW.trod enc P w base spare held (fuel+1) t cs=some x) :
  (cs=[.slice none 0 0]∧True)∨∃ (a:Addr) (len cap:Nat),cs=[.slice (some a) len cap]∧len<=cap∧cap<=maxLen ∧
   ∀ i,i < len->∃ gc y,w.cells? base (a.add (i * P.cellsOf e)) (P.cellsOf e)=some gc∧DataW.trod enc P w base spare held fuel e gc=some y:=by
 rcases DataW.trod_slice ht h with ⟨h0,_⟩ | ⟨a,len,cap,elems,rest,n,hn,rfl,_,hb,hl,hm,bu,qq,_,_⟩
 ·exact .inl ⟨h0,trivial⟩
 ·obtain rfl:fuel=n:=by omega
  refine .inr ⟨a,len,cap,rfl,hl,hm,fun i hi=>?_⟩;have hx:=qq i hi;rw [Taa om] at hx;obtain ⟨gc,h1,h2⟩:=Option.bind_eq_some_iff.1 hx;exact ⟨gc,_,h1,h2⟩
theorem Zp3 {a:Addr} (h:a=⟨a.block,a.off,none⟩) (n:Nat):a.add n=⟨a.block,a.off+n,none⟩:=by
 obtain ⟨b,o,s⟩:=a;simp only [Addr.mk.injEq,true_and] at h;subst h;unfold Addr.add;split
 ·rename_i h0;subst h0;rfl
 ·rfl
theorem Zr1 {T:TN->TypeId} {R:TN->Prop} (hT:∀ tn,R tn->TyOk P T R (T tn) (Zab tn)):∀ (fuel:Nat) (t:TypeId) (fs:List F) (cs:List Value) (x:DataW H × List MemPlace),
  TyOk P T R t fs->DataW.trod enc P w base spare held fuel t cs=some x->∃ row,aV fs row∧aC w (fun _=>True) row cs:=by
 intro fuel
 induction fuel with
 | zero=>intro t fs cs x _ h;simp [DataW.trod] at h
 | succ fuel ih =>
  intro t fs cs x hty h
  cases hty with
  | int hu =>
   obtain ⟨n,rfl,_,hwf⟩:=DataW.trod_int hu h;refine ⟨[.lit (.int .i64 n)],?_,by simp [aC,aQ]⟩;simp only [aV,and_true];refine ZrZ ?_;simp [Lit.wf,IntKind.min,IntKind.max,IntKind.signed,IntKind.bits] at hwf;exact ⟨om,om⟩
  | str hu =>
   obtain ⟨s,rfl,_,hs⟩:=DataW.trod_string hu h;exact ⟨[.lit (.string s)],by simp only [aV,and_true];exact ZyT hs,by simp [aC,aQ]⟩
  | bool hu =>
   obtain ⟨b,rfl,_⟩:=DataW.trod_bool hu h;exact ⟨[.lit (.bool b)],by simp only [aV,and_true];exact ZF3,by simp [aC,aQ]⟩
  | @sl _ tn hu hc hR =>
   rcases Zq5 hu h with ⟨rfl,_⟩ | ⟨a,len,cap,rfl,hl,hm,qq⟩
   ·refine ⟨[.sl []],by simp only [aV,and_true];exact tL (by simp [aO]),?_⟩;simp only [aC,aQ,and_true];exact ⟨none,0,0,rfl,rfl,Tai _,by simp [maxLen],fun h=>absurd h om⟩
   ·rw [hc] at qq;have hpos:=Zr0 tn;have pI:∀ i,i < len->∃ row,aV (Zab tn) row∧∃ us:List Value,aC w (fun _=>True) row us∧us.length=(Zab tn).length∧∀ j,j < us.length->w.cell? ((a.add (i * (Zab tn).length)).add j)=us[j]?:=by
     intro i hi;obtain ⟨gc,y,h1,h2⟩:=qq i hi;obtain ⟨_,h3,h4⟩:=World.cells?_some h1;obtain ⟨row,ho,hr⟩:=ih _ _ _ _ (hT tn hR) h2;exact ⟨row,ho,gc,hr,h3,fun j hj=>h4 j om⟩
    have nN:=fun (i:Fin len)=>pI i.1 i.2
    let f:Nat->List C:=fun i=>if h:i < len then Classical.choose (pI i h) else []
    have hf:∀ i (hi:i < len),aV (Zab tn) (f i)∧∃ us:List Value,aC w (fun _=>True) (f i) us∧us.length=(Zab tn).length∧∀ j,j < us.length->w.cell? ((a.add (i * (Zab tn).length)).add j)=us[j]?:=by
     intro i hi;have:=Classical.choose_spec (pI i hi);simp only [f,hi,dif_pos];exact this
    refine ⟨[.sl ((List.range' 0 len).map f)],?_,?_⟩
    ·simp only [aV,and_true];exact tL (aO.of_range f len 0 (fun j hj=>by simpa using (hf j hj).1))
    ·simp only [aC,aQ,and_true];refine ⟨some a,len,cap,rfl,by simp,hl,hm,fun h0=>?_⟩;have jR:∀ i,i < len->∀ j,j < (Zab tn).length->∃ v,w.cell? ((a.add (i * (Zab tn).length)).add j)=some v:=by
      intro i hi j hj;obtain ⟨_,us,_,dM,cu⟩:=hf i hi;exact ⟨_,(cu j om).trans (Taa om)⟩
     have h00:=jR 0 h0 0 hpos;simp only [Nat.zero_mul] at h00;have uY:a.add 0=a:=by simp [Addr.add]
     rw [uY] at h00;have eN:=ZCY (w:=w) a 0 h00 h00;obtain ⟨v00,hv00⟩:=h00;have fO:a.block < w.heap.size:=by
      rw [uY] at hv00;exact World.block_lt_of_cell? w a hv00
     refine ⟨a.block,a.off,by rw [<- eN],trivial,fO,?_⟩;refine b7.of_range (k:=(Zab tn).length) f len 0 a.off (fun j hj=>?_);simp only [Nat.zero_add];obtain ⟨ho,us,hr,dM,cu⟩:=hf j hj;refine ⟨ho.len,bn.of_cells (f j) us _ hr (fun q hq=>?_)⟩;rw [<- cu q hq];congr 1;rw [Zp3 eN,Zp3 (a:=⟨a.block,a.off+j * (Zab tn).length,none⟩) rfl]
  | @st _ flds fss hu bO ip tY htys =>
   obtain ⟨xs,n,hn,_,bu,ug,hg⟩:=DataW.trod_struct hu h;obtain rfl:fuel=n:=by omega
   have:=Zp2 (w:=w) (fun _=>True) fss cs 0 om (fun j gs hj=>by
    have lz:j < fss.length:=(Tad.1 hj).1;have hf:flds[j]?=some (flds[j]'om):=Array.getElem?_eq_getElem om;obtain ⟨ho,hk⟩:=tY j _ gs hf hj;have hty:=htys j _ gs hf hj;have ht:=hg j _ hf;have hx:xs[j]?=some (xs[j]'om):=Taa om;rw [hx,ho,hk] at ht;simpa using ih _ _ _ _ hty ht)
   simpa using this
theorem Zkr (hl:laidOutB P=true) {W W':World} {sp:Nat->Bool}:∀ {ts:List TypeId} {vs:List Value} {ds:List (DataW H)} {ps:List MemPlace},(∀ t∈ts,P.readableRec t=true∧t < P.types.size) ->
  DataW.TrodAll enc P W 0 (fun _=>true) true ts vs ds ps->(∀ p∈ps,W.sameAt W' p)->(∀ p∈ps,sp p.block=true)->DataW.TrodAll enc P W' 0 sp true ts vs ds ps
 | [],[],[],ps,_,h,_,_=>h
 | t::ts,v::vs,d::ds,ps,ht,h,hs,hp=>by
  simp only [DataW.TrodAll] at h ⊢;obtain ⟨p,q,h1,h2,rfl⟩:=h
  exact ⟨p,q,WideElems.Trod_stays hl (ht t (by simp)).1 (ht t (by simp)).2 h1 (fun x hx=>hs x (by simp [hx])) (fun x hx=>hp x (by simp [hx])),
   Zkr hl (fun t' ht'=>ht t' (by simp [ht'])) h2 (fun x hx=>hs x (by simp [hx])) (fun x hx=>hp x (by simp [hx])),rfl⟩
 | [],_::_,_,_,_,h,_,_=>by simp [DataW.TrodAll] at h
 | [],[],_::_,_,_,h,_,_=>by simp [DataW.TrodAll] at h
 | _::_,[],_,_,_,h,_,_=>by simp [DataW.TrodAll] at h
 | _::_,_::_,[],_,_,h,_,_=>by simp [DataW.TrodAll] at h
theorem ZCZ {f:Func} {s:ChangeSpec} {W W':World} {args:Array Value} {ds:List (DataW H)} {jm:List MemPlace} {tb:TypeId} (hl:laidOutB P=true) (zT:s.vars=[])
  (ep:f.resultTypes=#[tb]) (hb:P.underlying tb=some .bool) (xh:∀ t∈f.params.toList,P.readableRec t=true∧t < P.types.size)
  (hW:DataW.Whole enc P f.params.toList s.vars false W args.toList ds [] jm) (yl:s.fn H (ds++[])={ results:=[.lit (.bool true)],args:=ds }) (hbel:Below W.heap.size W W') :
  s.post enc P f false true false false W args (.bool true) W':=by
 have au:∀ p∈jm,p.block < W.heap.size:=fun p hp=>hW.lt p hp;obtain ⟨p,q,hA,hV,rfl,hfz,re⟩:=id hW;rw [zT] at hV;obtain ⟨_,rfl⟩:=trodVars_none hV;simp only [List.append_nil] at au;refine ⟨ds,[],p++[],[],p,[],hW,?_,?_,?_,World.keptBut_mono (fun x hx=>⟨hx,.inr (.inl (by simpa using hx))⟩) (hbel.frame (·∈p++[])),fun h=>by cases h⟩
 ·rw [yl,ep];exact trodAll_cons_mk (shut_bool hb _) trodAll_mk0
 ·rw [yl];exact Zkr hl xh hA (fun x hx=>hbel.same (au x hx)) (fun x hx=>by simpa using au x hx)
 ·rw [yl,zT];rfl
end
def uJ (P:Program) (T:TN->TypeId) (R:TN->Prop):List Field->List (List F)->Prop
 | [],[]=>True
 | f::fl,fs::fss=>TyOk P T R f.type fs∧uJ P T R fl fss
 | _,_=>False
def zk (P:Program):List Field->List (List F)->Nat->Bool
 | [],[],_=>true
 | f::fl,fs::fss,o=>f.offset==o && P.cellsOf f.type==fs.length && zk P fl fss (o+fs.length)
 | _,_,_=>false
theorem uJ.len {P:Program} {T:TN->TypeId} {R:TN->Prop}:∀ {fl:List Field} {fss:List (List F)},uJ P T R fl fss->fl.length=fss.length
 | [],[],_=>rfl
 | f::fl,fs::fss,h=>by simp only [uJ] at h;simp [uJ.len h.2]
 | [],_::_,h=>by simp [uJ] at h
 | _::_,[],h=>by simp [uJ] at h
theorem uJ.get {P:Program} {T:TN->TypeId} {R:TN->Prop}:∀ {fl:List Field} {fss:List (List F)} {j:Nat} {f:Field} {fs:List F},uJ P T R fl fss->fl[j]?=some f->fss[j]?=some fs->TyOk P T R f.type fs
 | [],_,_,_,_,_,h,_=>by simp at h
 | f::fl,fs::fss,0,g,gs,h,h1,h2=>by
  simp at h1 h2;subst h1 h2;exact h.1
 | f::fl,fs::fss,j+1,g,gs,h,h1,h2=>uJ.get (fl:=fl) (fss:=fss) (j:=j) h.2 (by simpa using h1) (by simpa using h2)
 | _::_,[],_,_,_,_,_,h=>by simp at h
theorem zk.get {P:Program}:∀ {fl:List Field} {fss:List (List F)} {o j:Nat} {f:Field} {fs:List F},zk P fl fss o=true->fl[j]?=some f->fss[j]?=some fs->f.offset=o+(fss.take j).flatten.length∧P.cellsOf f.type=fs.length
 | [],_,_,_,_,_,_,h,_=>by simp at h
 | f::fl,fs::fss,o,0,g,gs,h,h1,h2=>by
  simp at h1 h2;subst h1 h2;simp only [zk,Tar,beq_iff_eq] at h;simpa using h.1
 | f::fl,fs::fss,o,j+1,g,gs,h,h1,h2=>by
  simp only [zk,Tar,beq_iff_eq] at h;have:=zk.get (fl:=fl) (fss:=fss) (o:=o+fs.length) (j:=j) h.2 (by simpa using h1) (by simpa using h2);simp only [Tbc,List.flatten_cons,Tae];exact ⟨om,this.2⟩
 | _::_,[],_,_,_,_,_,_,h=>by simp at h
theorem TyOk.st_of {P:Program} {T:TN->TypeId} {R:TN->Prop} {fl:List Field} (fss:List (List F)) (hu:P.underlying t=some (.struct fl.toArray)) (ho:zk P fl fss 0=true) (hc:P.cellsOf t=fss.flatten.length) (h:uJ P T R fl fss):TyOk P T R t fss.flatten:=by
 refine .st hu (by simpa using h.len) hc (fun j f fs h1 h2=>?_) (fun j f fs h1 h2=>h.get (by simpa using h1) h2);have:=ho;have:=zk.get ho (by simpa using h1) h2;simpa using this
theorem own:ownKnob Tryz.prog.godebug=none:=by kernel_rfl
theorem ZF4:laidOutB Tryz.prog=true:=by kernel_rfl
end
def jN:TN->TypeId
 | .int=>3
 | .str=>9
 | .ints=>93
 | .sub=>276
 | .decl=>333
 | .op=>193
 | .term=>34
 | .binding=>362
 | .cond=>315
 | .eqn=>153
 | .link=>160
 | .chain=>37
 | _=>0
def jO:TN->Prop
 | .int=>True
 | .str=>True
 | .ints=>True
 | .sub=>True
 | .decl=>True
 | .op=>True
 | .term=>True
 | .binding=>True
 | .cond=>True
 | .eqn=>True
 | .link=>True
 | .chain=>True
 | _=>False
theorem zl:TyOk Tryz.prog jN jO 3 [.int]:=.int Tryz.underlying3
theorem Zr2:TyOk Tryz.prog jN jO 9 [.str]:=.str Tryz.underlying9
theorem Zvv:TyOk Tryz.prog jN jO 4 [.bool]:=.bool Tryz.underlying4
theorem ZmX:TyOk Tryz.prog jN jO 93 [.sl .int]:=.sl (tn:=.int) Tryz.underlying93 (by kernel_rfl) trivial
theorem ZC0:TyOk Tryz.prog jN jO 22 [.sl .str]:=.sl (tn:=.str) Tryz.underlying22 (by kernel_rfl) trivial
theorem ZC1:TyOk Tryz.prog jN jO 23 [.sl .sub]:=.sl (tn:=.sub) Tryz.underlying23 (by kernel_rfl) trivial
theorem ZyU:TyOk Tryz.prog jN jO 191 [.sl .decl]:=.sl (tn:=.decl) Tryz.underlying191 (by kernel_rfl) trivial
theorem ZF5:TyOk Tryz.prog jN jO 26 [.sl .op]:=.sl (tn:=.op) Tryz.underlying26 (by kernel_rfl) trivial
theorem ZkG:TyOk Tryz.prog jN jO 32 [.sl .term]:=.sl (tn:=.term) Tryz.underlying32 (by kernel_rfl) trivial
theorem Zr3:TyOk Tryz.prog jN jO 155 [.sl .binding]:=.sl (tn:=.binding) Tryz.underlying155 (by kernel_rfl) trivial
theorem ZyV:TyOk Tryz.prog jN jO 151 [.sl .cond]:=.sl (tn:=.cond) Tryz.underlying151 (by kernel_rfl) trivial
theorem Zr4:TyOk Tryz.prog jN jO 29 [.sl .eqn]:=.sl (tn:=.eqn) Tryz.underlying29 (by kernel_rfl) trivial
theorem ZyW:TyOk Tryz.prog jN jO 35 [.sl .link]:=.sl (tn:=.link) Tryz.underlying35 (by kernel_rfl) trivial
theorem Zxz:TyOk Tryz.prog jN jO 158 [.sl .chain]:=.sl (tn:=.chain) Tryz.underlying158 (by kernel_rfl) trivial
theorem ZGX:TyOk Tryz.prog jN jO 276 (Zab .sub):=TyOk.st_of [[.int],[.int]] Tryz.underlying276 (by kernel_rfl) (by kernel_rfl) ⟨zl,zl,trivial⟩
theorem ZC2:TyOk Tryz.prog jN jO 25 (ux):=TyOk.st_of [[.sl .str],[.sl .sub]] Tryz.underlying25 (by kernel_rfl) (by kernel_rfl) ⟨ZC0,ZC1,trivial⟩
theorem ZF6:TyOk Tryz.prog jN jO 333 (Zab .decl):=TyOk.st_of [[.sl .int],[.int]] Tryz.underlying333 (by kernel_rfl) (by kernel_rfl) ⟨ZmX,zl,trivial⟩
theorem ZHL:TyOk Tryz.prog jN jO 193 (Zab .op):=TyOk.st_of [[.str],[.sl .decl],[.bool],[.bool],[.int]] Tryz.underlying193 (by kernel_rfl) (by kernel_rfl) ⟨Zr2,ZyU,Zvv,Zvv,zl,trivial⟩
theorem Zr5:TyOk Tryz.prog jN jO 28 (lM):=TyOk.st_of [ux,[.sl .op]] Tryz.underlying28 (by kernel_rfl) (by kernel_rfl) ⟨ZC2,ZF5,trivial⟩
theorem xI:TyOk Tryz.prog jN jO 34 (Zab .term):=TyOk.st_of [[.int],[.str],[.int],[.sl .term]] Tryz.underlying34 (by kernel_rfl) (by kernel_rfl) ⟨zl,Zr2,zl,ZkG,trivial⟩
theorem ZxA:TyOk Tryz.prog jN jO 362 (Zab .binding):=TyOk.st_of [mJ,mJ] Tryz.underlying362 (by kernel_rfl) (by kernel_rfl) ⟨xI,xI,trivial⟩
theorem Zks:TyOk Tryz.prog jN jO 157 (Zab .occ):=TyOk.st_of [[.sl .int],[.sl .term],[.sl .term],[.sl .binding]] Tryz.underlying157 (by kernel_rfl) (by kernel_rfl) ⟨ZmX,ZkG,ZkG,Zr3,trivial⟩
theorem Zr6:TyOk Tryz.prog jN jO 315 (Zab .cond):=TyOk.st_of [mJ,mJ] Tryz.underlying315 (by kernel_rfl) (by kernel_rfl) ⟨xI,xI,trivial⟩
theorem Zud:TyOk Tryz.prog jN jO 153 (Zab .eqn):=TyOk.st_of [mJ,mJ,[.sl .cond]] Tryz.underlying153 (by kernel_rfl) (by kernel_rfl) ⟨xI,xI,ZyV,trivial⟩
theorem ZyX:TyOk Tryz.prog jN jO 31 (tv):=TyOk.st_of [lM,[.sl .eqn],[.sl .eqn]] Tryz.underlying31 (by kernel_rfl) (by kernel_rfl) ⟨Zr5,Zr4,Zr4,trivial⟩
theorem ZF7:TyOk Tryz.prog jN jO 160 (Zab .link):=TyOk.st_of [[.int],pZ,[.sl .chain]] Tryz.underlying160 (by kernel_rfl) (by kernel_rfl) ⟨zl,Zks,Zxz,trivial⟩
theorem Zr7:TyOk Tryz.prog jN jO 37 (Zab .chain):=TyOk.st_of [mJ,mJ,[.sl .link]] Tryz.underlying37 (by kernel_rfl) (by kernel_rfl) ⟨xI,xI,ZyW,trivial⟩
theorem ZyY:∀ tn,jO tn->TyOk Tryz.prog jN jO (jN tn) (Zab tn):=by
 intro tn h
 cases tn
 all_goals first
  | exact (h:False).elim
  | exact zl
  | exact Zr2
  | exact ZmX
  | exact ZGX
  | exact ZF6
  | exact ZHL
  | exact xI
  | exact ZxA
  | exact Zks
  | exact Zr6
  | exact Zud
  | exact ZF7
  | exact Zr7
section
variable {w w':World} {S:Nat->Prop}
theorem Zpk {c:Array Value} {g i:Nat} {v:Value} (hg:g=w.heap.size) (h:c[i]?=some v):(w.alloc (.cells c t)).cell? ⟨g,i,none⟩=some v:=by
 subst hg;simp [h]
theorem wF (w:World) (o:Obj):Below w.heap.size w (w.alloc o):=(Below.refl _ _).alloc (Tai _) _
theorem ZyZ (w:World):Below w.heap.size w w.drew:=Zmm (Below.refl _ _) 1
theorem Zy0 (w:World) (n:Nat):Below w.heap.size w (w.drewN n):=Zmm (Below.refl _ _) n
theorem aC.alloc {cs:List C} {us:List Value} (o:Obj) (h:aC w S cs us):aC (w.alloc o) S cs us:=h.below (wF w o)
theorem aC.drew {cs:List C} {us:List Value} (h:aC w S cs us):aC w.drew S cs us:=h.below (ZyZ w)
theorem aC.drewN {cs:List C} {us:List Value} {n:Nat} (h:aC w S cs us):aC (w.drewN n) S cs us:=h.below (Zy0 w n)
theorem aC.later {cs:List C} {us:List Value} (hb:Below w.heap.size w w') (h:aC w S cs us):aC w' S cs us:=h.below hb
theorem aQ.alloc {c:C} {v:Value} (o:Obj) (h:aQ w S c v):aQ (w.alloc o) S c v:=h.below (wF w o)
theorem aQ.drew {c:C} {v:Value} (h:aQ w S c v):aQ w.drew S c v:=h.below (ZyZ w)
theorem aQ.drewN {c:C} {v:Value} {n:Nat} (h:aQ w S c v):aQ (w.drewN n) S c v:=h.below (Zy0 w n)
theorem aQ.later {c:C} {v:Value} (hb:Below w.heap.size w w') (h:aQ w S c v):aQ w' S c v:=h.below hb
theorem Below.later {B:Nat} {a:World} (hb:Below w.heap.size w w') (h:Below B a w) (hB:B<=a.heap.size):Below B a w':=h.trans (hb.mono (Tbe hB h.size))
end
theorem Put.below {w:World} {g B:Nat} {us:List Value} (h:Put w w' g off us) (hB:B<=g):Below B w w':=⟨h.os,h.tape,h.output,by have:=h.size;omega,fun x hx=>h.other x om⟩
def gives (P:Program) (o:Oper) (ρ:Operand->Value) (w:World) (R:Value->World->Prop):Prop :=
 match (execOp ρ o).run P w with
 | .ok (.value v) w'=>R v w'
 | .ok .skip w'=>R undef w'
 | .ok (.enter f args) w'=>Calls P f args w' (fun e w''=>∃ v,e=.returned v∧R v w'')
 | _=>False
theorem xE {P:Program} {o:Oper} {a:Act} {w:World} {R:Value->World->Prop} {K:Act->World->Prop} {Q:Exit->Act->World->Prop} (h:gives P o a.eval w R) (hK:∀ v w',R v w'->K (a.put o.dst v) w'):o.wp P a w K Q:=by
 unfold gives at h;unfold Oper.wp;generalize (execOp a.eval o).run P w=r at *
 cases r with
 | ok n w' =>
  cases n <;> simp only at h <;> simp only [Oper.upon]
  case value u=>exact hK _ _ h
  case skip=>exact hK _ _ h
  case enter f args=>exact h.mono fun e w'' ⟨v,he,hr⟩=>by subst he;exact hK _ _ hr
 | halt x w'=>simp only at h
def rN (o:Oper):List Nat:=o.op.operands.toList.filterMap fun | .tmp t=>some t | _=>none
abbrev Says:=Value->List Value->Nat->Nat->World->Prop
def qS (ops:Array Oper) (n:Nat):Bool :=
 (List.range n).all fun i=>match ops[i]? with
  | none=>false
  | some o=>o.guard.isNone && o.dst.isSome && o.after.all (fun e=>!Region.binds .any e || decide (e.on < i)) &&
   (List.range n).all fun j=>match ops[j]? with
    | none=>false
    | some p=>(j==i || p.dst != o.dst) && (!(rN o).any (fun t=>p.dst==some t) || Region.waitsFor .any ops i j)
structure Inv (P:Program) (ops:Array Oper) (n:Nat) (Gs:List Says) (C:World->Prop) (a0:Act) (w0:World) (ag:Array Bool) (a:Act) (w:World) (lo hi:Nat->Nat):Prop where
 head:HeadInv .any ops n ag
 size:a.tmps.size=a0.tmps.size
 defers:a.defers=a0.defers
 out:∀ t,(∀ (i:Nat) (o:Oper),i < n->ops[i]?=some o->o.dst≠some t)->a.tmps.getD t undef=a0.tmps.getD t undef
 cls:C w
 below:Below w0.heap.size w0 w
 done:∀ (i:Nat) (o:Oper) (d:Nat) (g:Says),i < n->ag.getD i false=true->ops[i]?=some o->o.dst=some d->Gs[i]?=some g ->
  g (a.tmps.getD d undef) ((rN o).map (fun t=>a.tmps.getD t undef)) (lo i) (hi i) w∧w0.heap.size<=lo i∧lo i<=hi i∧hi i<=w.heap.size
 apart:∀ i j,i < n->j < n->i≠j->ag.getD i false=true->ag.getD j false=true->hi i<=lo j∨hi j<=lo i
def ZEp (P:Program) (ops:Array Oper) (n:Nat) (Gs:List Says) (C:World->Prop) (a0:Act) (o:Oper) (g:Says):Prop :=
 ∀ (a:Act) (w:World),C w ->
  (∀ t,(∀ (i:Nat) (o':Oper),i < n->ops[i]?=some o'->o'.dst≠some t)->a.tmps.getD t undef=a0.tmps.getD t undef) ->
  (∀ (i:Nat) (o':Oper) (d:Nat) (g':Says),i < n->ops[i]?=some o'->o'.dst=some d->d∈rN o->Gs[i]?=some g'->∃ lo hi,g' (a.tmps.getD d undef) ((rN o').map (fun t=>a.tmps.getD t undef)) lo hi w) ->
  gives P o a.eval w (fun v w'=>C w'∧Below w.heap.size w w'∧g v ((rN o).map (fun t=>a.tmps.getD t undef)) w.heap.size w'.heap.size w')
theorem Zkt {a:Act} {d:Nat} {v:Value} (h:d < a.tmps.size):(a.put (some d) v).tmps.getD d undef=v:=by simp [Act.put,h]
theorem ZgQ {a:Act} {d t:Nat} {v:Value} (h:d≠t):(a.put (some d) v).tmps.getD t undef=a.tmps.getD t undef:=by simp [Act.put,Array.getElem?_setIfInBounds_ne h]
theorem np {ag:Array Bool} {i:Nat} (h:i < ag.size):ag.getD i true=ag.getD i false:=by simp [h]
section
variable {P:Program} {ops:Array Oper} {n:Nat} {Gs:List Says} {C:World->Prop} {a0:Act} {w0:World}
theorem qS.get (h:qS ops n=true) {i:Nat} (hi:i < n):∃ o d,ops[i]?=some o∧o.guard=none∧o.dst=some d∧(∀ e∈o.after,Region.binds .any e=true->e.on < i) ∧
  ∀ (j:Nat) (p:Oper),j < n->ops[j]?=some p->(j≠i->p.dst≠some d)∧(∀ t∈rN o,p.dst=some t->Region.waitsFor .any ops i j=true):=by
 have h1:=List.all_eq_true.1 h i (List.mem_range.2 hi)
 cases ho:ops[i]? with
 | none=>rw [ho] at h1;simp at h1
 | some o =>
  rw [ho] at h1;simp only [Tar] at h1;obtain ⟨⟨⟨h1,h2⟩,h3⟩,h4⟩:=h1;obtain ⟨d,hd⟩:=Option.isSome_iff_exists.1 h2;refine ⟨o,d,rfl,by simpa using h1,hd,fun e he hb=>?_,fun j p hj hp=>?_⟩
  ·have:=Array.all_eq_true'.1 h3 e he;simpa [hb] using this
  ·have h5:=List.all_eq_true.1 h4 j (List.mem_range.2 hj);rw [hp] at h5;simp only [Tar,Bool.or_eq_true,beq_iff_eq,bne_iff_ne,ne_eq,Bool.not_eq_true'] at h5;refine ⟨fun bq hpd=>?_,fun t ht lW=>?_⟩
   ·rcases h5.1 with h | h
    ·exact bq h
    ·exact h (hpd.trans hd.symm)
   ·rcases h5.2 with h | h
    ·have:=List.any_eq_false.1 h t ht;simp [lW] at this
    ·exact h
theorem Inv.step (hD:qS ops n=true) (bu:Gs.length=n) (bO:∀ (i:Nat) (o:Oper) (d:Nat),i < n->ops[i]?=some o->o.dst=some d->d < a0.tmps.size)
  (hG:∀ (i:Nat) (g:Says),Gs[i]?=some g->∀ v ds lo hi w w',Below w.heap.size w w'->g v ds lo hi w->g v ds lo hi w')
  {ag:Array Bool} {a:Act} {w w':World} {lo hi:Nat->Nat} {i:Nat} {o:Oper} {d:Nat} {g:Says} {v:Value} (hI:Inv P ops n Gs C a0 w0 ag a w lo hi) (eG:i < n) (ho:ops[i]?=some o) (hd:o.dst=some d) (hg:Gs[i]?=some g)
  (hr:i∈Region.ready .any ops ag) (hC:C w') (hb:Below w.heap.size w w') (hv:g v ((rN o).map (fun t=>a.tmps.getD t undef)) w.heap.size w'.heap.size w') :
  Inv P ops n Gs C a0 w0 (ag.setIfInBounds i true) (a.put o.dst v) w' (fun j=>if j=i then w.heap.size else lo j) (fun j=>if j=i then w'.heap.size else hi j):=by
 obtain ⟨kG,_,_,aD⟩:=mem_ready.1 hr;obtain ⟨o2,d2,rg,_,qX,_,qY⟩:=qS.get hD eG;rw [ho] at rg;injection rg with rg
 subst rg;rw [hd] at qX;injection qX with qX
 subst qX;have sO:d < a.tmps.size:=by rw [hI.size];exact bO i o d eG ho hd
 have cb:i < ag.size:=by
  rw [hI.head.size];exact (Tbl.1 ho).1
 rw [hd];have old:∀ j,j≠i->(ag.setIfInBounds i true).getD j false=ag.getD j false:=fun j hj=>getD_set_ne false (Ne.symm hj)
 -- the operands of what is ag do not lie in the new place
 have safe:∀ (j:Nat) (p:Oper),j < n->ops[j]?=some p->(ag.getD j false=true∨j=i)->∀ t∈rN p,d≠t:=by
  intro j p hj hp hl t ht e;subst e;obtain ⟨p2,_,oB,_,_,im,hdep2⟩:=qS.get hD hj;rw [hp] at oB;injection oB with oB
  subst oB;have hw:=(hdep2 i o eG ho).2 d ht hd;obtain ⟨p3,qu,e,he,ly,D0⟩:=Region.waitsFor_spec hw;rw [hp] at qu;injection qu with qu
  subst qu;rcases hl with hl | rfl
  ·have:=hI.head.closed j p hp hl e he ly;rw [D0,<- np cb,kG] at this
   cases this
  ·have:=im e he ly;omega
 have same:∀ (j:Nat) (p:Oper),j < n->ops[j]?=some p->(ag.getD j false=true∨j=i)->(rN p).map (fun t=>(a.put (some d) v).tmps.getD t undef)=(rN p).map (fun t=>a.tmps.getD t undef):=fun j p hj hp hl =>
  List.map_congr_left fun t ht=>ZgQ (safe j p hj hp hl t ht)
 have hwz:=hb.size;refine ⟨hI.head.set hr eG,by simp [Act.put,hI.size],by simp [Act.put,hI.defers],fun t ht=>?_,hC,hI.below.trans (hb.mono hI.below.size),fun j p dj gj hj hl hp jg DV=>?_,fun j k hj hk bq pJ lA=>?_⟩
 ·rw [ZgQ (fun e=>ht i o eG ho (by rw [hd,e]))];exact hI.out t ht
 ·by_cases i9:j=i
  ·subst i9;rw [ho] at hp;injection hp with hp
   subst hp;rw [hd] at jg;injection jg with jg
   subst jg;rw [hg] at DV;injection DV with DV
   subst DV;rw [same j o hj ho (.inr rfl),Zkt sO];simp only [if_true];exact ⟨hv,hI.below.size,hwz,Tai _⟩
  ·rw [old j i9] at hl;simp only [i9,if_false];obtain ⟨h1,h2,h3,h4⟩:=hI.done j p dj gj hj hl hp jg DV;have bq:d≠dj:=fun e=>(qY j p hj hp).1 i9 (by rw [jg,e]);rw [same j p hj hp (.inl hl),ZgQ bq];exact ⟨hG j gj DV _ _ _ _ w w' hb h1,h2,h3,om⟩
 ·by_cases i9:j=i
  ·by_cases qt:k=i
   ·omega
   ·rw [old k qt] at lA;simp only [i9,qt,if_true,if_false];obtain ⟨p,dk,hp,_,hdk,_,_⟩:=qS.get hD hk;have tZ:Gs[k]?=some Gs[k]:=Taa om;have:=hI.done k p dk _ hk lA hp hdk tZ;omega
  ·rw [old j i9] at pJ;by_cases qt:k=i
   ·simp only [i9,qt,if_true,if_false];obtain ⟨p,dk,hp,_,hdk,_,_⟩:=qS.get hD hj;have tZ:Gs[j]?=some Gs[j]:=Taa om;have:=hI.done j p dk _ hj pJ hp hdk tZ;omega
   ·rw [old k qt] at lA;simp only [i9,qt,if_false];exact hI.apart j k hj hk bq pJ lA
def mj (m n:Nat):Array Bool:=(Array.range m).map fun i=>decide (i < n)
theorem Zp4 {ag:Array Bool} (hh:HeadInv .any ops n ag) (hn:n<=ops.size) (h:∀ i,i < n->ag.getD i true=true):ag=mj ops.size n:=by
 apply Array.ext
 ·simp [mj,hh.size]
 ·intro i h1 h2;rw [(by simp [h1]:ag[i]=ag.getD i true)];by_cases hi:i < n
  ·rw [h i hi];simp [mj,hi]
  ·rw [hh.tail i om (by rw [<- hh.size];exact h1)];simp [mj,hi]
structure DoneD (ops:Array Oper) (n:Nat) (Gs:List Says) (w0:World) (f:Nat->Value) (w:World) (lo hi:Nat->Nat):Prop where
 done:∀ (i:Nat) (o:Oper) (d:Nat) (g:Says),i < n->ops[i]?=some o->o.dst=some d->Gs[i]?=some g ->
  g (f d) ((rN o).map f) (lo i) (hi i) w∧w0.heap.size<=lo i∧lo i<=hi i∧hi i<=w.heap.size
 apart:∀ i j,i < n->j < n->i≠j->hi i<=lo j∨hi j<=lo i
def ZnI (P:Program) (ops:Array Oper) (n:Nat) (Gs:List Says) (C:World->Prop) (a0:Act):List Oper->List Says->Prop
 | o::os,g::gs=>ZEp P ops n Gs C a0 o g∧ZnI P ops n Gs C a0 os gs
 | _,_=>True
theorem ZnI.get:∀ {os:List Oper} {gs:List Says},ZnI P ops n Gs C a0 os gs->∀ (i:Nat) (o:Oper) (g:Says),os[i]?=some o->gs[i]?=some g->ZEp P ops n Gs C a0 o g
 | [],_,_,_,_,_,h,_=>by simp at h
 | _::_,[],_,_,_,_,_,h=>by simp at h
 | o::os,g::gs,h,0,o',g',h1,h2=>by
  simp at h1 h2;subst h1 h2;exact h.1
 | o::os,g::gs,h,i+1,o',g',h1,h2=>ZnI.get h.2 i o' g' (by simpa using h1) (by simpa using h2)
def Dk (n:Nat) (w0:World) (f:Nat->Value) (w:World) (lo hi:Nat->Nat):Nat->List Oper->List Says->Prop
 | i,o::os,g::gs=>(g (f (o.dst.getD 0)) ((rN o).map f) (lo i) (hi i) w∧w0.heap.size<=lo i∧lo i<=hi i∧hi i<=w.heap.size)∧Dk n w0 f w lo hi (i+1) os gs
 | _,_,_=>True
theorem Dk.of {f:Nat->Value} {w:World} {lo hi:Nat->Nat} {l:List Oper} (h:DoneD l.toArray n Gs w0 f w lo hi) (bG:(l.take n).all (fun o=>o.dst.isSome)=true):∀ (os:List Oper) (gs:List Says) (i:Nat),i+os.length<=n->(∀ j,j < os.length->os[j]?=l[i+j]?)->(∀ j,gs[j]?=Gs[i+j]?)->Dk n w0 f w lo hi i os gs
 | [],_,_,_,_,_=>by simp [Dk]
 | _::_,[],_,_,_,_=>by simp [Dk]
 | o::os,g::gs,i,hi,ho,hg=>by
  simp only [Tag] at hi;have h0:l[i]?=some o:=by simpa using (ho 0 (by simp)).symm
  have hd:o.dst.isSome=true:=List.all_eq_true.1 bG o (Tac (i:=i) (by rw [List.getElem?_take];simp [h0];omega));obtain ⟨d,hd⟩:=Option.isSome_iff_exists.1 hd;refine ⟨?_,Dk.of h bG os gs (i+1) om (fun j hj=>by have:=ho (j+1) (by simp;omega);simpa [Tbw,Nat.add_comm 1 j] using this) (fun j=>by have:=hg (j+1);simpa [Tbw,Nat.add_comm 1 j] using this)⟩;have:=h.done i o d g om (by simpa using h0) hd (by simpa using (hg 0).symm)
  rw [hd];exact this
end
structure Kept (D:Prop) (E:Nat->Prop) (B:Nat) (w w':World):Prop where
 os:w'.os=w.os
 tape:w'.tape=w.tape
 output:w'.output=w.output
 drawn:D->w.drawn<=w'.drawn
 size:w.heap.size<=w'.heap.size
 block:∀ k,k < B->¬ E k->w'.heap[k]?=w.heap[k]?
theorem Kept.refl (D:Prop) (E:Nat->Prop) (B:Nat) (w:World):Kept D E B w w:=⟨rfl,rfl,rfl,fun _=>Tai _,Tai _,fun _ _ _=>rfl⟩
theorem Kept.trans {D:Prop} {E:Nat->Prop} {B:Nat} {a b c:World} (h:Kept D E B a b) (k:Kept D E B b c):Kept D E B a c :=
 ⟨k.os.trans h.os,k.tape.trans h.tape,k.output.trans h.output,fun d=>Tbe (h.drawn d) (k.drawn d),Tbe h.size k.size,fun i hi hE=>(k.block i hi hE).trans (h.block i hi hE)⟩
theorem Kept.mono {D:Prop} {E:Nat->Prop} {B B':Nat} {w:World} (h:Kept D E B w w') (hB:B'<=B):Kept D E B' w w' :=
 ⟨h.os,h.tape,h.output,h.drawn,h.size,fun k hk hE=>h.block k (Tbd hk hB) hE⟩
theorem Kept.of_below {D:Prop} {E:Nat->Prop} {B:Nat} {w:World} (h:Below B w w') (hd:D->w.drawn<=w'.drawn):Kept D E B w w':=⟨h.os,h.tape,h.output,hd,h.size,fun k hk _=>h.block k hk⟩
theorem Kept.below {D:Prop} {B:Nat} {w:World} (h:Kept D (fun _=>False) B w w'):Below B w w':=⟨h.os,h.tape,h.output,h.size,fun k hk=>h.block k hk id⟩
structure Env where
 P:Program
 E:Nat->Prop
 G:World->Prop
 D:Prop
structure Env.Ok (e:Env):Prop where
 keep:∀ w w':World,w.heap.size<=w'.heap.size->(∀ b,e.E b->w'.heap[b]?=w.heap[b]?)->e.G w->e.G w'
 mixed:e.P.follows .mixedOrders=true
inductive D where
 | one (c:C)
 | agg (cs:List C)
 | clip (rows:List (List C))
inductive Bk where
 | var (o:Option Nat) (cs:List C)
 | buf (o:Option (Option Addr × Nat)) (e sz:Nat) (rows:List (List C))
 | set (E:Nat->Prop) (G:World->Prop)
def tD (E:Nat->Prop) (G:World->Prop):Prop:=∀ w w':World,w.heap.size<=w'.heap.size->(∀ b,E b->w'.heap[b]?=w.heap[b]?)->G w->G w'
inductive A where
 | undef
 | no
 | d (x:D)
 | tup (xs:List D)
 | ref (k off:Nat)
 | buf (k:Nat)
 | row (k j sz off:Nat)
structure Lay where
 b:Nat->Nat
 v:Nat->Value
def aW (w:World) (S:Nat->Prop):D->Value->Prop
 | .one c,v=>aQ w S c v
 | .agg cs,v=>∃ vs:List Value,v=.agg vs.toArray∧aC w S cs vs
 | .clip rows,v=>aQ w S (.sl rows) v∧∃ a n,v=.slice a n n
def cx (w:World) (S:Nat->Prop):List D->List Value->Prop
 | [],[]=>True
 | x::xs,v::vs=>aW w S x v∧cx w S xs vs
 | _,_=>False
def aP:Value->Option Nat
 | .slice (some a) _ cap=>if cap=0 then none else some a.block
 | _=>none
def ax (w:World) (S:Nat->Prop) (L:Lay):A->Value->Prop
 | .undef,_=>True
 | .no,v=>v=Go.undef
 | .d x,v=>aW w S x v
 | .tup xs,v=>∃ vs:List Value,v=.tuple vs.toArray∧cx w S xs vs
 | .ref k off,v=>v=.pointer (some ⟨L.b k,off,none⟩)
 | .buf k,v=>v=L.v k
 | .row k j sz off,v=>∃ g,aP (L.v k)=some g∧v=.pointer (some ⟨g,j * sz+off,none⟩)
def bh:List D->A
 | [x]=>.d x
 | xs=>.tup xs
def aY:C->Bool
 | .lit v=>v.oneCell'
 | .sl _=>true
 | .ptr _=>true
 | .fn _ _=>true
def rowsLen (n:Nat) (rows:List (List C)):Prop:=∀ r∈rows,r.length=n∧r.all aY=true
def ei (w:World) (S:Nat->Prop) (e sz:Nat) (rows:List (List C)) (v:Value):Prop :=
 0 < sz∧rowsLen sz rows∧((rows=[]∧∃ a,v=.slice a 0 0) ∨
  ∃ g cap bc,v=.slice (some ⟨g,0,none⟩) rows.length cap∧0 < cap∧g < w.heap.size∧¬ S g∧w.heap[g]?=some (.cells bc e (0,0))∧rows.length<=cap∧cap<=maxLen∧bc.size=cap * sz∧b7 w S g 0 rows)
def ny (P:Program) (f:FuncId):Bool :=
 match P.funcs[f]? with
 | some fn=>!(fn.name == "runtime.NumGoroutine") && fn.body.isSome
 | none=>false
def az (e:Env) (f:FuncId) (args r:List D):Prop:=ny e.P f=true ∧
 ∀ (w:World) (S:Nat->Prop) (vs:List Value),(∀ b,S b->b < w.heap.size∧¬ e.E b)->(∀ b,e.E b->b < w.heap.size)->e.G w->cx w S args vs ->
  Calls e.P f vs.toArray w fun en w'=>∃ v,en=.returned v∧Kept e.D e.E w.heap.size w w'∧e.G w'∧ax w' (fun b=>S b∨(w.heap.size<=b∧b < w'.heap.size)) ⟨fun _=>0,fun _=>Go.undef⟩ (bh r) v
def k9 (e:Env) (f:FuncId) (args:List D) (R:List D->Prop):Prop:=ny e.P f=true ∧
 ∀ (w:World) (S:Nat->Prop) (vs:List Value),(∀ b,S b->b < w.heap.size∧¬ e.E b)->(∀ b,e.E b->b < w.heap.size)->e.G w->cx w S args vs ->
  Calls e.P f vs.toArray w fun en w'=>∃ v r,en=.returned v∧R r∧Kept e.D e.E w.heap.size w w'∧e.G w'∧ax w' (fun b=>S b∨(w.heap.size<=b∧b < w'.heap.size)) ⟨fun _=>0,fun _=>Go.undef⟩ (bh r) v
def dU:Bk->Nat->Prop
 | .var (some b) _,g=>b=g
 | .buf (some (a,cap)) _ _ rows,g=>aP (.slice a rows.length cap)=some g
 | .set E _,g=>E g
 | _,_=>False
def mQ (w:World) (S:Nat->Prop):Bk->Prop
 | .var (some b) cs=>b < w.heap.size∧¬ S b∧(∃ oq ty,w.heap[b]?=some (.cells oq ty (0,0))∧oq.size=cs.length)∧bn w S b 0 cs
 | .buf (some (a,cap)) e sz rows=>ei w S e sz rows (.slice a rows.length cap)
 | .set E G=>(∀ b,E b->b < w.heap.size∧¬ S b)∧G w∧tD E G
 | _=>False
def mT:List Bk->Prop
 | []=>True
 | x::r=>(∀ y∈r,∀ g,dU x g->¬ dU y g)∧mT r
def dV (pm:List Bk) (g:Nat):Prop:=∃ x∈pm,dU x g
def aR (e:Env) (f:FuncId) (args:List D) (pm:List Bk) (R:List D->List Bk->Prop):Prop:=ny e.P f=true ∧
 ∀ (w:World) (S:Nat->Prop) (vs:List Value),(∀ b,S b->b < w.heap.size∧¬ e.E b)->(∀ b,e.E b->b < w.heap.size)->e.G w->(∀ x∈pm,mQ w S x∧∀ g,dU x g->¬ e.E g)->mT pm->cx w S args vs ->
  Calls e.P f vs.toArray w fun en w'=>∃ v r bX,en=.returned v∧R r bX∧Kept e.D (fun b=>e.E b∨dV pm b) w.heap.size w w'∧e.G w' ∧
   (∀ x∈bX,mQ w' (fun b=>(S b∨dV pm b∨(w.heap.size<=b∧b < w'.heap.size))∧¬ dV bX b) x∧∀ g,dU x g->dV pm g∨w.heap.size<=g)∧mT bX ∧
   ax w' (fun b=>(S b∨dV pm b∨(w.heap.size<=b∧b < w'.heap.size))∧¬ dV bX b) ⟨fun _=>0,fun _=>Go.undef⟩ (bh r) v
def kh (e:Env) (f:FuncId) (args:List D) (ty sz:Nat) (rows:List (List C)):Prop:=ny e.P f=true ∧
 ∀ (w:World) (S:Nat->Prop) (vs:List Value),(∀ b,S b->b < w.heap.size∧¬ e.E b)->(∀ b,e.E b->b < w.heap.size)->e.G w->cx w S args vs ->
  Calls e.P f vs.toArray w fun en w'=>∃ v,en=.returned v∧Kept e.D e.E w.heap.size w w'∧e.G w'∧(∀ g,aP v=some g->w.heap.size<=g)∧ei w' (fun b=>(S b∨(w.heap.size<=b∧b < w'.heap.size))∧aP v≠some b) ty sz rows v
def jG (e:Env) (f:FuncId) (ty sz:Nat) (rows:List (List C)) (args:List D) (rows':List (List C)) (r:List D):Prop:=ny e.P f=true ∧
 ∀ (w:World) (S:Nat->Prop) (v0:Value) (vs:List Value),(∀ b,S b->b < w.heap.size∧¬ e.E b)->(∀ b,e.E b->b < w.heap.size)->(∀ g,aP v0=some g->¬ e.E g)->e.G w->ei w S ty sz rows v0->cx w S args vs ->
  Calls e.P f (v0::vs).toArray w fun en w'=>∃ v,en=.returned v∧Kept e.D (fun b=>e.E b∨aP v0=some b) w.heap.size w w'∧e.G w'∧ei w' (fun b=>S b∨(w.heap.size<=b∧b < w'.heap.size)) ty sz rows' v0∧ax w' (fun b=>S b∨(w.heap.size<=b∧b < w'.heap.size)) ⟨fun _=>0,fun _=>Go.undef⟩ (bh r) v
def qC (e:Env) (f:FuncId) (ty sz:Nat) (rows:List (List C)) (args:List D) (rows':List (List C)):Prop:=ny e.P f=true ∧
 ∀ (w:World) (S:Nat->Prop) (v0:Value) (vs:List Value),(∀ b,S b->b < w.heap.size∧¬ e.E b)->(∀ b,e.E b->b < w.heap.size)->(∀ g,aP v0=some g->¬ e.E g)->e.G w->ei w S ty sz rows v0->cx w S args vs ->
  Calls e.P f (v0::vs).toArray w fun en w'=>∃ v,en=.returned v∧Kept e.D (fun b=>e.E b∨aP v0=some b) w.heap.size w w'∧e.G w'∧(∀ g,aP v=some g->aP v0=some g∨w.heap.size<=g)∧ei w' (fun b=>(S b∨(w.heap.size<=b∧b < w'.heap.size))∧aP v≠some b) ty sz rows' v
def sj:Value->C
 | .slice none 0 0=>.sl []
 | v=>.lit v
inductive TK where
 | one
 | agg (n:Nat)
def AB:TypeDesc->Bool
 | .struct _=>true
 | .array _ _=>true
 | _=>false
def nZ (P:Program) (t:TypeId):Option TK :=
 match P.underlying t,P.info? t with
 | some d,some i=>if AB d then some (.agg i.size) else if i.size=1 then some .one else none
 | _,_=>none
def iG (P:Program) (t:TypeId) (f:Nat):Option (Nat × TypeId) :=
 match P.underlying t with
 | some (.struct fs)=>match fs[f]? with
  | some g=>match P.info? g.type with
   | some i=>if i.size=0 then none else some (g.offset,g.type)
   | none=>none
  | none=>none
 | _=>none
def jM (P:Program) (t:TypeId):Option Nat :=
 match P.underlying t with
 | some (.slice e)=>(P.info? e).map (·.size)
 | _=>none
def lE (P:Program) (ts:Array TypeId):Option Bool :=
 match ts[0]? with
 | some t=>match P.underlying t with
  | some (.slice _)=>some true
  | some .string=>some false
  | _=>none
 | none=>none
def jc (P:Program) (t:TypeId):Option (TypeId × Nat × Nat) :=
 match P.underlying t with
 | some (.slice e)=>match P.info? e with
  | some i=>match i.zero with
   | some z=>if z.cells.size=i.size∧0 < i.size∧i.bytes<=4096 then some (e,i.size,i.bytes) else none
   | none=>none
  | none=>none
 | _=>none
def pd (P:Program) (t:TypeId):Option Nat:=(P.info? t).map (·.size)
def iJ (P:Program) (t:TypeId):Option (List C):=((P.info? t).bind (·.zero)).map fun v=>v.cells.toList.map sj
def fQ:TK->List C->Option A
 | .one,c::_=>some (.d (.one c))
 | .agg n,cs=>if n<=cs.length then some (.d (.agg (cs.take n))) else none
 | _,_=>none
def gs:List (Nat × A)->Nat->A
 | [],_=>.undef
 | (k,a)::r,t=>if t=k then a else gs r t
def gm:List (Nat × Bk)->Nat->Option Bk
 | [],_=>none
 | (k,a)::r,t=>if t=k then some a else gm r t
def aA (k:Nat):List (Nat × Bk)->List (Nat × Bk)
 | []=>[]
 | (t,a)::r=>if t=k then aA k r else (t,a)::aA k r
structure St where
 s:List (Nat × A)
 m:List (Nat × Bk)
def uF:Value->A
 | .slice none 0 0=>.d (.clip [])
 | .agg vs=>.d (.agg (vs.toList.map sj))
 | v=>.d (.one (.lit v))
def aL (s:List (Nat × A)):Operand->A
 | .tmp t=>gs s t
 | .const v=>uF v
 | .func f=>.d (.one (.fn f []))
 | .global _=>.undef
def tt:Option Bk->Option (List C)
 | some (.var _ cs)=>some cs
 | _=>none
def yS (j sz:Nat):Option Bk->Option (List C)
 | some (.buf _ _ gU rows)=>if gU=sz then rows[j]? else none
 | _=>none
def iI (m:List (Nat × Bk)):A->Option (List C)
 | .d (.one (.ptr cs))=>some cs
 | .ref k off=>(tt (gm m k)).map (·.drop off)
 | .row k j sz off=>(yS j sz (gm m k)).map (·.drop off)
 | _=>none
def pq:Option Bk->Option (List (List C))
 | some (.buf _ _ _ rows)=>some rows
 | _=>none
def oJ (m:List (Nat × Bk)):A->Option (List (List C))
 | .d (.one (.sl rows))=>some rows
 | .d (.clip rows)=>some rows
 | .buf k=>pq (gm m k)
 | _=>none
def kV:List A->Option (List D)
 | []=>some []
 | .d x::r=>(kV r).map (x::·)
 | _::_=>none
def ov:List A->Option (List C)
 | []=>some []
 | .d (.one c)::r=>(ov r).map (c::·)
 | _::_=>none
def nF:A->Option (List C)
 | .d (.one c)=>if aY c then some [c] else none
 | .d (.agg cs)=>if cs.all aY then some cs else none
 | .d (.clip rows)=>some [.sl rows]
 | _=>none
def AR:BinOp->Value->Value->Option Value
 | .add,.int .i64 a,.int .i64 b=>some (.int .i64 (IntKind.i64.wrap (a+b)))
 | .sub,.int .i64 a,.int .i64 b=>some (.int .i64 (IntKind.i64.wrap (a - b)))
 | .mul,.int .i64 a,.int .i64 b=>some (.int .i64 (IntKind.i64.wrap (a * b)))
 | .lss,.int .i64 a,.int .i64 b=>some (.bool (decide (a < b)))
 | .leq,.int .i64 a,.int .i64 b=>some (.bool (decide (a<=b)))
 | .gtr,.int .i64 a,.int .i64 b=>some (.bool (decide (b < a)))
 | .geq,.int .i64 a,.int .i64 b=>some (.bool (decide (b<=a)))
 | .eql,.int .i64 a,.int .i64 b=>some (.bool (decide (a=b)))
 | .neq,.int .i64 a,.int .i64 b=>some (.bool (!decide (a=b)))
 | .lss,.int .u8 a,.int .u8 b=>some (.bool (decide (a < b)))
 | .leq,.int .u8 a,.int .u8 b=>some (.bool (decide (a<=b)))
 | .gtr,.int .u8 a,.int .u8 b=>some (.bool (decide (b < a)))
 | .geq,.int .u8 a,.int .u8 b=>some (.bool (decide (b<=a)))
 | .eql,.int .u8 a,.int .u8 b=>some (.bool (decide (a=b)))
 | .neq,.int .u8 a,.int .u8 b=>some (.bool (!decide (a=b)))
 | .and,.int .i64 a,.int .i64 b=>some (.int .i64 (bits .and .i64 a b))
 | .or,.int .i64 a,.int .i64 b=>some (.int .i64 (bits .or .i64 a b))
 | .xor,.int .i64 a,.int .i64 b=>some (.int .i64 (bits .xor .i64 a b))
 | .andNot,.int .i64 a,.int .i64 b=>some (.int .i64 (bits .andNot .i64 a b))
 | .shl,.int .i64 a,.int _ b=>if 0<=b then some (.int .i64 (IntKind.i64.wrap (a * 2 ^ (min b.toNat 64)))) else none
 | .shr,.int .i64 a,.int _ b=>if 0<=b then some (.int .i64 (a.fdiv (2 ^ (min b.toNat 64)))) else none
 | .shr,.int .u64 a,.int _ b=>if 0<=b then some (.int .u64 (a.fdiv (2 ^ (min b.toNat 64)))) else none
 | .mul,.int .u64 a,.int .u64 b=>some (.int .u64 (IntKind.u64.wrap (a * b)))
 | .and,.int .u64 a,.int .u64 b=>some (.int .u64 (bits .and .u64 a b))
 | .eql,.int .u64 a,.int .u64 b=>some (.bool (decide (a=b)))
 | .lss,.int .u64 a,.int .u64 b=>some (.bool (decide (a < b)))
 | .quo,.int .i64 a,.int .i64 b=>if b=0 then none else some (.int .i64 (IntKind.i64.wrap (a.tdiv b)))
 | .rem,.int .i64 a,.int .i64 b=>if b=0 then none else some (.int .i64 (a.tmod b))
 | .add,.string a,.string b=>if a.size+b.size<=9223372036854775807 then some (.string (a++b)) else none
 | .eql,.string a,.string b=>some (.bool (a.toList==b.toList))
 | .neq,.string a,.string b=>some (.bool (!(a.toList==b.toList)))
 | .lss,.string a,.string b=>some (.bool (Go.Op.bytesLess a.toList b.toList))
 | _,_,_=>none
def Dr (t:Option TypeDesc) (v:Bool):Option Value :=
 match t with
 | some .bool=>some (.bool v)
 | _=>none
def cv (P:Program) (op:BinOp) (t:TypeId) (a b:Value):Option Value :=
 match op,a,b with
 | .eql,.bool a,.bool b=>Dr (P.underlying t) (a==b)
 | .neq,.bool a,.bool b=>Dr (P.underlying t) (!(a==b))
 | op,a,b=>AR op a b
def Aa:UnOp->Value->Option Value
 | .not,.bool b=>some (.bool (!b))
 | .neg,.int .i64 a=>some (.int .i64 (IntKind.i64.wrap (0 - a)))
 | .neg,.int .u64 a=>some (.int .u64 (IntKind.u64.wrap (0 - a)))
 | _,_=>none
def uG (sz:Nat):Nat->List (Nat × A)->Option (List (List C))
 | _,[]=>some []
 | i,(j,x)::r=>if i=j then match nF x with
   | some cs=>if cs.length=sz then (uG sz (i+1) r).map (cs::·) else none
   | none=>none
  else none
def qN (P:Program) (t:TypeId):List C->List (Nat × A)->Option (List C)
 | cs,[]=>some cs
 | cs,(f,x)::r=>match iG P t f,nF x with
  | some (off,ft),some us=>if pd P ft=some us.length∧off+us.length<=cs.length then qN P t (cs.take off++us++cs.drop (off+us.length)) r else none
  | _,_=>none
def iD:A->Option Int
 | .d (.one (.lit (.int .i64 j)))=>some j
 | _=>none
def qz:Option A->Option Int
 | none=>some 0
 | some x=>iD x
def qr (n:Nat):Option A->Option Int
 | none=>some n
 | some x=>iD x
def AM (rows:List (List C)) (lo hi:Option Int) (mx:Option (Option Int)):Option D :=
 match lo,hi,mx with
 | some l,some h,none=>if 0<=l∧l<=h∧h<=rows.length then some (.one (.sl ((rows.take h.toNat).drop l.toNat))) else none
 | some l,some h,some (some m)=>if 0<=l∧l<=h∧h<=rows.length∧m=h then some (.clip ((rows.take h.toNat).drop l.toNat)) else none
 | _,_,_=>none
def zj:A->Option (List (List C))
 | .d (.one (.sl rows))=>some rows
 | .d (.clip rows)=>some rows
 | _=>none
def Zr8:Option TypeDesc->Bool
 | some .string=>true
 | _=>false
def CQ:A->Option ByteArray
 | .d (.one (.lit (.string s)))=>some s
 | _=>none
def Zpl (s:ByteArray) (lo hi:Option Int):Option D :=
 match lo,hi with
 | some l,some h=>if 0<=l∧l<=h∧h<=s.size then some (.one (.lit (.string (s.extract l.toNat h.toNat)))) else none
 | _,_=>none
def qK:A->Option (FuncId × List C)
 | .d (.one (.fn f caps))=>some (f,caps)
 | _=>none
def wx (t:Option TypeDesc):Option IntKind :=
 match t with
 | some (.int k)=>some k
 | _=>none
def DA (P:Program) (src dst:TypeId):A->Option A
 | .d (.one (.lit (.int _ n)))=>match P.underlying src,wx (P.underlying dst) with
  | some _,some k=>some (.d (.one (.lit (.int k (k.wrap n)))))
  | _,_=>none
 | _=>none
def ti:List A->Option A
 | [.d (.one (.lit (.int .i64 x))),.d (.one (.lit (.int .i64 y)))]=>some (.d (.one (.lit (.int .i64 (if y > x then y else x)))))
 | _=>none
def tj:List A->Option A
 | [.d (.one (.lit (.int .i64 x))),.d (.one (.lit (.int .i64 y)))]=>some (.d (.one (.lit (.int .i64 (if y < x then y else x)))))
 | _=>none
def bM (k:Nat):List (Nat × A)->List (Nat × A)
 | []=>[]
 | (t,.ref k' off)::r=>(t,if k'=k then .undef else .ref k' off)::bM k r
 | (t,.buf k')::r=>(t,if k'=k then .undef else .buf k')::bM k r
 | (t,.row k' j sz off)::r=>(t,if k'=k then .undef else .row k' j sz off)::bM k r
 | (t,a)::r=>(t,a)::bM k r
def aI (s:List (Nat × A)):Option Nat->A->List (Nat × A)
 | some d,a=>(d,a)::s
 | none,_=>s
def fk (k:Nat) (bk:Bk):A->A
 | .ref k' off=>if k'=k then match bk with
   | .var _ cs=>.d (.one (.ptr (cs.drop off)))
   | _=>.undef
  else .ref k' off
 | .buf k'=>if k'=k then match bk with
   | .buf _ _ _ rows=>.d (.one (.sl rows))
   | _=>.undef
  else .buf k'
 | .row k' j sz off=>if k'=k then .undef else .row k' j sz off
 | a=>a
def eF (k:Nat) (bk:Bk):List (Nat × A)->List (Nat × A)
 | []=>[]
 | (t,a)::r=>(t,fk k bk a)::eF k bk r
def sK (k:Nat) (σ:St):Option Bk->St
 | some bk=>⟨eF k bk σ.s,aA k σ.m⟩
 | none=>σ
def frz (k:Nat) (σ:St):St:=sK k σ (gm σ.m k)
def frzs:List Nat->St->St
 | [],σ=>σ
 | k::ks,σ=>frzs ks (frz k σ)
def mB:A->List Nat
 | .ref k _=>[k]
 | .buf k=>[k]
 | _=>[]
def qP:List A->List Nat
 | []=>[]
 | a::r=>mB a++qP r
def ZrC (a b:A):A->Option A
 | .d (.one (.lit (.bool t)))=>some (if t then a else b)
 | _=>none
def tM (k:Option TK) (p:Option (List C)):Option A :=
 match k,p with
 | some k,some cs=>fQ k cs
 | _,_=>none
def tK (x:A):Option (Nat × TypeId)->Option A
 | some (n,_)=>match x with
  | .d (.one (.ptr cs))=>some (.d (.one (.ptr (cs.drop n))))
  | .ref k off=>some (.ref k (off+n))
  | .row k j sz off=>some (.row k j sz (off+n))
  | .d (.one (.lit (.pointer (some ⟨b,off,none⟩))))=>some (.d (.one (.lit (.pointer (some ⟨b,off+n,none⟩)))))
  | _=>none
 | none=>none
def Dy (P:Program) (x:A):Option (Nat × TypeId)->Option A
 | some (n,ft)=>match x with
  | .d (.agg cs)=>tM (nZ P ft) (some (cs.drop n))
  | _=>none
 | none=>none
def ZaB (n:Nat) (rows:List (List C)):Bool:=rows.all (fun r=>r.length==n && r.all aY)
def sI:Option (List C)->Option A
 | some r=>some (.d (.one (.ptr r)))
 | none=>none
def ZnJ (k n:Nat) (j:Int):Option Bk->Option A
 | some (.buf _ _ sz rows)=>if sz=n then if 0<=j then if j.toNat < rows.length then some (.row k j.toNat sz 0) else none else none else none
 | _=>none
def wy (m:List (Nat × Bk)) (n:Option Nat) (x i:A):Option A :=
 match n,x,i with
 | some n,.buf k,.d (.one (.lit (.int _ j)))=>ZnJ k n j (gm m k)
 | some n,.d (.one (.sl rows)),.d (.one (.lit (.int _ j)))=>if 0<=j then if ZaB n rows=true then sI rows[j.toNat]? else none else none
 | some n,.d (.clip rows),.d (.one (.lit (.int _ j)))=>if 0<=j then if ZaB n rows=true then sI rows[j.toNat]? else none else none
 | _,_,_=>none
def ZrD:Option UInt8->Option A
 | some b=>some (.d (.one (.lit (.int .u8 b.toNat))))
 | none=>none
def Dz (t:Option TypeDesc) (x i:A):Option A :=
 match t,x,i with
 | some .string,.d (.one (.lit (.string s))),.d (.one (.lit (.int _ j)))=>if 0<=j then ZrD s[j.toNat]? else none
 | _,_,_=>none
def s7:Option Value->Option A
 | some v=>some (.d (.one (.lit v)))
 | none=>none
def sG (P:Program) (t:TypeId) (op:BinOp) (x y:A):Option A :=
 match x,y with
 | .d (.one (.lit a)),.d (.one (.lit b))=>s7 (cv P op t a b)
 | _,_=>none
def D8 (op:UnOp) (x:A):Option A :=
 match x with
 | .d (.one (.lit a))=>s7 (Aa op a)
 | _=>none
def dA:Option D->Option A
 | some x=>some (.d x)
 | none=>none
def Dp (i:Nat):A->Option A
 | .tup xs=>dA xs[i]?
 | _=>none
def lH:A->Option A
 | .d (.one (.ptr cs))=>some (.d (.one (.ptr cs)))
 | .d (.one (.fn f cs))=>some (.d (.one (.fn f cs)))
 | .ref k off=>some (.ref k off)
 | .d (.one (.lit (.pointer (some p))))=>some (.d (.one (.lit (.pointer (some p)))))
 | _=>none
def s5:Option (List (List C))->Option A
 | some rows=>some (.d (.one (.lit (.int .i64 rows.length))))
 | none=>none
def jz (m:List (Nat × Bk)) (t:Option Bool) (xs:List A):Option A :=
 match t,xs with
 | some true,[.d (.one (.lit (.slice _ n _)))]=>some (.d (.one (.lit (.int .i64 n))))
 | some true,[x]=>s5 (oJ m x)
 | some false,[.d (.one (.lit (.string s)))]=>some (.d (.one (.lit (.int .i64 s.size))))
 | _,_=>none
def ZrE:Option (List (List C))->Option A
 | some rows=>some (.d (.clip rows))
 | none=>none
def C5 (sz:Option (TypeId × Nat × Nat)) (n:Nat) (parts:List (Nat × A)):Option A :=
 match sz with
 | some (_,s,_)=>if parts.length=n∧n * s<=16777216 then ZrE (uG s 0 parts) else none
 | none=>none
def uM:Option (List C)->Option A
 | some cs=>some (.d (.agg cs))
 | none=>none
def uo (P:Program) (t:TypeId):Bool :=
 match P.underlying t with
 | some (.struct fs)=>fs.toList.all fun f=>(P.info? f.type).isSome
 | _=>false
def Dt (P:Program) (t:TypeId) (parts:List (Nat × A)):Option A :=
 match uo P t,iJ P t with
 | true,some cs=>if cs.all aY=true then uM (qN P t cs parts) else none
 | _,_=>none
def Db (P:Program) (t:TypeId) (x:A) (lo hi mx:Option A):Option A :=
 match jM P t with
 | some n=>match zj x with
  | some rows=>if ZaB n rows=true∧(mx.isNone || hi.isSome)=true then dA (AM rows (qz lo) (qr rows.length hi) (mx.map iD)) else none
  | none=>none
 | none=>if Zr8 (P.underlying t)∧mx=none then match CQ x with
   | some s=>dA (Zpl s (qz lo) (qr s.size hi))
   | none=>none
  else none
def DK (f:FuncId):Option (List C)->Option A
 | some cs=>some (.d (.one (.fn f cs)))
 | none=>none
def kN (b:Nat):List (Nat × Bk)->Option Nat
 | []=>none
 | (k,.var (some b') _)::r=>if b=b' then some k else kN b r
 | _::r=>kN b r
def jn (a:Option Addr) (n cap:Nat):List (Nat × Bk)->Option Nat
 | []=>none
 | (k,.buf (some (a',dz)) _ _ rows)::r=>if a=a'∧n=rows.length∧cap=dz then some k else jn a n cap r
 | _::r=>jn a n cap r
def yR (b off:Nat) (k:Nat):Option Bk->A
 | some (.var (some b') _)=>if b=b' then .ref k off else .d (.one (.lit (.pointer (some ⟨b,off,none⟩))))
 | _=>.d (.one (.lit (.pointer (some ⟨b,off,none⟩))))
def DH (m:List (Nat × Bk)) (b off:Nat):Option Nat->A
 | some k=>yR b off k (gm m k)
 | none=>.d (.one (.lit (.pointer (some ⟨b,off,none⟩))))
def tm (a:Option Addr) (n cap k:Nat):Option Bk->A
 | some (.buf (some (a',dz)) _ _ rows)=>if a=a'∧n=rows.length∧cap=dz then .buf k else .d (.one (.lit (.slice a n cap)))
 | _=>.d (.one (.lit (.slice a n cap)))
def AP (m:List (Nat × Bk)) (a:Option Addr) (n cap:Nat):Option Nat->A
 | some k=>tm a n cap k (gm m k)
 | none=>.d (.one (.lit (.slice a n cap)))
def fu (m:List (Nat × Bk)):A->A
 | .d (.one (.lit (.pointer (some ⟨b,off,none⟩))))=>DH m b off (kN b m)
 | .d (.one (.lit (.slice a n cap)))=>AP m a n cap (jn a n cap m)
 | x=>x
def zr (P:Program) (m:List (Nat × Bk)) (ρ:Operand->A):Op->Option A
 | .move x=>some (ρ x)
 | .pick c a b=>ZrC (ρ a) (ρ b) (ρ c)
 | .load t x=>tM (nZ P t) (iI m (fu m (ρ x)))
 | .fieldAddr t x f=>tK (ρ x) (iG P t f)
 | .field t x f=>Dy P (ρ x) (iG P t f)
 | .indexAddr t x i=>wy m (jM P t) (fu m (ρ x)) (ρ i)
 | .index t x i=>Dz (P.underlying t) (ρ x) (ρ i)
 | .binOp op t x y _=>sG P t op (ρ x) (ρ y)
 | .unOp op _ x=>D8 op (ρ x)
 | .extract x i=>Dp i (ρ x)
 | .nilCheck x=>lH (ρ x)
 | .convert s d x=>DA P s d (ρ x)
 | .slice t x lo hi mx=>Db P t (ρ x) (lo.map ρ) (hi.map ρ) (mx.map ρ)
 | .build t parts=>Dt P t (parts.toList.map fun p=>(p.1,ρ p.2))
 | .buildSlice t n parts=>C5 (jc P t) n (parts.toList.map fun p=>(p.1,ρ p.2))
 | .makeFunc (.func f) ⟨[]⟩ caps=>DK f (ov (caps.toList.map ρ))
 | .call ⟨.builtin .len,args,ts⟩=>jz m (lE P ts) (args.toList.map fun x=>fu m (ρ x))
 | .call ⟨.builtin .max,args,_⟩=>ti (args.toList.map ρ)
 | .call ⟨.builtin .min,args,_⟩=>tj (args.toList.map ρ)
 | _=>none
def mC (σ:St) (d:Option Nat) (cs:Option (List C)):Option St :=
 match d,cs with
 | some d,some cs=>some ⟨(d,.ref d 0)::bM d σ.s,(d,.var none cs)::aA d σ.m⟩
 | _,_=>none
def storeVar (σ:St) (k off n:Nat) (us:List C):Option Bk->Option St
 | some (.var o cs)=>if us.length=n∧off+n<=cs.length then some ⟨σ.s,(k,.var o (cs.take off++us++cs.drop (off+n)))::aA k σ.m⟩ else none
 | _=>none
def storeRow (σ:St) (k j sz off n:Nat) (us:List C):Option Bk->Option St
 | some (.buf o e gU rows)=>if gU=sz then match rows[j]? with
   | some r=>if us.length=n∧off+n<=r.length then some ⟨σ.s,(k,.buf o e sz (rows.set j (r.take off++us++r.drop (off+n))))::aA k σ.m⟩ else none
   | none=>none
  else none
 | _=>none
def Du (σ:St) (d:Option Nat) (x:A) (us:Option (List C)) (n:Option Nat):Option St :=
 match d,x,us,n with
 | none,.ref k off,some us,some n=>storeVar σ k off n us (gm σ.m k)
 | none,.row k j sz off,some us,some n=>storeRow σ k j sz off n us (gm σ.m k)
 | _,_,_,_=>none
def qa (σ:St) (d:Option Nat):Option A->Option St
 | some α=>some ⟨aI σ.s d α,σ.m⟩
 | none=>none
def ownE (σ:St) (k d:Nat) (bk:Bk):St:=⟨(d,.buf d)::bM d (bM k σ.s),(d,bk)::aA d (aA k σ.m)⟩
def ZlT (σ:St) (k d:Nat):Option Bk->Option St
 | some (.buf o e sz rows)=>if k=d then some ⟨(d,.buf d)::σ.s,σ.m⟩ else some (ownE σ k d (.buf o e sz rows))
 | _=>none
def vT (σ:St) (d:Nat):Option (TypeId × Nat × Nat)->Option St
 | some (e,sz,_)=>some ⟨(d,.buf d)::bM d σ.s,(d,.buf none e sz [])::aA d σ.m⟩
 | none=>some ⟨(d,.d (.clip []))::σ.s,σ.m⟩
def uD (P:Program) (σ:St) (d:Option Nat) (ty:TypeId) (x:A):Option St :=
 match d,x with
 | some d,.buf k=>ZlT σ k d (gm σ.m k)
 | some d,.d (.clip [])=>vT σ d (jc P ty)
 | d,x=>some ⟨aI σ.s d x,σ.m⟩
def ZnL (k:Nat):A->Bool
 | .buf k'=>k'==k
 | _=>false
def ak:Nat:=1073741824
def Zjl (σ:St) (d k:Nat) (ety sz:Nat) (ys:List (List C)):Option Bk->Option St
 | some (.buf _ e gU rows)=>if e=ety∧gU=sz∧rows.length+ys.length<=ak then some (ownE σ k d (.buf none e sz (rows++ys))) else none
 | _=>none
def Dl (P:Program) (σ:St) (d:Option Nat) (ts:Array TypeId) (args:List A):Option St :=
 match d,args,ts[0]? with
 | some d,[x,y],some t=>if ts[1]?=some t then match jc P t,oJ σ.m y with
   | some (e,sz,_),some ys=>if ZaB sz ys=true then match x with
     | .buf k=>if ZnL k y then none else Zjl σ d k e sz ys (gm σ.m k)
     | .d (.clip rows)=>if ZaB sz rows=true∧rows.length+ys.length<=ak∧(rows.isEmpty || !ys.isEmpty)=true then some ⟨(d,.buf d)::bM d σ.s,(d,.buf none e sz (rows++ys))::aA d σ.m⟩ else none
     | _=>none
    else none
   | _,_=>none
  else none
 | _,_,_=>none
def AH (P:Program) (σ:St) (d:Option Nat) (t:TypeId) (l c:A):Option St :=
 match d,iD l,iD c,jc P t with
 | some d,some n,some n',some (e,sz,_)=>match iJ P e with
  | some z=>if n=n'∧0<=n∧n<=ak∧z.all aY=true then some ⟨(d,.buf d)::bM d σ.s,(d,.buf none e sz (List.replicate n.toNat z))::aA d σ.m⟩ else none
  | none=>none
 | _,_,_,_=>none
def eE (q:Bool) (ks:List Nat) (σ:St):Option St :=
 match ks with
 | []=>some σ
 | _::_=>if q then none else some (frzs ks σ)
def zt (P:Program) (d:Option Nat) (op:Op):Option St->Option St
 | some σ=>qa σ d (zr P σ.m (aL σ.s) op)
 | none=>none
def ZlU (d:Option Nat) (x:Operand):Option St->Option St
 | some σ=>mC σ d (nF (aL σ.s x))
 | none=>none
def ZiF (P:Program) (d:Option Nat) (t:TypeId) (x y:Operand):Option St->Option St
 | some σ=>Du σ d (fu σ.m (aL σ.s x)) (nF (aL σ.s y)) (pd P t)
 | none=>none
def AJ (P:Program) (q:Bool) (σ:St) (d:Option Nat) (ty:TypeId):Op->Option St
 | .alloc t=>if q then none else mC σ d (iJ P t)
 | .box _ x=>if q then none else ZlU d x (eE q (mB (aL σ.s x)) σ)
 | .store t x y=>if q then none else ZiF P d t x y (eE q (mB (aL σ.s y)) σ)
 | .assign x=>if q then none else uD P σ d ty (aL σ.s x)
 | .makeSlice t l c=>if q then none else AH P σ d t (aL σ.s l) (aL σ.s c)
 | .call ⟨.builtin .append,args,ts⟩=>if q then none else Dl P σ d ts (args.toList.map fun x=>fu σ.m (aL σ.s x))
 | .build t parts=>zt P d (.build t parts) (eE q (qP (parts.toList.map fun p=>aL σ.s p.2)) σ)
 | .buildSlice t n parts=>zt P d (.buildSlice t n parts) (eE q (qP (parts.toList.map fun p=>aL σ.s p.2)) σ)
 | .makeFunc f fs caps=>zt P d (.makeFunc f fs caps) (eE q (qP (caps.toList.map (aL σ.s))) σ)
 | op=>qa σ d (zr P σ.m (aL σ.s) op)
def qk (ay:Nat):List (Nat × A)->List (Nat × A)
 | []=>[]
 | (k,a)::r=>if ay.testBit k then (k,a)::qk ay r else qk ay r
def nG (s:List (Nat × A)):List (Nat × A)->Prop
 | []=>True
 | (k,a)::r=>gs s k=a∧nG s r
def nA (m:List (Nat × Bk)):List (Nat × Bk)->Prop
 | []=>True
 | (k,a)::r=>gm m k=some a∧nA m r
inductive PX where
 | normal
 | exit (id:Nat)
 | ret
def on (ops:Array Oper) (n:Nat):Bool :=
 (List.range n).all fun i=>match ops[i]? with
  | none=>false
  | some o=>o.dst.isSome && o.after.all (fun e=>!Region.binds .any e || decide (e.on < i)) &&
   (match o.guard with
    | none=>true
    | some (j,_)=>decide (j < n) && Region.waitsFor .any ops i j) &&
   (List.range n).all fun j=>match ops[j]? with
    | none=>false
    | some p=>(j==i || p.dst != o.dst) && (!(rN o).any (fun t=>p.dst==some t) || Region.waitsFor .any ops i j)
def fI (ops:Array Oper) (n:Nat):Bool :=
 on ops n && decide (n<=ops.size) && (decide (n=ops.size) || (Region.sinkB .any ops n && Region.chainB .any ops n)) && Region.seqB .any ops (ops.size - n) n (mj ops.size n)
def jb:Oper->Bool
 | ⟨some _,.alloc _,_,_,_,none⟩=>true
 | _=>false
def Aw (ops:Array Oper) (n:Nat):Bool :=
 match ops[n]? with
 | some o=>jb o
 | none=>false
def vV (ops:Array Oper) (n:Nat):Bool:=fI ops n
def Wk (σ σ1:St):Prop:=(∀ t,gs σ1.s t=gs σ.s t∨gs σ1.s t=.undef)∧∀ t x,gm σ1.m t=some x->gm σ.m t=some x
section
variable {w w':World} {S S':Nat->Prop}
theorem bn.keep2 (hz:w.heap.size<=w'.heap.size) (hk:∀ b o,S b->w'.cell? ⟨b,o,none⟩=w.cell? ⟨b,o,none⟩) (hS:∀ b,S b->S' b) (b:Nat) (hb:∀ o,w'.cell? ⟨b,o,none⟩=w.cell? ⟨b,o,none⟩) :
  ∀ (off:Nat) (cs:List C),bn w S b off cs->bn w' S' b off cs
 | _,[],_=>by simp [bn]
 | off,c::cs,h=>by
  simp only [bn] at h ⊢;obtain ⟨⟨u,hu,hr⟩,h2⟩:=h;exact ⟨⟨u,by rw [hb off];exact hu,aQ.keep hz hk hS c u hr⟩,bn.keep2 hz hk hS b hb _ cs h2⟩
theorem aC.keep2 (hz:w.heap.size<=w'.heap.size) (hk:∀ b o,S b->w'.cell? ⟨b,o,none⟩=w.cell? ⟨b,o,none⟩) (hS:∀ b,S b->S' b) :
  ∀ {cs:List C} {us:List Value},aC w S cs us->aC w' S' cs us
 | [],[],_=>by simp [aC]
 | c::cs,u::us,h=>by
  simp only [aC] at h ⊢;exact ⟨aQ.keep hz hk hS c u h.1,aC.keep2 hz hk hS h.2⟩
 | [],_::_,h=>by simp [aC] at h
 | _::_,[],h=>by simp [aC] at h
theorem bn.keepAt (hz:w.heap.size<=w'.heap.size) (hk:∀ b o,S b->w'.cell? ⟨b,o,none⟩=w.cell? ⟨b,o,none⟩) (hS:∀ b,S b->S' b) (b:Nat) :
  ∀ (off:Nat) (cs:List C),(∀ j,j < cs.length->w'.cell? ⟨b,off+j,none⟩=w.cell? ⟨b,off+j,none⟩)->bn w S b off cs->bn w' S' b off cs
 | _,[],_,_=>by simp [bn]
 | off,c::cs,hb,h=>by
  simp only [bn] at h ⊢;obtain ⟨⟨u,hu,hr⟩,h2⟩:=h
  exact ⟨⟨u,by have:=hb 0 (by simp);rw [Nat.add_zero] at this;rw [this];exact hu,aQ.keep hz hk hS c u hr⟩,
   bn.keepAt hz hk hS b _ cs (fun j hj=>by have:=hb (j+1) (by simp;omega);rw [show off+1+j=off+(j+1) by omega];exact this) h2⟩
theorem bn.of_vals {b:Nat}:∀ (cs:List C) (vs:List Value) (off:Nat),aC w S cs vs->(∀ j u,vs[j]?=some u->w.cell? ⟨b,off+j,none⟩=some u)->bn w S b off cs
 | [],_,_,_,_=>by simp [bn]
 | c::cs,[],_,h,_=>by simp [aC] at h
 | c::cs,v::vs,off,h1,h2=>by
  simp only [aC,bn] at h1 ⊢;exact ⟨⟨v,by simpa using h2 0 v (by simp),h1.1⟩,bn.of_vals cs vs (off+1) h1.2 (fun j u hj=>by have:=h2 (j+1) u (by simpa using hj);rw [show off+1+j=off+(j+1) by omega];exact this)⟩
theorem bn.append {b:Nat}:∀ (xs ys:List C) (off:Nat),bn w S b off xs->bn w S b (off+xs.length) ys->bn w S b off (xs++ys)
 | [],ys,off,_,h2=>by simpa using h2
 | x::xs,ys,off,h1,h2=>by
  simp only [bn,Taf] at h1 ⊢;refine ⟨h1.1,bn.append xs ys (off+1) h1.2 ?_⟩;rw [show off+1+xs.length=off+(x::xs).length by simp;omega];exact h2
theorem aW.keep (hz:w.heap.size<=w'.heap.size) (hk:∀ b o,S b->w'.cell? ⟨b,o,none⟩=w.cell? ⟨b,o,none⟩) (hS:∀ b,S b->S' b) {x:D} {v:Value} (h:aW w S x v):aW w' S' x v:=by
 cases x with
 | one c=>exact aQ.keep hz hk hS c v h
 | agg cs=>obtain ⟨vs,hv,hr⟩:=h;exact ⟨vs,hv,aC.keep2 hz hk hS hr⟩
 | clip rows=>exact ⟨aQ.keep hz hk hS _ v h.1,h.2⟩
theorem cx.keep (hz:w.heap.size<=w'.heap.size) (hk:∀ b o,S b->w'.cell? ⟨b,o,none⟩=w.cell? ⟨b,o,none⟩) (hS:∀ b,S b->S' b):∀ {xs:List D} {vs:List Value},cx w S xs vs->cx w' S' xs vs
 | [],[],_=>by simp [cx]
 | x::xs,v::vs,h=>by
  simp only [cx] at h ⊢;exact ⟨aW.keep hz hk hS h.1,cx.keep hz hk hS h.2⟩
 | [],_::_,h=>by simp [cx] at h
 | _::_,[],h=>by simp [cx] at h
theorem ax.keep {L:Lay} (hz:w.heap.size<=w'.heap.size) (hk:∀ b o,S b->w'.cell? ⟨b,o,none⟩=w.cell? ⟨b,o,none⟩) (hS:∀ b,S b->S' b) {x:A} {v:Value} (h:ax w S L x v):ax w' S' L x v:=by
 cases x with
 | undef=>trivial
 | no=>exact h
 | d x=>exact aW.keep hz hk hS h
 | tup xs=>obtain ⟨vs,hv,hr⟩:=h;exact ⟨vs,hv,cx.keep hz hk hS hr⟩
 | ref m off=>exact h
 | buf k=>exact h
 | row k j sz off=>exact h
theorem cx.append:∀ {xs ys:List D} {vs us:List Value},cx w S xs vs->cx w S ys us->cx w S (xs++ys) (vs++us)
 | [],ys,[],us,_,h2=>by simpa using h2
 | x::xs,ys,v::vs,us,h1,h2=>by
  simp only [cx,Taf] at h1 ⊢;exact ⟨h1.1,cx.append h1.2 h2⟩
 | [],_,_::_,_,h,_=>by simp [cx] at h
 | _::_,_,[],_,h,_=>by simp [cx] at h
theorem cx.caps:∀ {cs:List C} {us:List Value},aC w S cs us->cx w S (cs.map .one) us
 | [],[],_=>by simp [cx]
 | c::cs,u::us,h=>by
  simp only [aC,Tbu,cx] at h ⊢;exact ⟨h.1,cx.caps h.2⟩
 | [],_::_,h=>by simp [aC] at h
 | _::_,[],h=>by simp [aC] at h
theorem cx.len:∀ {xs:List D} {vs:List Value},cx w S xs vs->vs.length=xs.length
 | [],[],_=>rfl
 | x::xs,v::vs,h=>by simp only [cx] at h;simp [cx.len h.2]
 | [],_::_,h=>by simp [cx] at h
 | _::_,[],h=>by simp [cx] at h
theorem cx.get:∀ {xs:List D} {vs:List Value} {i:Nat} {x:D},cx w S xs vs->xs[i]?=some x->∃ v,vs[i]?=some v∧aW w S x v
 | [],_,_,_,_,hi=>by simp at hi
 | x::xs,v::vs,0,y,h,hi=>by simp only [cx] at h;simp at hi;subst hi;exact ⟨v,by simp,h.1⟩
 | x::xs,v::vs,i+1,y,h,hi=>by simp only [cx] at h;have:=cx.get h.2 (by simpa using hi);simpa using this
 | _::_,[],_,_,h,_=>by simp [cx] at h
end
section
variable {w w':World} {S S':Nat->Prop}
theorem bn.drop {w:World} {S:Nat->Prop} {b:Nat}:∀ {cs:List C} {off:Nat} (n:Nat),bn w S b off cs->bn w S b (off+n) (cs.drop n)
 | cs,off,0,h=>by simpa using h
 | [],off,n+1,h=>by simp [bn]
 | c::cs,off,n+1,h=>by
  simp only [bn] at h;have:=bn.drop (cs:=cs) (off:=off+1) n h.2;rw [show off+(n+1)=off+1+n by omega];simpa using this
theorem bn.vals {w:World} {S:Nat->Prop} {b:Nat}:∀ {cs:List C} {off:Nat},bn w S b off cs->∃ vs:List Value,aC w S cs vs∧∀ j u,vs[j]?=some u->w.cell? ⟨b,off+j,none⟩=some u
 | [],off,_=>⟨[],by simp [aC],by simp⟩
 | c::cs,off,h=>by
  simp only [bn] at h;obtain ⟨⟨u,hu,hr⟩,h2⟩:=h;obtain ⟨vs,h3,h4⟩:=bn.vals h2;refine ⟨u::vs,by simp only [aC];exact ⟨hr,h3⟩,fun j v hj=>?_⟩
  cases j with
  | zero=>simp at hj;subst hj;simpa using hu
  | succ j=>have:=h4 j v (by simpa using hj);rw [show off+(j+1)=off+1+j by omega];exact this
theorem bn.take {w:World} {S:Nat->Prop} {b:Nat}:∀ {cs:List C} {off:Nat} (n:Nat),bn w S b off cs->bn w S b off (cs.take n)
 | cs,off,0,h=>by simp [bn]
 | [],off,n+1,h=>by simp [bn]
 | c::cs,off,n+1,h=>by
  simp only [bn,Tbc] at h ⊢;exact ⟨h.1,bn.take n h.2⟩
theorem aC.drop {w:World} {S:Nat->Prop}:∀ {cs:List C} {vs:List Value} (n:Nat),aC w S cs vs->aC w S (cs.drop n) (vs.drop n)
 | cs,vs,0,h=>by simpa using h
 | [],[],n+1,h=>by simp [aC]
 | c::cs,v::vs,n+1,h=>by
  simp only [aC] at h;simpa using aC.drop n h.2
 | [],_::_,_+1,h=>by simp [aC] at h
 | _::_,[],_+1,h=>by simp [aC] at h
theorem aC.take {w:World} {S:Nat->Prop}:∀ {cs:List C} {vs:List Value} (n:Nat),aC w S cs vs->aC w S (cs.take n) (vs.take n)
 | cs,vs,0,h=>by simp [aC]
 | [],[],n+1,h=>by simp [aC]
 | c::cs,v::vs,n+1,h=>by
  simp only [aC,Tbc] at h ⊢;exact ⟨h.1,aC.take n h.2⟩
 | [],_::_,_+1,h=>by simp [aC] at h
 | _::_,[],_+1,h=>by simp [aC] at h
theorem Addr.add_at (b off n:Nat):(⟨b,off,none⟩:Addr).add n=⟨b,off+n,none⟩:=by unfold Addr.add;split <;> simp_all
theorem qE {w w':World} {b:Nat} (h:w'.heap[b]?=w.heap[b]?) (o:Nat):w'.cell? ⟨b,o,none⟩=w.cell? ⟨b,o,none⟩:=World.cell?_of_block h
theorem aC.app:∀ {cs ds:List C} {us vs:List Value},aC w S cs us->aC w S ds vs->aC w S (cs++ds) (us++vs)
 | [],_,[],_,_,h2=>by simpa using h2
 | c::cs,ds,u::us,vs,h1,h2=>by
  simp only [aC,Taf] at h1 ⊢;exact ⟨h1.1,aC.app h1.2 h2⟩
 | [],_,_::_,_,h,_=>by simp [aC] at h
 | _::_,_,[],_,h,_=>by simp [aC] at h
theorem ZhA {c:C} {v:Value} (h:aY c=true) (hr:aQ w S c v):v.oneCell'=true:=by
 cases c with
 | lit x=>simp only [aQ] at hr;subst hr;exact h
 | sl rows=>simp only [aQ] at hr;obtain ⟨A,n,cap,rfl,_⟩:=hr;rfl
 | ptr cs=>simp only [aQ] at hr;obtain ⟨b,off,rfl,_⟩:=hr;rfl
 | fn f caps=>simp only [aQ] at hr;obtain ⟨us,rfl,_⟩:=hr;rfl
theorem C1:∀ {cs:List C} {vs:List Value},cs.all aY=true->aC w S cs vs->∀ v∈vs,v.oneCell'=true
 | [],[],_,_=>by simp
 | c::cs,v::vs,h,hr=>by
  simp only [List.all_cons,Tar,aC] at h hr;intro u hu;rcases Tbg.1 hu with rfl | hu
  ·exact ZhA h.1 hr.1
  ·exact C1 h.2 hr.2 u hu
 | [],_::_,_,h=>by simp [aC] at h
 | _::_,[],_,h=>by simp [aC] at h
theorem b7.flat {b:Nat}:∀ {rows:List (List C)} {off:Nat},b7 w S b off rows->bn w S b off rows.flatten
 | [],_,_=>by simp [bn]
 | r::rs,off,h=>by
  simp only [b7,List.flatten_cons] at h ⊢;exact bn.append _ _ _ h.1 (b7.flat h.2)
theorem bn.left {b:Nat}:∀ {xs ys:List C} {off:Nat},bn w S b off (xs++ys)->bn w S b off xs∧bn w S b (off+xs.length) ys
 | [],ys,off,h=>by simpa [bn] using h
 | x::xs,ys,off,h=>by
  simp only [bn,Taf] at h ⊢;have:=bn.left h.2;rw [show off+(x::xs).length=off+1+xs.length by simp;omega];exact ⟨⟨h.1,this.1⟩,this.2⟩
theorem b7.of_flat {b:Nat}:∀ {rows:List (List C)} {off:Nat},bn w S b off rows.flatten->b7 w S b off rows
 | [],_,_=>by simp [b7]
 | r::rs,off,h=>by
  simp only [b7,List.flatten_cons] at h ⊢;have:=bn.left h;exact ⟨this.1,b7.of_flat this.2⟩
theorem oL {n:Nat}:∀ {rows:List (List C)},rowsLen n rows->rows.flatten.length=rows.length * n
 | [],_=>by simp
 | r::rs,h=>by
  have h2:=oL (n:=n) (rows:=rs) (fun x hx=>h x (by simp [hx]));simp only [List.flatten_cons,Tae,Tag,((h r (by simp)).1),h2,Nat.add_mul];omega
theorem ZlV {n:Nat}:∀ {rows:List (List C)},rowsLen n rows->rows.flatten.all aY=true
 | [],_=>by simp
 | r::rs,h=>by
  have h2:=ZlV (n:=n) (rows:=rs) (fun x hx=>h x (by simp [hx]));simp only [List.flatten_cons,List.all_append,((h r (by simp)).2),h2,Bool.and_self]
theorem rowsLen.append {n:Nat} {xs ys:List (List C)} (h1:rowsLen n xs) (h2:rowsLen n ys):rowsLen n (xs++ys):=fun r hr=>by
 rcases Tbh.1 hr with h | h
 ·exact h1 r h
 ·exact h2 r h
theorem rowsLen.nil {n:Nat}:rowsLen n []:=fun r hr=>by simp at hr
theorem ki {n:Nat} {rows:List (List C)}:ZaB n rows=true ↔ rowsLen n rows:=by
 unfold ZaB rowsLen;rw [List.all_eq_true];simp only [Tar,beq_iff_eq]
end
def cQ (L:Lay) (k:Nat):Bk->Nat->Prop
 | .var _ _,g=>L.b k=g
 | .buf _ _ _ _,g=>aP (L.v k)=some g
 | .set E _,g=>E g
def bL (w:World) (S:Nat->Prop) (L:Lay) (k:Nat):Bk->Prop
 | .var o cs=>(∀ b,o=some b->L.b k=b)∧L.b k < w.heap.size∧¬ S (L.b k)∧(∃ oq ty,w.heap[L.b k]?=some (.cells oq ty (0,0))∧oq.size=cs.length)∧bn w S (L.b k) 0 cs
 | .buf o e sz rows=>(∀ a,o=some a->L.v k=.slice a.1 rows.length a.2)∧ei w S e sz rows (L.v k)
 | .set E G=>(∀ b,E b->b < w.heap.size∧¬ S b)∧G w∧tD E G
theorem ei.keep {w:World} {S:Nat->Prop} {e:Nat} {rows:List (List C)} {v:Value} (h:ei w S e sz rows v) (hz:w.heap.size<=w'.heap.size) (hk:∀ b o,S b->w'.cell? ⟨b,o,none⟩=w.cell? ⟨b,o,none⟩) (hS:∀ b,S b->S' b)
  (hb:∀ g,aP v=some g->w'.heap[g]?=w.heap[g]?∧¬ S' g):ei w' S' e sz rows v:=by
 obtain ⟨h1,h2,h3⟩:=h;refine ⟨h1,h2,?_⟩;rcases h3 with h3 | ⟨g,cap,bc,hv,hc,hg,hs,hh,hl,hm,ez,hr⟩
 ·exact .inl h3
 ·have fj:aP v=some g:=by rw [hv];simp [aP];omega
  obtain ⟨k1,k2⟩:=hb g fj;refine .inr ⟨g,cap,bc,hv,hc,om,k2,by rw [k1];exact hh,hl,hm,ez,?_⟩;exact b7.of_flat (bn.keep2 hz hk hS g (fun o=>qE k1 o) 0 _ hr.flat)
theorem bL.keep {w:World} {S:Nat->Prop} {L:Lay} {bk:Bk} (h:bL w S L k bk) (hz:w.heap.size<=w'.heap.size) (hk:∀ b o,S b->w'.cell? ⟨b,o,none⟩=w.cell? ⟨b,o,none⟩) (hS:∀ b,S b->S' b)
  (hb:∀ g,cQ L k bk g->w'.heap[g]?=w.heap[g]?∧¬ S' g):bL w' S' L k bk:=by
 cases bk with
 | var o cs =>
  obtain ⟨h0,h1,h2,⟨oq,ty,h3,h4⟩,h5⟩:=h;obtain ⟨k1,k2⟩:=hb (L.b k) rfl;exact ⟨h0,om,k2,⟨oq,ty,by rw [k1];exact h3,h4⟩,bn.keep2 hz hk hS _ (fun o=>qE k1 o) 0 cs h5⟩
 | buf o e sz rows=>exact ⟨h.1,ei.keep h.2 hz hk hS hb⟩
 | set E G =>
  obtain ⟨h1,h2,h3⟩:=h;exact ⟨fun b hE=>⟨by have:=(h1 b hE).1;omega,(hb b hE).2⟩,h3 w w' hz (fun b hE=>(hb b hE).1) h2,h3⟩
theorem bL.lt {w:World} {S:Nat->Prop} {L:Lay} {bk:Bk} (h:bL w S L k bk) {g:Nat} (hg:cQ L k bk g):g < w.heap.size∧¬ S g:=by
 cases bk with
 | var o cs=>simp only [cQ] at hg;subst hg;exact ⟨h.2.1,h.2.2.1⟩
 | set E G=>exact h.1 g hg
 | buf o e sz rows =>
  obtain ⟨_,_,_,h3⟩:=h;simp only [cQ] at hg;rcases h3 with ⟨_,a,hv⟩ | ⟨g',cap,bc,hv,hc,fo,hs,_⟩
  ·rw [hv] at hg;cases a <;> simp [aP] at hg
  ·rw [hv] at hg;simp only [aP] at hg;rw [if_neg om] at hg;injection hg with hg
   subst hg;exact ⟨fo,hs⟩
theorem bL.lay {w:World} {S:Nat->Prop} {L L':Lay} {bk:Bk} (h:bL w S L k bk) (h1:L'.b k=L.b k) (h2:L'.v k=L.v k):bL w S L' k bk:=by
 cases bk with
 | var o cs=>simpa [bL,h1] using h
 | buf o e sz rows=>simpa [bL,h2] using h
 | set E G=>exact h
theorem Zy1 {L L':Lay} {bk:Bk} (h1:L'.b k=L.b k) (h2:L'.v k=L.v k):cQ L' k bk=cQ L k bk:=by
 funext g
 cases bk <;> simp [cQ,h1,h2]
structure Cls (e:Env) (U:Nat->Prop) (base:Nat) (S0:Nat->Prop) (m:List (Nat × Bk)) (w:World) (S:Nat->Prop) (L:Lay):Prop where
 sin:∀ b,S b->b < w.heap.size∧¬ e.E b
 sfr:∀ b,S b->S0 b∨base<=b∨U b
 ein:∀ b,e.E b->b < base
 uin:∀ b,U b->¬ e.E b
 bsz:base<=w.heap.size
 mine:∀ k bk g,gm m k=some bk->cQ L k bk g->base<=g∨U g
 own:∀ k bk,gm m k=some bk->bL w S L k bk
 inj:∀ k k' x x' g,gm m k=some x->gm m k'=some x'->cQ L k x g->cQ L k' x' g->k=k'
 g:e.G w
section
variable {e:Env} {U:Nat->Prop} {base:Nat} {S0:Nat->Prop} {m:List (Nat × Bk)} {w w':World} {S S':Nat->Prop} {L:Lay}
theorem Cls.notE (h:Cls e U base S0 m w S L) {g:Nat} {bk:Bk} (hk:gm m k=some bk) (hg:cQ L k bk g):¬ e.E g:=fun hE=>by
 rcases h.mine k bk g hk hg with h1 | h1
 ·have:=h.ein g hE;omega
 ·exact h.uin g h1 hE
theorem Cls.later (h:Cls e U base S0 m w S L) (hk:Kept e.D e.E w.heap.size w w') (hg:e.G w')
  (hS:∀ b,S b->S' b) (kv:∀ b,S' b->S b∨(w.heap.size<=b∧b < w'.heap.size)):Cls e U base S0 m w' S' L:=by
 have hz:=hk.size;have ky:∀ b o,S b->w'.cell? ⟨b,o,none⟩=w.cell? ⟨b,o,none⟩:=fun b o hs=>qE (hk.block b (h.sin b hs).1 (h.sin b hs).2) o;refine ⟨fun b hb=>?_,fun b hb=>?_,h.ein,h.uin,Tbe h.bsz hz,h.mine,fun k bk hm=>?_,h.inj,hg⟩
 ·rcases kv b hb with h1 | ⟨h1,h2⟩
  ·exact ⟨Tbd (h.sin b h1).1 hz,(h.sin b h1).2⟩
  ·exact ⟨h2,fun hE=>by have:=h.ein b hE;have:=h.bsz;omega⟩
 ·rcases kv b hb with h1 | ⟨h1,h2⟩
  ·exact h.sfr b h1
  ·exact .inr (.inl (Tbe h.bsz h1))
 ·have ho:=h.own k bk hm;refine ho.keep hz ky hS fun g Bw=>?_;obtain ⟨l1,l2⟩:=ho.lt Bw;refine ⟨hk.block g l1 (h.notE hm Bw),fun hs=>?_⟩;rcases kv g hs with h7 | ⟨h7,_⟩
  ·exact l2 h7
  ·omega
theorem Cls.cell (h:Cls e U base S0 m w S L) (hk:Kept e.D e.E w.heap.size w w'):∀ b o,S b->w'.cell? ⟨b,o,none⟩=w.cell? ⟨b,o,none⟩ :=
 fun b o hs=>qE (hk.block b (h.sin b hs).1 (h.sin b hs).2) o
def iM (e:Env) (U:Nat->Prop) (base:Nat) (S0:Nat->Prop) (m:List (Nat × Bk)) (o:Oper) (ρ:Operand->A) (α:A):Prop :=
 ∀ (w:World) (S:Nat->Prop) (L:Lay) (ρv:Operand->Value),Cls e U base S0 m w S L->(∀ x,x∈o.op.operands->ax w S L (ρ x) (ρv x)) ->
  gives e.P o ρv w fun v w'=>∃ S':Nat->Prop,((∀ b,S b->S' b)∧∀ b,S' b->S b∨w.heap.size<=b)∧Cls e U base S0 m w' S' L∧Kept e.D e.E w.heap.size w w'∧ax w' S' L α v
theorem nk {o:Oper} {ρ:Operand->A} {α:A} (h:∀ (w:World) (S:Nat->Prop) (L:Lay) (ρv:Operand->Value),Cls e U base S0 m w S L->(∀ x,x∈o.op.operands->ax w S L (ρ x) (ρv x))->∃ v,(execOp ρv o).run e.P w=.ok (.value v) w∧ax w S L α v) :
  iM e U base S0 m o ρ α:=by
 intro w S L ρv hC hr;obtain ⟨v,hv,ha⟩:=h w S L ρv hC hr;unfold gives;rw [hv];exact ⟨S,⟨fun _ h=>h,fun _ h=>.inl h⟩,hC,Kept.refl _ _ _ _,ha⟩
end
theorem Zpm {P:Program} {w:World} {S:Nat->Prop} {Bm:Lay} {k:TK} {b:Nat} {cs:List C} {α:A} (hk:nZ P t=some k) (hr:bn w S b off cs) (hv:fQ k cs=some α) :
  ∃ v,(Instr.loadAt t (.pointer (some ⟨b,off,none⟩))).run P w=.ok v w∧ax w S Bm α v:=by
 unfold nZ at hk
 cases hu:P.underlying t with
 | none=>rw [hu] at hk;simp at hk
 | some d =>
  cases hi:P.info? t with
  | none=>rw [hu,hi] at hk;simp at hk
  | some i =>
   rw [hu,hi] at hk;simp only at hk
   cases hd:AB d with
   | true =>
    rw [hd] at hk;simp only [if_true,Taq] at hk;subst hk;simp only [fQ] at hv;split at hv
    ·rename_i ct;injection hv with hv
     subst hv;obtain ⟨vs,h1,h2⟩:=(hr.take i.size).vals;have hl:vs.length=i.size:=by rw [h1.len,Taw];omega
     have sR:=run_loadCells_list (P:=P) w ⟨b,off,none⟩ vs (fun j u hj=>by rw [Addr.add_at];exact h2 j u hj);rw [hl] at sR;refine ⟨.agg vs.toArray,?_,vs,rfl,h1⟩
     cases d <;> simp [AB] at hd <;> simp [Instr.loadAt,Instr.sureAddr,loadVar,isAgg,underlying,hu,sizeOf,typeInfo,hi,sR,Result.andThen]
    ·cases hv
   | false =>
    rw [hd] at hk;simp only [Tam,if_false] at hk;split at hk
    ·injection hk with hk
     subst hk
     cases cs with
     | nil=>simp [fQ] at hv
     | cons c cs =>
      simp only [fQ,Taq] at hv;subst hv;simp only [bn] at hr;obtain ⟨⟨u,nV,sU⟩,_⟩:=hr;refine ⟨u,?_,sU⟩
      cases d <;> simp [AB] at hd <;> simp [Instr.loadAt,Instr.sureAddr,loadVar,isAgg,underlying,hu,nV,Result.andThen]
    ·cases hk
theorem m222 {p:Prop} (h:p:=by
 exact ⟨none,0,0,rfl,rfl,Tai _,by decide,fun h=>absurd h (by decide)⟩):p:=h
theorem m62 {p:Prop} (h:p:=by
 simp only [Tba,Tav] at h1 h2;obtain ⟨p,hp,rfl⟩:=h1;obtain ⟨q,hq,rfl⟩:=h2;rw [hp] at hq;injection hq with hq;subst hq;exact hr p (Tac hp)):p:=h
theorem ZC3 {P:Program} {op:BinOp} {a b v:Value} (h:AR op a b=some v) (w:World) :
  ((do eqGuard op t x y a b;binOp op t a b:Sem Value)).run P w=.ok v w:=by
 unfold AR at h
 split at h <;> first
  | (cases h;done)
  | (injection h with h;subst h;simp [eqGuard,binOp,Go.Op.intArith,Go.Op.intCmp,Go.Op.stringOp,intBits_and,intBits_or,intBits_xor,Result.andThen,bne];done)
  | (injection h with h;subst h;simp [eqGuard,binOp,Go.Op.intArith,Go.Op.intCmp,Go.Op.stringOp,Result.andThen,bne];rfl)
  | (injection h with h;subst h;simp [eqGuard,binOp,Result.andThen,bne];rfl)
  | (split at h
     ·rename_i hb;injection h with h;subst h
      have dC:¬ (_ < (0:Int)):=Int.not_lt.2 hb;simp [eqGuard,binOp,Go.Op.shift,dC,Result.andThen,IntKind.bits]
     ·cases h)
  | (split at h
     ·cases h
     ·rename_i hb;injection h with h;subst h
      simp [eqGuard,binOp,Go.Op.intDiv,hb,Result.andThen])
  | (rename_i a b
     split at h
     ·rename_i hb;injection h with h;subst h
      have dC:¬ (((a.size+b.size:Nat):Int) > IntKind.i64.max):=by simp [IntKind.max,IntKind.signed,IntKind.bits];omega
      simp only [eqGuard,binOp,Go.Op.stringOp,Sem.run_bind,Sem.run_pure,Result.andThen_ok,dC,if_false];simp [Result.andThen]
     ·cases h)
theorem Zr9 {P:Program} {op:BinOp} {a b v:Value} (h:cv P op t a b=some v) (w:World) :
  ((do eqGuard op t x y a b;binOp op t a b:Sem Value)).run P w=.ok v w:=by
 unfold cv at h;split at h
 ·unfold Dr at h;split at h
  ·rename_i hu;injection h with h;subst h
   simp [eqGuard,binOp,run_equal_bool _ _ _ _ hu,Result.andThen]
  ·cases h
 ·unfold Dr at h;split at h
  ·rename_i hu;injection h with h;subst h
   simp [eqGuard,binOp,run_equal_bool _ _ _ _ hu,Result.andThen]
  ·cases h
 ·exact ZC3 h w
theorem ZF8 {P:Program} {op:UnOp} {a v:Value} (h:Aa op a=some v) (w:World):(Go.Op.unary op a).run P w=.ok v w:=by
 unfold Aa at h
 split at h <;> first
  | (cases h;done)
  | (injection h with h;subst h;simp [Go.Op.unary,Go.Op.intArith])
theorem ZfR {P:Program} {f n:Nat} {ft:TypeId} (h:iG P t f=some (n,ft)) (b off:Nat) (w:World):(Instr.fieldAt t (.pointer (some ⟨b,off,none⟩)) f).run P w=.ok (.pointer (some ⟨b,off+n,none⟩)) w:=by
 unfold iG at h;split at h
 ·rename_i fs hu;split at h
  ·rename_i g hg;split at h
   ·rename_i i hi;split at h
    ·cases h
    ·rename_i hz;injection h with h
     injection h with h1 h2
     subst h1 h2;simp [Instr.fieldAt,underlying,hu,hg,Instr.sureAddr,fieldPlace,sizeOf,typeInfo,hi,hz,Addr.add_at,Result.andThen]
   ·cases h
  ·cases h
 ·cases h
theorem ZC4 {P:Program} {w:World} {S:Nat->Prop} {Bm:Lay} {k:TK} {n:Nat} {cs:List C} {vs:List Value} {α:A} (hk:nZ P t=some k) (hr:aC w S cs vs) (hv:fQ k (cs.drop n)=some α) :
  ∃ v,(part t vs.toArray n).run P w=.ok v w∧ax w S Bm α v:=by
 unfold nZ at hk
 cases hu:P.underlying t with
 | none=>rw [hu] at hk;simp at hk
 | some d =>
  cases hi:P.info? t with
  | none=>rw [hu,hi] at hk;simp at hk
  | some i =>
   rw [hu,hi] at hk;simp only at hk;have BR:=hr.drop n
   cases hd:AB d with
   | true =>
    rw [hd] at hk;simp only [if_true,Taq] at hk;subst hk;simp only [fQ] at hv;split at hv
    ·injection hv with hv
     subst hv;refine ⟨.agg ((vs.drop n).take i.size).toArray,?_,_,rfl,BR.take i.size⟩;have e1:vs.toArray.extract n (n+i.size)=((vs.drop n).take i.size).toArray:=by
      simp [List.extract_toArray,List.extract_eq_take_drop]
     cases d <;> simp [AB] at hd <;> simp [part,isAgg,underlying,hu,sizeOf,typeInfo,hi,e1,Result.andThen]
    ·cases hv
   | false =>
    rw [hd] at hk;simp only [Tam,if_false] at hk;split at hk
    ·injection hk with hk
     subst hk
     cases ez:cs.drop n with
     | nil=>rw [ez] at hv;simp [fQ] at hv
     | cons c gc =>
      rw [ez] at hv BR;simp only [fQ,Taq] at hv;subst hv
      cases dD:vs.drop n with
      | nil=>rw [dD] at BR;simp [aC] at BR
      | cons u us =>
       rw [dD] at BR;simp only [aC] at BR;have nV:vs[n]?=some u:=by
        have:(vs.drop n)[0]?=some u:=by rw [dD];rfl
        simpa using this
       refine ⟨u,?_,BR.1⟩
       cases d <;> simp [AB] at hd <;> simp [part,isAgg,underlying,hu,nV,Result.andThen]
    ·cases hk
theorem Zue {P:Program} {w:World} {S:Nat->Prop} {Bm:Lay} {n:Nat} {rows:List (List C)} {k:IntKind} {j:Int} {r:List C} (h:jM P t=some n) (hj:0<=j) (hl:rowsLen n rows) (hr:rows[j.toNat]?=some r) (hv:aQ w S (.sl rows) u) :
  ∃ v,(Instr.indexAt t u (.int k j)).run P w=.ok v w∧ax w S Bm (.d (.one (.ptr r))) v:=by
 unfold jM at h;split at h
 ·rename_i el hu;simp only [Tav] at h;obtain ⟨i,hi,hn⟩:=h;simp only [aQ] at hv;obtain ⟨A,len,cap,rfl,bu,_,_,h4⟩:=hv;have lz:j.toNat < rows.length:=(Tad.1 hr).1;obtain ⟨b,off,rfl,hs,hb,cn⟩:=h4 om;have fF:=b7.get rows off j.toNat r (fun x hx=>(hl x hx).1) cn hr;refine ⟨.pointer (some ⟨b,off+j.toNat * n,none⟩),?_,?_⟩
  ·have au:j < (len:Int):=om;simp [Instr.indexAt,asIntOf,underlying,hu,sizeOf,typeInfo,hi,hn,Addr.add_at,hj,au,Result.andThen]
  ·simp only [ax,aW,aQ];exact ⟨b,_,rfl,hs,hb,fF⟩
 ·cases h
theorem ZkJ {P:Program} {w:World} {n g len:Nat} {k:IntKind} {j:Int} (h:jM P t=some n) (hj:0<=j) (hl:j.toNat < len) :
  (Instr.indexAt t (.slice (some ⟨g,0,none⟩) len cap) (.int k j)).run P w=.ok (.pointer (some ⟨g,j.toNat * n,none⟩)) w:=by
 unfold jM at h;split at h
 ·rename_i el hu;simp only [Tav] at h;obtain ⟨i,hi,hn⟩:=h;have au:j < (len:Int):=om;simp [Instr.indexAt,asIntOf,underlying,hu,sizeOf,typeInfo,hi,hn,Addr.add_at,hj,au,Result.andThen]
 ·cases h
section
variable {e:Env} {U:Nat->Prop} {base:Nat} {S0:Nat->Prop} {m:List (Nat × Bk)} {w:World} {S:Nat->Prop} {L:Lay}
theorem j8 {x:Value} {v:Value} (h:ax w S L (.d (.one (.lit x))) v):v=x:=by simpa [ax,aW,aQ] using h
theorem Dc:∀ {xs:List A} {vs:List Value} {ds:List D},kV xs=some ds->vs.length=xs.length->(∀ (i:Nat) (x:A) (v:Value),xs[i]?=some x->vs[i]?=some v->ax w S L x v)->cx w S ds vs
 | [],[],ds,h,_,_=>by simp [kV] at h;subst h;simp [cx]
 | [],_::_,_,_,hl,_=>by simp at hl
 | _::_,[],_,_,hl,_=>by simp at hl
 | x::xs,v::vs,ds,h,hl,hr=>by
  have h0:=hr 0 x v (by simp) (by simp)
  cases x with
  | d y =>
   simp only [kV,Tav] at h;obtain ⟨ys,h1,h2⟩:=h;subst h2;simp only [cx];exact ⟨h0,Dc h1 (by simpa using hl) (fun i y v hy hv=>hr (i+1) y v (by simpa using hy) (by simpa using hv))⟩
  | undef=>simp [kV] at h
  | no=>simp [kV] at h
  | tup ys=>simp [kV] at h
  | ref k off=>simp [kV] at h
  | buf k=>simp [kV] at h
  | row k j sz off=>simp [kV] at h
theorem ZnM:∀ {xs:List A} {vs:List Value} {cs:List C},ov xs=some cs->vs.length=xs.length->(∀ (i:Nat) (x:A) (v:Value),xs[i]?=some x->vs[i]?=some v->ax w S L x v)->aC w S cs vs
 | [],[],ds,h,_,_=>by simp [ov] at h;subst h;simp [aC]
 | [],_::_,_,_,hl,_=>by simp at hl
 | _::_,[],_,_,hl,_=>by simp at hl
 | x::xs,v::vs,ds,h,hl,hr=>by
  have h0:=hr 0 x v (by simp) (by simp)
  cases x with
  | d y =>
   cases y with
   | one c =>
    simp only [ov,Tav] at h;obtain ⟨ys,h1,h2⟩:=h;subst h2;simp only [aC];exact ⟨h0,ZnM h1 (by simpa using hl) (fun i y v hy hv=>hr (i+1) y v (by simpa using hy) (by simpa using hv))⟩
   | agg cs=>simp [ov] at h
   | clip rows=>simp [ov] at h
  | undef=>simp [ov] at h
  | no=>simp [ov] at h
  | tup ys=>simp [ov] at h
  | ref k off=>simp [ov] at h
  | buf k=>simp [ov] at h
  | row k j sz off=>simp [ov] at h
theorem Zq6 {v:Value} (h:v.oneCell'=true):v.cells=#[v]:=by
 cases v <;> simp [Value.oneCell',Value.cells] at h ⊢
theorem ZfS {x:A} {v:Value} {cs:List C} (h:nF x=some cs) (hr:ax w S L x v):aC w S cs v.cells.toList∧cs.all aY=true:=by
 unfold nF at h;split at h
 ·rename_i c;split at h
  ·rename_i aj;injection h with h
   subst h;rw [Zq6 (ZhA aj hr)];exact ⟨by simp only [aC];exact ⟨hr,trivial⟩,by simpa using aj⟩
  ·cases h
 ·rename_i gc;split at h
  ·rename_i aj;injection h with h
   subst h;obtain ⟨vs,rfl,hv⟩:=hr;exact ⟨by simpa [Value.cells] using hv,aj⟩
  ·cases h
 ·rename_i rows;injection h with h
  subst h;obtain ⟨h1,a,n,rfl⟩:=hr;exact ⟨by simp only [Value.cells,aC];exact ⟨h1,trivial⟩,rfl⟩
 ·cases h
theorem rM (hC:Cls e U base S0 m w S L) {x:A} {v:Value} (hr:ax w S L x v):ax w S L (fu m x) v:=by
 unfold fu;split
 ·rename_i b off;have hv:v=.pointer (some ⟨b,off,none⟩):=by simpa [ax,aW,aQ] using hr
  unfold DH;split
  ·rename_i k hk;unfold yR;split
   ·rename_i b' cs hm;split
    ·rename_i hb;have:=(hC.own k _ hm).1 b' rfl;show v=_;rw [hv,this,hb]
    ·exact hr
   ·exact hr
  ·exact hr
 ·rename_i a n cap;have hv:v=.slice a n cap:=by simpa [ax,aW,aQ] using hr
  unfold AP;split
  ·rename_i k hk;unfold tm;split
   ·rename_i a' dz e' gU rows hm;split
    ·rename_i hb;obtain ⟨rfl,rfl,rfl⟩:=hb;have:=(hC.own k _ hm).1 (a,cap) rfl;show v=_;rw [hv,this]
    ·exact hr
   ·exact hr
  ·exact hr
 ·exact hr
theorem ZC5 (hC:Cls e U base S0 m w S L) {x:A} {v:Value} {rows:List (List C)} (h:oJ m x=some rows) (hr:ax w S L x v):∃ a cap,v=.slice a rows.length cap∧rows.length<=cap∧cap<=maxLen:=by
 unfold oJ at h;split at h
 ·injection h with h;subst h
  obtain ⟨A,n,cap,hv,hn,hc,hm⟩:=aQ.form hr;exact ⟨A,cap,by rw [hv,hn],om,om⟩
 ·injection h with h;subst h
  obtain ⟨A,n,cap,hv,hn,hc,hm⟩:=aQ.form hr.1;exact ⟨A,cap,by rw [hv,hn],om,om⟩
 ·rename_i k;unfold pq at h;split at h
  ·rename_i o' e' sz rows' hm;injection h with h;subst h
   have hr:v=L.v k:=hr;obtain ⟨_,_,_,h3⟩:=hC.own k _ hm;rcases h3 with ⟨h4,a,hv⟩ | ⟨g,cap,bc,hv,_,_,_,_,hl,hc,_⟩
   ·exact ⟨a,0,by rw [hr,hv,h4];rfl,by simp [h4],by simp [maxLen]⟩
   ·exact ⟨_,cap,by rw [hr,hv],hl,hc⟩
  ·cases h
 ·cases h
theorem Zp5 (hC:Cls e U base S0 m w S L) {x:A} {v:Value} {cs:List C} {k:TK} {α:A} (hp:iI m x=some cs) (hr:ax w S L x v) (hk:nZ e.P t=some k) (hv:fQ k cs=some α) :
  ∃ u,(Instr.loadAt t v).run e.P w=.ok u w∧ax w S L α u:=by
 unfold iI at hp;split at hp
 ·injection hp with hp;subst hp
  simp only [ax,aW,aQ] at hr;obtain ⟨b,off,rfl,hs,hb,fF⟩:=hr;exact Zpm hk fF hv
 ·rename_i k' off;simp only [Tav] at hp;obtain ⟨gc,h2,h3⟩:=hp;unfold tt at h2;split at h2
  ·rename_i o2 cs2 hm;injection h2 with h2;subst h2
   obtain ⟨_,_,_,_,h7⟩:=hC.own k' _ hm;have h8:=h7.drop off;rw [h3,Nat.zero_add] at h8;have hr:v=.pointer (some ⟨L.b k',off,none⟩):=hr;rw [hr];exact Zpm hk h8 hv
  ·cases h2
 ·rename_i k' j sz off;simp only [Tav] at hp;obtain ⟨gc,h2,h3⟩:=hp;unfold yS at h2;split at h2
  ·rename_i o' e' gU rows hm;split at h2
   ·rename_i bO;subst bO;obtain ⟨g,hg,rfl⟩:=hr;obtain ⟨_,_,hl,h4⟩:=hC.own k' _ hm;rcases h4 with ⟨h4,_⟩ | ⟨g',cap,bc,pT,DR,_,_,_,_,_,_,cn⟩
    ·rw [h4] at h2;simp at h2
    ·have hgg:g'=g:=by rw [pT] at hg;simp only [aP] at hg;rw [if_neg om] at hg;injection hg
     subst hgg;have h8:=(b7.get rows 0 j gc (fun x hx=>(hl x hx).1) cn h2).drop off;rw [h3,Nat.zero_add] at h8;exact Zpm hk h8 hv
   ·cases h2
  ·cases h2
 ·cases hp
theorem Zi0:∀ {sz i:Nat} {ps:List (Nat × A)} {rows:List (List C)} {vs:List Value},uG sz i ps=some rows->vs.length=ps.length->(∀ (i:Nat) (x:Nat × A) (v:Value),ps[i]?=some x->vs[i]?=some v->ax w S L x.2 v) ->
  rows.length=ps.length∧rowsLen sz rows∧(ps.map (·.1))=(List.range' i ps.length)∧(∀ v∈vs,v.cells.size=sz)∧aC w S rows.flatten (vs.flatMap fun v=>v.cells.toList)
 | sz,i,[],rows,vs,h,hl,_=>by
  simp [uG] at h;subst h;have:vs=[]:=Tao (by simpa using hl);subst this;exact ⟨rfl,rowsLen.nil,rfl,by simp,by simp [aC]⟩
 | sz,i,(j,x)::ps,rows,[],h,hl,_=>by simp at hl
 | sz,i,(j,x)::ps,rows,v::vs,h,hl,hr=>by
  simp only [uG] at h;split at h
  ·rename_i nQ;split at h
   ·rename_i cs ez;split at h
    ·rename_i bu;simp only [Tav] at h;obtain ⟨rs,h1,h2⟩:=h;subst h2;obtain ⟨q1,q2,q3,q4,q5⟩:=Zi0 (sz:=sz) (i:=i+1) (ps:=ps) (rows:=rs) (vs:=vs) h1 (by simpa using hl) (fun k y u hy hu=>hr (k+1) y u (by simpa using hy) (by simpa using hu));obtain ⟨c1,c2⟩:=ZfS ez (hr 0 (j,x) v (by simp) (by simp));have dD:v.cells.size=sz:=by rw [<- bu,<- c1.len,Array.length_toList]
     refine ⟨by simp [q1],fun r sU=>?_,by simp [q3,List.range'_succ,nQ],fun u hu=>?_,?_⟩
     ·rcases Tbg.1 sU with rfl | h5
      ·exact ⟨bu,c2⟩
      ·exact q2 r h5
     ·rcases Tbg.1 hu with rfl | h5
      ·exact dD
      ·exact q4 u h5
     ·simp only [List.flatten_cons,List.flatMap_cons];exact aC.app c1 q5
    ·cases h
   ·cases h
  ·cases h
theorem Zy2 {place:Nat->Option (Nat × Nat)} {cells:Array Value} {i:Nat} {v:Value} {rest:List (Nat × Value)} (hp:place i=some (off,v.cells.size)) (hl:off+v.cells.size<=cells.size) :
  Instr.fill place cells ((i,v)::rest)=Instr.fill place (cells.toList.take off++v.cells.toList++cells.toList.drop (off+v.cells.size)).toArray rest:=by
 obtain ⟨g1,g2⟩:=Go.Great.foldl_set off v.cells.toList 0 cells;have e:(v.cells.toList.zipIdx 0).foldl (fun cs (x:Value × Nat)=>cs.setIfInBounds (off+x.2) x.1) cells=(cells.toList.take off++v.cells.toList++cells.toList.drop (off+v.cells.size)).toArray:=by
  apply Array.ext_getElem?;intro k;rw [g2 k];simp only [Nat.add_zero,Array.length_toList,List.getElem?_toArray];by_cases h1:k < off
  ·rw [if_neg om,Tbf,Tbp (by simp;omega),List.getElem?_take,if_pos h1];simp
  ·by_cases h2:k < off+v.cells.size
   ·rw [if_pos om,Tbf,Tbq (by simp;omega),Tbp (by simp;omega)];simp only [Taw,Array.length_toList];congr 1;omega
   ·rw [if_neg om,Tbq (by simp;omega),Tbb];simp only [Tae,Taw,Array.length_toList,Array.getElem?_toList];congr 1;omega
 rw [<- e]
 conv=>lhs;unfold Instr.fill
 simp only [hp];rw [if_neg (by simp;omega)];congr 1;rw [<- Array.foldl_toList];congr 1;simp
theorem ZnN {P:Program} {t:TypeId} {place:Nat->Option (Nat × Nat)} (jX:∀ f off ft n,iG P t f=some (off,ft)->pd P ft=some n->place f=some (off,n)):∀ {ps:List (Nat × A)} {cs gc:List C} {vs:List (Nat × Value)} {cells:Array Value},qN P t cs ps=some gc ->
  aC w S cs cells.toList->cs.all aY=true->vs.map (·.1)=ps.map (·.1)->(∀ (i:Nat) (x:Nat × A) (v:Nat × Value),ps[i]?=some x->vs[i]?=some v->ax w S L x.2 v.2) ->
  ∃ jo:Array Value,Instr.fill place cells vs=some jo∧aC w S gc jo.toList∧gc.all aY=true
 | [],cs,gc,vs,cells,h,hr,aj,hv,_=>by
  simp [qN] at h;subst h;have:vs=[]:=by simpa using hv
  subst this;exact ⟨cells,rfl,hr,aj⟩
 | (f,x)::ps,cs,gc,[],cells,h,hr,aj,hv,_=>by simp at hv
 | (f,x)::ps,cs,gc,(f',v)::vs,cells,h,hr,aj,hv,ha=>by
  simp only [Tbu,List.cons.injEq] at hv;obtain ⟨rfl,hv⟩:=hv;simp only [qN] at h;split at h
  ·rename_i off ft us ho ez;split at h
   ·rename_i bO;obtain ⟨c1,c2⟩:=ZfS ez (ha 0 (f',x) (f',v) (by simp) (by simp));have iP:v.cells.size=us.length:=by rw [<- c1.len,Array.length_toList]
    have ip:=hr.len;simp only [Array.length_toList] at ip;have hp:=jX f' off ft us.length ho bO.1;rw [<- iP] at hp;rw [Zy2 hp om];refine ZnN jX h ?_ ?_ hv (fun i y u hy hu=>ha (i+1) y u (by simpa using hy) (by simpa using hu))
    ·simp only;rw [iP];exact aC.app (aC.app (hr.take off) c1) (hr.drop (off+us.length))
    ·simp only [List.all_append,c2,Tar,and_true];exact ⟨List.all_eq_true.2 fun y hy=>List.all_eq_true.1 aj y (List.mem_of_mem_take hy),List.all_eq_true.2 fun y hy=>List.all_eq_true.1 aj y (List.mem_of_mem_drop hy)⟩
   ·cases h
  ·cases h
theorem yZ:∀ (l:List Value),aC w S (l.map sj) l
 | []=>by simp [aC]
 | v::l=>by
  simp only [Tbu,aC];refine ⟨?_,yZ l⟩;unfold sj;split
  ·simp only [aQ];exact m222
  ·simp [aQ]
theorem xy {P:Program} {by':Nat} (h:jc P t=some (ety,sz,by')):∃ i z,P.underlying t=some (.slice ety)∧P.info? ety=some i∧i.zero=some z∧i.size=sz∧i.bytes=by'∧z.cells.size=sz∧0 < sz∧by'<=4096:=by
 unfold jc at h;split at h
 ·rename_i e' hu;split at h
  ·rename_i i hi;split at h
   ·rename_i z hz;split at h
    ·rename_i hc;simp only [Taq,Prod.mk.injEq] at h;obtain ⟨rfl,rfl,rfl⟩:=h;exact ⟨i,z,hu,hi,hz,rfl,rfl,hc.1,hc.2.1,hc.2.2⟩
    ·cases h
   ·cases h
  ·cases h
 ·cases h
theorem mapv {ps:List (Nat × Operand)} {ρ:Operand->A} (hr:∀ p∈ps,ax w S L (ρ p.2) (ρv p.2)) (i:Nat) (x:Nat × A) (v:Value) (h1:(ps.map fun p=>(p.1,ρ p.2))[i]?=some x) (h2:(ps.map fun p=>ρv p.2)[i]?=some v):ax w S L x.2 v:=by
 exact m62
theorem ZHM {ps:List (Nat × Operand)} {ρ:Operand->A} (hr:∀ p∈ps,ax w S L (ρ p.2) (ρv p.2)) (i:Nat) (x:Nat × A) (v:Nat × Value) (h1:(ps.map fun p=>(p.1,ρ p.2))[i]?=some x) (h2:(ps.map fun p=>(p.1,ρv p.2))[i]?=some v):ax w S L x.2 v.2:=by
 exact m62
theorem th {ps:List Operand} {ρ:Operand->A} (hr:∀ p∈ps,ax w S L (ρ p) (ρv p)) (i:Nat) (x:A) (v:Value) (h1:(ps.map ρ)[i]?=some x) (h2:(ps.map ρv)[i]?=some v):ax w S L x v:=by
 exact m62
end
theorem m190 {p:Prop} (h:p:=by
 simp [execOp,ho,resolve,invoke,builtin,Builtin.len_,ha,ht,underlying,hu,hv,goInt,Result.andThen]):p:=h
theorem Cm {p:Prop} (h:p:=by
 simp [Instr.sliceBounds,e2,Result.andThen,run_sliceBound,b1,b2]):p:=h
theorem Ci {p:Prop} (h:p:=by
 simp [Instr.sliceBounds,e1,e2,Result.andThen,run_sliceBound,b1,b2,b3,b4,eh]):p:=h
theorem m137 {p:Prop} (h:p:=by
 unfold iD at h;split at h
 ·rename_i j hj;injection h with h;subst h
  have:=hr y rfl;rw [hj] at this;exact .inr (by simp [j8 this])
 ·cases h):p:=h
theorem m107 {X Y:Prop} (b:Y) (h:Bx Y->X:=by
 intro B0
 have hp:=hr p (by simp [ho,Op.operands,Call.operands];rw [<- Array.mem_toList_iff,ha];simp);have hq:=hr q (by simp [ho,Op.operands,Call.operands];rw [<- Array.mem_toList_iff,ha];simp);rw [sY.1] at hp;rw [sY.2] at hq;have de:args.map ρv=#[ρv p,ρv q]:=by
  apply Array.toList_inj.1;simp [ha]
 exact B0.o hp hq de):X:=h ⟨b⟩
theorem m94 {p:Prop} (h:p:=by
 have hfill:=Go.Great.fill_whole fg vs ((Array.range (n * i.size)).map (z.cells[· % z.cells.size]!)) q4 (by simp [iP,bO]);refine run_buildSlice w t ety n _ _ i z hu hi hz (by rw [bO];omega) h0 ?_;rw [rm,bO] at *;exact hfill):p:=h
theorem m92 {X Y:Prop} (b:Y) (h:Bx Y->X:=by
 intro B0
 refine nk fun w S L ρv hC hr=>?_;obtain ⟨x,uf,rx⟩:=List.map_eq_singleton_iff.1 sY;have bj:=rM hC (hr x (by simp [ho,Op.operands,Call.operands];rw [<- Array.mem_toList_iff,uf];simp));rw [rx] at bj;exact B0.o w S L ρv hC hr x uf rx bj):X:=h ⟨b⟩
theorem yN {X Y:Prop} (b:Y) (h:Bx Y->X:=by
 intro B0
 refine nk fun w S L ρv hC hr=>?_;have bj:=hr x (by simp [ho,Op.operands]);exact B0.o w S L ρv hC hr bj):X:=h ⟨b⟩
section
variable {e:Env} {U:Nat->Prop} {base:Nat} {S0:Nat->Prop} {m:List (Nat × Bk)} {o:Oper} {ρ:Operand->A} {α:A}
theorem ZxB (ho:o.op=.load t x) (h:tM (nZ e.P t) (iI m (fu m (ρ x)))=some α):iM e U base S0 m o ρ α:=by
 unfold tM at h;split at h
 ·rename_i k cs hk hp;refine nk fun w S L ρv hC hr=>?_;obtain ⟨v,h1,h2⟩:=Zp5 hC hp (rM hC (hr x (by simp [ho,Op.operands]))) hk h;exact ⟨v,by simp [execOp,ho,h1],h2⟩
 ·cases h
theorem ZnO {f:Nat} (ho:o.op=.fieldAddr t x f) (h:tK (ρ x) (iG e.P t f)=some α):iM e U base S0 m o ρ α:=by
 unfold tK at h;split at h
 ·rename_i n ft hk;refine nk fun w S L ρv hC hr=>?_;have h1:=hr x (by simp [ho,Op.operands]);split at h
  ·rename_i cs hx;injection h with h;subst h
   rw [hx] at h1;simp only [ax,aW,aQ] at h1;obtain ⟨b,off,pT,hs,hb,fF⟩:=h1;refine ⟨.pointer (some ⟨b,off+n,none⟩),by simp [execOp,ho,pT,ZfR hk],?_⟩;simp only [ax,aW,aQ];exact ⟨b,off+n,rfl,hs,hb,fF.drop n⟩
  ·rename_i k off hx;injection h with h;subst h
   rw [hx] at h1;have h1:ρv x=.pointer (some ⟨L.b k,off,none⟩):=h1;exact ⟨_,by simp [execOp,ho,h1,ZfR hk],rfl⟩
  ·rename_i k j sz off hx;injection h with h;subst h
   rw [hx] at h1;obtain ⟨g,hg,h1⟩:=h1;exact ⟨.pointer (some ⟨g,j * sz+(off+n),none⟩),by simp [execOp,ho,h1,ZfR hk,Tbw],g,hg,rfl⟩
  ·rename_i b off hx;injection h with h;subst h
   rw [hx] at h1;have h1:=j8 h1;exact ⟨.pointer (some ⟨b,off+n,none⟩),by simp [execOp,ho,h1,ZfR hk],by simp [ax,aW,aQ]⟩
  ·cases h
 ·cases h
theorem Zuf {f:Nat} (ho:o.op=.field t x f) (h:Dy e.P (ρ x) (iG e.P t f)=some α):iM e U base S0 m o ρ α:=by
 unfold Dy at h;split at h
 ·rename_i n ft hk;split at h
  ·rename_i cs hx;unfold tM at h;split at h
   ·rename_i k gc ec hp;injection hp with hp;subst hp
    refine nk fun w S L ρv hC hr=>?_;have h1:=hr x (by simp [ho,Op.operands]);rw [hx] at h1;obtain ⟨vs,pT,fF⟩:=h1;obtain ⟨v,h2,h3⟩:=ZC4 (Bm:=L) ec fF h;unfold iG at hk;split at hk
    ·rename_i fs hu;split at hk
     ·rename_i g hg;split at hk
      ·split at hk
       ·cases hk
       ·injection hk with hk
        injection hk with e1 e2
        subst e1 e2;exact ⟨v,by simp [execOp,ho,pT,Instr.field,underlying,hu,hg,asAgg,h2,Result.andThen],h3⟩
      ·cases hk
     ·cases hk
    ·cases hk
   ·cases h
  ·cases h
 ·cases h
theorem ZnP {i:Operand} (ho:o.op=.indexAddr t x i) (h:wy m (jM e.P t) (fu m (ρ x)) (ρ i)=some α):iM e U base S0 m o ρ α:=by
 have data:∀ (rows:List (List C)) (n:Nat) (k:IntKind) (j:Int),jM e.P t=some n->ρ i=.d (.one (.lit (.int k j)))->(if 0<=j then if ZaB n rows=true then sI rows[j.toNat]? else none else none)=some α ->
   ∀ (w:World) (S:Nat->Prop) (L:Lay) (ρv:Operand->Value),aQ w S (.sl rows) (ρv x)->ax w S L (ρ i) (ρv i)->∃ v,(execOp ρv o).run e.P w=.ok (.value v) w∧ax w S L α v:=by
  intro rows n k j hn hi h w S L ρv hx eG;split at h
  ·rename_i hj;split at h
   ·rename_i db;unfold sI at h;split at h
    ·rename_i r fF;injection h with h;subst h
     rw [hi] at eG;have eG:=j8 eG;obtain ⟨v,h5,h6⟩:=Zue (Bm:=L) (k:=k) hn hj (ki.1 db) fF hx;exact ⟨v,by simp [execOp,ho,eG,h5],h6⟩
    ·cases h
   ·cases h
  ·cases h
 unfold wy at h;split at h
 ·rename_i n k kk j hn hx hi;unfold ZnJ at h;split at h
  ·rename_i o' e' sz rows hm;split at h
   ·rename_i bO;split at h
    ·rename_i hj;split at h
     ·rename_i au;injection h with h;subst h
      refine nk fun w S L ρv hC hr=>?_;have bj:=rM hC (hr x (by simp [ho,Op.operands]));have eG:=hr i (by simp [ho,Op.operands]);rw [hx] at bj;rw [hi] at eG;have eG:=j8 eG;have bj:ρv x=L.v k:=bj;obtain ⟨_,_,_,h4⟩:=hC.own k _ hm;rcases h4 with ⟨h4,_⟩ | ⟨g,cap,bc,hv,DR,_⟩
      ·rw [h4] at au;simp at au
      ·refine ⟨.pointer (some ⟨g,j.toNat * n,none⟩),?_,g,?_,by rw [bO];rfl⟩
       ·simp [execOp,ho,eG,bj,hv,ZkJ hn hj au]
       ·rw [hv];simp only [aP];rw [if_neg om]
     ·cases h
    ·cases h
   ·cases h
  ·cases h
 ·rename_i n rows kk j hn hx hi;refine nk fun w S L ρv hC hr=>?_;have bj:=rM hC (hr x (by simp [ho,Op.operands]));rw [hx] at bj;exact data rows n kk j hn hi h w S L ρv bj (hr i (by simp [ho,Op.operands]))
 ·rename_i n rows kk j hn hx hi;refine nk fun w S L ρv hC hr=>?_;have bj:=rM hC (hr x (by simp [ho,Op.operands]));rw [hx] at bj;exact data rows n kk j hn hi h w S L ρv bj.1 (hr i (by simp [ho,Op.operands]))
 ·cases h
theorem Zug {i:Operand} (ho:o.op=.index t x i) (h:Dz (e.P.underlying t) (ρ x) (ρ i)=some α):iM e U base S0 m o ρ α:=by
 unfold Dz at h;split at h
 ·rename_i s k j hk hx hi;split at h
  ·rename_i h1;unfold ZrD at h;split at h
   ·rename_i b h3;injection h with h;subst h
    refine yN fun w S L ρv hC hr bj=>?_;have eG:=hr i (by simp [ho,Op.operands]);rw [hx] at bj;rw [hi] at eG;have eG:=j8 eG;have bj:=j8 bj;exact ⟨.int .u8 b.toNat,by simp [execOp,ho,eG,bj,Instr.index,asIntOf,underlying,hk,h1,h3,Result.andThen],by simp [ax,aW,aQ]⟩
   ·cases h
  ·cases h
 ·cases h
theorem Zuh {op:BinOp} {t':TypeId} (ho:o.op=.binOp op t x y t') (h:sG e.P t op (ρ x) (ρ y)=some α):iM e U base S0 m o ρ α:=by
 unfold sG at h;split at h
 ·rename_i a b hx hy;unfold s7 at h;split at h
  ·rename_i v hv;injection h with h;subst h
   refine yN fun w S L ρv hC hr bj=>?_;have iC:=hr y (by simp [ho,Op.operands]);rw [hx] at bj;rw [hy] at iC;have bj:=j8 bj;have iC:=j8 iC;have hb:=Zr9 (P:=e.P) (t:=t) (x:=x) (y:=y) hv w;exact ⟨v,by simp only [execOp,ho,bj,iC];rw [Sem.run_bind,hb];rfl,by simp [ax,aW,aQ]⟩
  ·cases h
 ·cases h
theorem ZxC {op:UnOp} (ho:o.op=.unOp op t x) (h:D8 op (ρ x)=some α):iM e U base S0 m o ρ α:=by
 unfold D8 at h;split at h
 ·rename_i a hx;unfold s7 at h;split at h
  ·rename_i v hv;injection h with h;subst h
   refine yN fun w S L ρv hC hr bj=>?_;rw [hx] at bj;have bj:=j8 bj;exact ⟨v,by simp only [execOp,ho,bj];rw [Sem.run_bind,ZF8 hv];rfl,by simp [ax,aW,aQ]⟩
  ·cases h
 ·cases h
theorem Zq7 {i:Nat} (ho:o.op=.extract x i) (h:Dp i (ρ x)=some α):iM e U base S0 m o ρ α:=by
 unfold Dp at h;split at h
 ·rename_i xs hx;unfold dA at h;split at h
  ·rename_i r hi;injection h with h;subst h
   refine yN fun w S L ρv hC hr bj=>?_;rw [hx] at bj;obtain ⟨vs,hv,hd⟩:=bj;obtain ⟨v,h1,h2⟩:=hd.get hi;exact ⟨v,by simp [execOp,ho,hv,Instr.extract,h1,Result.andThen],h2⟩
  ·cases h
 ·cases h
theorem Zpn (ho:o.op=.nilCheck x) (h:lH (ρ x)=some α):iM e U base S0 m o ρ α:=by
 unfold lH at h;split at h
 ·rename_i cs hx;injection h with h;subst h
  refine yN fun w S L ρv hC hr bj=>?_;rw [hx] at bj;have rx:=bj;simp only [ax,aW,aQ] at rx;obtain ⟨b,off,hv,sU⟩:=rx;exact ⟨ρv x,by simp [execOp,ho,hv],bj⟩
 ·rename_i f cs hx;injection h with h;subst h
  refine yN fun w S L ρv hC hr bj=>?_;rw [hx] at bj;have rx:=bj;simp only [ax,aW,aQ] at rx;obtain ⟨us,hv,sU⟩:=rx;exact ⟨ρv x,by simp [execOp,ho,hv],bj⟩
 ·rename_i k off hx;injection h with h;subst h
  refine yN fun w S L ρv hC hr bj=>?_;rw [hx] at bj;have rx:ρv x=.pointer (some ⟨L.b k,off,none⟩):=bj;exact ⟨ρv x,by simp [execOp,ho,rx],bj⟩
 ·rename_i p hx;injection h with h;subst h
  refine yN fun w S L ρv hC hr bj=>?_;rw [hx] at bj;have rx:=j8 bj;exact ⟨ρv x,by simp [execOp,ho,rx],bj⟩
 ·cases h
theorem Zq8 {s d:TypeId} (ho:o.op=.convert s d x) (h:DA e.P s d (ρ x)=some α):iM e U base S0 m o ρ α:=by
 unfold DA at h;split at h
 ·rename_i k0 n hx;split at h
  ·rename_i d1 k h1 h2;injection h with h;subst h
   refine yN fun w S L ρv hC hr bj=>?_;rw [hx] at bj;have bj:=j8 bj;unfold wx at h2;split at h2
   ·rename_i k' hk;injection h2 with h2;subst h2
    refine ⟨.int k' (k'.wrap n),?_,by simp [ax,aW,aQ]⟩;simp [execOp,ho,bj,convert,underlying,h1,hk,Conv.intToInt,Result.andThen]
   ·cases h2
  ·cases h
 ·cases h
theorem ZnQ {P:Program} {w:World}:∀ (l:List Field),(∀ f∈l,(P.info? f.type).isSome)->∃ ps:List (Nat × Nat),(l.mapM (m:=Sem) fun (f:Field)=>do pure (f.offset,<- sizeOf f.type)).run P w=.ok ps w∧∀ (i:Nat) (f:Field) (n:Nat),l[i]?=some f->pd P f.type=some n->ps[i]?=some (f.offset,n)
 | [],_=>⟨[],by simp,by simp⟩
 | f::l,h=>by
  obtain ⟨ps,h1,h2⟩:=ZnQ l (fun g hg=>h g (by simp [hg]));obtain ⟨i0,nP⟩:=Option.isSome_iff_exists.1 (h f (by simp));refine ⟨(f.offset,i0.size)::ps,?_,?_⟩
  ·rw [List.mapM_cons];simp only [Sem.run_bind,(by simp [sizeOf,typeInfo,nP,Result.andThen]:(sizeOf f.type).run P w=.ok i0.size w),Result.andThen_ok,Sem.run_pure];rw [h1];simp
  ·intro i g n hg hn
   cases i with
   | zero=>simp at hg;subst hg;simp [pd,nP] at hn;simp [hn]
   | succ i=>simpa using h2 i g n (by simpa using hg) hn
theorem ZkK (ho:o.op=.build t parts) {i:TypeInfo} {v:Value} {cs gc:List C} (hi:e.P.info? t=some i) (hv:i.zero=some v) (bm:uo e.P t=true) (aj:cs.all aY=true) (jY:∀ (w:World) (S:Nat->Prop),aC w S cs v.cells.toList)
  (hf:qN e.P t cs (parts.toList.map fun p=>(p.1,ρ p.2))=some gc):iM e U base S0 m o ρ (.d (.agg gc)):=by
 refine nk fun w S L ρv hC hr=>?_;unfold uo at bm;split at bm
 ·rename_i fs hu;obtain ⟨ps,sT,oB⟩:=ZnQ (P:=e.P) (w:=w) fs.toList (fun f hf=>List.all_eq_true.1 bm f hf);have jX:∀ f off ft n,iG e.P t f=some (off,ft)->pd e.P ft=some n->(fun i=>ps.toArray[i]?) f=some (off,n):=by
   intro f off ft n ho hn;unfold iG at ho;rw [hu] at ho;simp only at ho;split at ho
   ·rename_i g hg;split at ho
    ·split at ho
     ·cases ho
     ·simp only [Taq,Prod.mk.injEq] at ho;obtain ⟨rfl,rfl⟩:=ho;simpa using oB f g n (by simpa using hg) hn
    ·cases ho
   ·cases ho
  obtain ⟨jo,jQ,nM,hc3⟩:=ZnN (w:=w) (S:=S) (L:=L) (place:=fun i=>ps.toArray[i]?) jX (vs:=parts.toList.map fun p=>(p.1,ρv p.2)) (cells:=v.cells) hf (jY w S) aj (by simp) (ZHM (fun p hp=>hr p.2 (by simp [ho,Op.operands];exact ⟨p.1,by simpa using hp⟩)));refine ⟨.agg jo,?_,jo.toList,by simp,nM⟩;have hm:(fs.mapM (m:=Sem) fun (f:Field)=>do pure (f.offset,<- sizeOf f.type)).run e.P w=.ok ps.toArray w:=by
   rw [Array.mapM_eq_mapM_toList];simp only [Sem.run_map,sT,Result.andThen_ok]
  have hc1':Instr.fill (fun x=>ps.toArray[x]?) v.cells (parts.map fun (p:Nat × Operand)=>(p.1,ρv p.2)).toList=some jo:=by
   rw [Array.toList_map];exact jQ
  have hb:(Instr.build t (parts.map fun (p:Nat × Operand)=>(p.1,ρv p.2))).run e.P w=.ok (.agg jo) w:=by
   unfold Instr.build;simp only [Sem.run_bind,zeroValue,typeInfo,Sem.run_pure,Result.andThen_ok,run_program,hi,hv,underlying,hu];rw [hm];simp only [Result.andThen_ok,hc1',Sem.run_pure]
  simp only [execOp,ho,Sem.run_bind];have e1:(parts.map fun x=>match x with | (i,x)=>(i,ρv x))=parts.map fun (p:Nat × Operand)=>(p.1,ρv p.2):=rfl;rw [e1,hb];rfl
 ·cases bm
theorem Zui (ho:o.op=.build t parts) (h:Dt e.P t (parts.toList.map fun p=>(p.1,ρ p.2))=some α):iM e U base S0 m o ρ α:=by
 unfold Dt at h;split at h
 ·rename_i cs bm hz;split at h
  ·rename_i aj;unfold uM at h;split at h
   ·rename_i gc hf;injection h with h;subst h
    unfold iJ at hz;simp only [Tav,Option.bind_eq_some_iff] at hz;obtain ⟨v,⟨i,hi,hv⟩,rfl⟩:=hz;exact ZkK ho hi hv bm aj (fun w S=>yZ v.cells.toList) hf
   ·cases h
  ·cases h
 ·cases h
def lp (P:Program) (t:TypeId):Option (List C):=((P.info? t).bind (·.zero)).map fun v=>v.cells.toList.map .lit
theorem Zh0 {w:World} {S:Nat->Prop}:∀ (l:List Value),aC w S (l.map .lit) l
 | []=>by simp [aC]
 | v::vs=>by simp only [Tbu,aC,aQ];exact ⟨trivial,Zh0 vs⟩
theorem ZkL:∀ (l:List (Nat × Value)) (i:Nat),l.map (·.1)=List.range' i l.length->l=((l.map (·.2)).zipIdx i).map fun x=>(x.2,x.1)
 | [],i,_=>rfl
 | (j,v)::l,i,h=>by
  simp only [Tbu,Tag,List.range'_succ,List.cons.injEq] at h;obtain ⟨rfl,h2⟩:=h;simp only [Tbu,List.zipIdx_cons];rw [<- ZkL l (j+1) h2]
theorem ZmY {n:Nat} (ho:o.op=.buildSlice t n parts) (h:C5 (jc e.P t) n (parts.toList.map fun p=>(p.1,ρ p.2))=some α) (he:e.Ok):iM e U base S0 m o ρ α:=by
 unfold C5 at h;split at h
 ·rename_i ety sz by' hb;split at h
  ·rename_i hn;unfold ZrE at h;split at h
   ·rename_i rows hp;injection h with h;subst h
    intro w S L ρv hC hr;obtain ⟨i,z,hu,hi,hz,bO,wZ,qy,fg,_⟩:=xy hb;simp only [Tay,Array.length_toList] at hn;obtain ⟨q1,q2,q3,q4,q5⟩:=Zi0 (w:=w) (S:=S) (L:=L) (vs:=parts.toList.map fun p=>ρv p.2) hp (by simp) (mapv (fun p hp=>hr p.2 (by simp [ho,Op.operands];exact ⟨p.1,by simpa using hp⟩)));simp only [Tay,Array.length_toList,List.map_map] at q1 q3;generalize dD:(parts.toList.map fun p=>ρv p.2)=vs at q4 q5
    have iP:vs.length=n:=by rw [<- dD];simp [hn.1]
    have rm:(parts.map fun (p:Nat × Operand)=>(p.1,ρv p.2)).toList=(vs.zipIdx 0).map fun x=>(x.2,x.1):=by
     have:=ZkL (parts.map fun (p:Nat × Operand)=>(p.1,ρv p.2)).toList 0 (by simpa [Function.comp_def] using q3);rw [this,<- dD];simp [Function.comp_def]
    have lS:(Instr.buildSlice t n (parts.map fun (p:Nat × Operand)=>(p.1,ρv p.2))).run e.P w=.ok (.slice (some ⟨w.heap.size,0,none⟩) n n) (w.alloc (.cells (vs.flatMap fun v=>v.cells.toList).toArray ety)):=by
     by_cases h0:n * i.size=0
     ·have kY:n=0:=by rw [bO] at h0;rcases Nat.mul_eq_zero.1 h0 with h | h <;> omega
      have hvn:vs=[]:=Tao om;have hsm:¬ (16777216 < n * i.size):=om;simp only [Instr.buildSlice,Sem.run_bind,underlying,run_program,Result.andThen_ok,hu,Sem.run_pure,sizeOf,typeInfo,hi,(by rw [rm,hvn];rfl:(parts.map fun (p:Nat × Operand)=>(p.1,ρv p.2)).toList=[])];subst kY;simp [Instr.fill,newRow,hvn,Result.andThen,Array.range_zero']
     ·exact m94
    have jR:∀ j u,(vs.flatMap fun v=>v.cells.toList)[j]?=some u->(w.alloc (.cells (vs.flatMap fun v=>v.cells.toList).toArray ety)).cell? ⟨w.heap.size,0+j,none⟩=some u:=fun j u hj=>by
     rw [Nat.zero_add];exact Zpk rfl (by simpa using hj)
    have oY:Below w.heap.size w (w.alloc (.cells (vs.flatMap fun v=>v.cells.toList).toArray ety)):=wF w _;generalize hW:w.alloc (.cells (vs.flatMap fun v=>v.cells.toList).toArray ety)=W at lS jR oY;have hzW:W.heap.size=w.heap.size+1:=by rw [<- hW];simp
    have hg:e.G W:=he.keep _ _ oY.size (fun b hE=>oY.block b (Tbd (hC.ein b hE) hC.bsz)) hC.g;have sQ:Kept e.D e.E w.heap.size w W:=Kept.of_below oY (fun _=>by rw [<- hW];exact Tai _);have Bb:Cls e U base S0 m W (fun b=>S b∨(w.heap.size<=b∧b < W.heap.size)) L:=hC.later sQ hg (fun _ h=>.inl h) (fun _ h=>h);have hq5:aC W (fun b=>S b∨(w.heap.size<=b∧b < W.heap.size)) rows.flatten (vs.flatMap fun v=>v.cells.toList):=aC.keep2 sQ.size (hC.cell sQ) (fun _ h=>.inl h) q5
    have aJ:(execOp ρv o).run e.P w=.ok (.value (.slice (some ⟨w.heap.size,0,none⟩) n n)) W:=by
     simp only [execOp,ho,Sem.run_bind];have e1:(parts.map fun x=>match x with | (i,x)=>(i,ρv x))=parts.map fun (p:Nat × Operand)=>(p.1,ρv p.2):=rfl;rw [e1,lS];rfl
    unfold gives;rw [aJ];refine ⟨_,⟨fun _ h=>.inl h,fun _ h=>h.elim .inl (fun q=>.inr q.1)⟩,Bb,sQ,?_⟩;simp only [ax,aW,aQ];refine ⟨⟨some ⟨w.heap.size,0,none⟩,n,n,rfl,om,Tai _,?_,fun h0=>⟨w.heap.size,0,rfl,.inr ⟨Tai _,om⟩,om,?_⟩⟩,_,_,rfl⟩
    ·have:n * 1<=n * sz:=Nat.mul_le_mul_left n fg;unfold maxLen;omega
    ·exact b7.of_flat (bn.of_vals _ _ 0 hq5 jR)
   ·cases h
  ·cases h
 ·cases h
theorem ZjJ {w:World} {S:Nat->Prop} {L:Lay} {x:Option Operand} {l:Int} (h:qz (x.map ρ)=some l) (hr:∀ y,x=some y->ax w S L (ρ y) (ρv y)):(x=none∧l=0)∨(x.map ρv=some (.int .i64 l)):=by
 cases x with
 | none=>simp [qz] at h;exact .inl ⟨rfl,h.symm⟩
 | some y =>
  simp only [Option.map_some,qz] at h;exact m137
theorem ZjK {w:World} {S:Nat->Prop} {L:Lay} {x:Option Operand} {l:Int} {n:Nat} (h:qr n (x.map ρ)=some l) (hr:∀ y,x=some y->ax w S L (ρ y) (ρv y)):(x=none∧l=n)∨(x.map ρv=some (.int .i64 l)):=by
 cases x with
 | none=>simp [qr] at h;exact .inl ⟨rfl,h.symm⟩
 | some y =>
  simp only [Option.map_some,qr] at h;exact m137
theorem b7.sub {w:World} {S:Nat->Prop} {b n:Nat} {rows:List (List C)} (hl:rowsLen n rows) (h:b7 w S b off rows) (l k:Nat):b7 w S b (off+l * n) ((rows.take k).drop l):=by
 by_cases lA:l < rows.length
 ·have e1:=oL hl;have h1:=h.flat;have e2:rows.flatten.drop (l * n)=(rows.drop l).flatten:=by
   have:rows.flatten=(rows.take l).flatten++(rows.drop l).flatten:=by rw [<- List.flatten_append,Tbm]
   have sa:(rows.take l).flatten.length=l * n:=by rw [oL (n:=n) (fun x hx=>hl x (List.mem_of_mem_take hx)),Taw];congr 1;omega
   rw [this,<- sa,List.drop_left]
  have h2:=h1.drop (l * n);rw [e2] at h2;have h3:b7 w S b (off+l * n) (rows.drop l):=b7.of_flat h2;rw [List.drop_take];have:∀ (rs:List (List C)) (o k:Nat),b7 w S b o rs->b7 w S b o (rs.take k):=by
   intro rs
   induction rs with
   | nil=>intro o k h;simp [b7]
   | cons r rs ih =>
    intro o k h
    cases k with
    | zero=>simp [b7]
    | succ k=>simp only [b7,Tbc] at h ⊢;exact ⟨h.1,ih _ k h.2⟩
  exact this _ _ _ h3
 ·have:(rows.take k).drop l=[]:=by apply List.drop_eq_nil_of_le;simp;omega
  rw [this];simp [b7]
theorem Zuj {lo hi mx:Option Operand} (ho:o.op=.slice t x lo hi mx) (h:Db e.P t (ρ x) (lo.map ρ) (hi.map ρ) (mx.map ρ)=some α):iM e U base S0 m o ρ α:=by
 have zU:x∈o.op.operands:=by simp [ho,Op.operands]
 have hlo0:∀ y,lo=some y->y∈o.op.operands:=fun y hy=>by simp [ho,Op.operands,hy]
 have hhi0:∀ y,hi=some y->y∈o.op.operands:=fun y hy=>by simp [ho,Op.operands,hy]
 have hmx0:∀ y,mx=some y->y∈o.op.operands:=fun y hy=>by simp [ho,Op.operands,hy]
 unfold Db at h;split at h
 ·rename_i n hn;split at h
  ·rename_i rows hx;split at h
   ·rename_i db;unfold dA at h;split at h
    ·rename_i D hD;injection h with h;subst h
     refine nk fun w S L ρv hC hr=>?_;have bj:=hr x zU;have jY:aQ w S (.sl rows) (ρv x):=by
      unfold zj at hx;split at hx
      ·rename_i r hq;injection hx with hx;subst hx;rw [hq] at bj;exact bj
      ·rename_i r hq;injection hx with hx;subst hx;rw [hq] at bj;exact bj.1
      ·cases hx
     have qq:∃ ety i,e.P.underlying t=some (.slice ety)∧e.P.info? ety=some i∧i.size=n:=by
      unfold jM at hn;split at hn
      ·rename_i ety hu;simp only [Tav] at hn;obtain ⟨i,hi,hs⟩:=hn;exact ⟨ety,i,hu,hi,hs⟩
      ·cases hn
     obtain ⟨ety,i,hu,eG,bO⟩:=qq;simp only [aQ] at jY;obtain ⟨a,len,cap,hv,bu,hc,hm,h4⟩:=jY;have dX:=ki.1 db.1;have key:∀ (l hh mm:Nat),l<=hh->hh<=rows.length->hh<=mm->mm<=cap->aQ w S (.sl ((rows.take hh).drop l)) (sliced a l hh mm n):=by
      intro l hh mm k1 k2 k3 k4;simp only [aQ,sliced];refine ⟨_,_,_,rfl,by simp;omega,om,om,fun h0=>?_⟩;obtain ⟨b,off,rfl,hs,hb,cn⟩:=h4 om;refine ⟨b,off+l * n,?_,hs,hb,cn.sub dX l hh⟩;rw [if_neg om];simp [Addr.add_at]
     have eD:=fun l (hq:qz (lo.map ρ)=some l)=>ZjJ (w:=w) (S:=S) (L:=L) (ρv:=ρv) hq (fun y hy=>hr y (hlo0 y hy));have lV:=fun l (hq:qr rows.length (hi.map ρ)=some l)=>ZjK (w:=w) (S:=S) (L:=L) (ρv:=ρv) hq (fun y hy=>hr y (hhi0 y hy));unfold AM at hD;split at hD
     ·rename_i l hh q1 q2 q3;split at hD
      ·rename_i hb;injection hD with hD;subst hD
       have DX:mx=none:=by simpa using q3
       refine ⟨sliced a l.toNat hh.toNat cap n,?_,key l.toNat hh.toNat cap om om om (Tai _)⟩;have oy:(Instr.sliceBounds true len cap (lo.map ρv) (hi.map ρv) (mx.map ρv)).run e.P w=.ok (l.toNat,hh.toNat,cap) w:=by
        subst DX;have eh:(hh.toNat:Int)=hh:=Int.toNat_of_nonneg om;have b1:0<=hh:=om;have b2:hh<=(cap:Int):=om;have b3:0<=l:=hb.1;have b4:l<=hh:=hb.2.1;rcases eD l q1 with ⟨rfl,rfl⟩ | e1 <;> rcases lV hh q2 with ⟨rfl,e2⟩ | e2
        ·simp [Instr.sliceBounds,e2,Result.andThen,bu]
        ·exact Cm
        ·simp [Instr.sliceBounds,e1,e2,Result.andThen,run_sliceBound,b3,(om:l<=(len:Int)),bu]
        ·exact Ci
       simp only [execOp,ho,Sem.run_bind,hv,Instr.sliceAt,Instr.slice,underlying,run_program,Result.andThen_ok,hu,Sem.run_pure,oy,sizeOf,typeInfo,eG,bO,sliced]
      ·cases hD
     ·rename_i l hh mm q1 q2 q3;split at hD
      ·rename_i hb;injection hD with hD;subst hD
       have hmh:mm=hh:=hb.2.2.2;subst hmh;rename_i mm;refine ⟨sliced a l.toNat mm.toNat mm.toNat n,?_,key l.toNat mm.toNat mm.toNat om om (Tai _) om,_,_,rfl⟩;have q3':∃ y,mx=some y∧iD (ρ y)=some mm:=by
        cases mx with
        | none=>simp at q3
        | some y=>exact ⟨y,rfl,by simpa using q3⟩
       obtain ⟨y,rfl,q4⟩:=q3';have hy:=hr y (hmx0 y rfl);unfold iD at q4;split at q4
       ·rename_i j hj;injection q4 with q4;subst q4
        rw [hj] at hy;have hy:=j8 hy;have eh:(j.toNat:Int)=j:=Int.toNat_of_nonneg om;have b1:0<=j:=om;have b2:j<=(cap:Int):=om;have b3:0<=l:=hb.1;have b4:l<=j:=hb.2.1;have oy:(Instr.sliceBounds true len cap (lo.map ρv) (hi.map ρv) (some (ρv y))).run e.P w=.ok (l.toNat,j.toNat,j.toNat) w:=by
         rcases eD l q1 with ⟨rfl,rfl⟩ | e1 <;> rcases lV j q2 with ⟨rfl,e2⟩ | e2
         ·simp at db
         ·simp [Instr.sliceBounds,hy,e2,Result.andThen,run_sliceBound,b1,b2,eh]
         ·simp at db
         ·simp [Instr.sliceBounds,hy,e1,e2,Result.andThen,run_sliceBound,b1,b2,b3,b4,eh]
        simp only [execOp,ho,Sem.run_bind,hv,Instr.sliceAt,Instr.slice,underlying,run_program,Result.andThen_ok,hu,Sem.run_pure,Option.map_some,oy,sizeOf,typeInfo,eG,bO,sliced]
       ·cases q4
      ·cases hD
     ·cases hD
    ·cases h
   ·cases h
  ·cases h
 ·rename_i hn;split at h
  ·rename_i bm;split at h
   ·rename_i s hs;unfold dA at h;split at h
    ·rename_i D hD;injection h with h;subst h
     refine nk fun w S L ρv hC hr=>?_;have bj:=hr x zU;unfold CQ at hs;split at hs
     ·rename_i s' iA;injection hs with hs;subst hs
      rw [iA] at bj;have bj:=j8 bj;have DX:mx=none:=by simpa using bm.2
      subst DX;have hu:e.P.underlying t=some .string:=by
       have:=bm.1;unfold Zr8 at this;split at this
       ·rename_i h;exact h
       ·cases this
      unfold Zpl at hD;split at hD
      ·rename_i l hh q1 q2;split at hD
       ·rename_i hb;injection hD with hD;subst hD
        have eD:=ZjJ (w:=w) (S:=S) (L:=L) (ρv:=ρv) q1 (fun y hy=>hr y (hlo0 y hy));have lV:=ZjK (w:=w) (S:=S) (L:=L) (ρv:=ρv) q2 (fun y hy=>hr y (hhi0 y hy));refine ⟨.string (s'.extract l.toNat hh.toNat),?_,by simp [ax,aW,aQ]⟩;have eh:(hh.toNat:Int)=hh:=Int.toNat_of_nonneg om;have b1:0<=hh:=om;have b2:hh<=(s'.size:Int):=om;have b3:0<=l:=hb.1;have b4:l<=hh:=hb.2.1;have oy:(Instr.sliceBounds false s'.size s'.size (lo.map ρv) (hi.map ρv) none).run e.P w=.ok (l.toNat,hh.toNat,s'.size) w:=by
         rcases eD with ⟨rfl,rfl⟩ | e1 <;> rcases lV with ⟨rfl,e2⟩ | e2
         ·simp [Instr.sliceBounds,e2,Result.andThen]
         ·exact Cm
         ·simp [Instr.sliceBounds,e1,e2,Result.andThen,run_sliceBound,b3,(om:l<=(s'.size:Int))]
         ·exact Ci
        simp only [execOp,ho,Sem.run_bind,bj,Instr.sliceAt,Instr.slice,underlying,run_program,Result.andThen_ok,hu,Sem.run_pure,Option.map_none,Option.isSome_none,Tam,if_false,oy]
       ·cases hD
      ·cases hD
     ·cases hs
    ·cases h
   ·cases h
  ·cases h
theorem Zpo {f:FuncId} {caps:Array Operand} (ho:o.op=.makeFunc (.func f) #[] caps) (h:DK f (ov (caps.toList.map ρ))=some α):iM e U base S0 m o ρ α:=by
 unfold DK at h;split at h
 ·rename_i cs ez;injection h with h;subst h
  refine nk fun w S L ρv hC hr=>?_;have h1:=ZnM (w:=w) (S:=S) (L:=L) (vs:=caps.toList.map ρv) ez (by simp) (th (fun p hp=>hr p (by simp [ho,Op.operands];simpa using hp)));refine ⟨.func (.func f) #[] (caps.toList.map ρv).toArray,?_,?_⟩
  ·simp [execOp,ho,Instr.makeFunc,Result.andThen,(by apply Array.toList_inj.1;simp:caps.map ρv=(caps.toList.map ρv).toArray)]
  ·simp only [ax,aW,aQ];exact ⟨_,rfl,h1⟩
 ·cases h
theorem Zy3 (ho:o.op=.call ⟨.builtin .len,args,ts⟩) (h:jz m (lE e.P ts) (args.toList.map fun x=>fu m (ρ x))=some α):iM e U base S0 m o ρ α:=by
 unfold jz at h;split at h
 ·rename_i p n cap au sY;injection h with h;subst h
  refine m92 fun w S L ρv hC hr x uf rx bj=>?_;have hv:=j8 bj;have ha:args.map ρv=#[ρv x]:=by
   apply Array.toList_inj.1;simp [uf]
  unfold lE at au;split at au
  ·rename_i t ht;split at au
   ·rename_i el hu;refine ⟨.int .i64 n,?_,by simp [ax,aW,aQ]⟩;exact m190
   ·cases au
   ·cases au
  ·cases au
 ·rename_i y bq au sY;unfold s5 at h;split at h
  ·rename_i rows fh;injection h with h;subst h
   refine m92 fun w S L ρv hC hr x uf rx bj=>?_;obtain ⟨a,cap,hv,_,_⟩:=ZC5 hC fh bj;have ha:args.map ρv=#[ρv x]:=by
    apply Array.toList_inj.1;simp [uf]
   unfold lE at au;split at au
   ·rename_i t ht;split at au
    ·rename_i el hu;refine ⟨.int .i64 rows.length,?_,by simp [ax,aW,aQ]⟩;exact m190
    ·cases au
    ·cases au
   ·cases au
  ·cases h
 ·rename_i s au sY;injection h with h;subst h
  refine m92 fun w S L ρv hC hr x uf rx bj=>?_;have bj:=j8 bj;have ha:args.map ρv=#[ρv x]:=by
   apply Array.toList_inj.1;simp [uf]
  unfold lE at au;split at au
  ·rename_i t ht;split at au
   ·cases au
   ·rename_i hu;refine ⟨.int .i64 s.size,?_,by simp [ax,aW,aQ]⟩;simp [execOp,ho,resolve,invoke,builtin,Builtin.len_,ha,ht,underlying,hu,bj,goInt,Result.andThen]
   ·cases au
  ·cases au
 ·cases h
theorem Zpp {α β:Type} {f:α->β} {l:List α} {x y:β} (h:l.map f=[x,y]):∃ p q,l=[p,q]∧f p=x∧f q=y:=by
 match l,h with
 | [p,q],h=>simp at h;exact ⟨p,q,rfl,h.1,h.2⟩
theorem Zy4 (ho:o.op=.call ⟨.builtin .max,args,ts⟩) (h:ti (args.toList.map ρ)=some α):iM e U base S0 m o ρ α:=by
 unfold ti at h;split at h
 ·rename_i x y sY;injection h with h;subst h
  refine nk fun w S L ρv hC hr=>?_;obtain ⟨p,q,ha,sY⟩:=Zpp sY
  ·refine m107 fun hp hq de=>?_
   refine ⟨.int .i64 (if y > x then y else x),?_,by simp [ax,aW,aQ]⟩;simp [execOp,ho,resolve,invoke,builtin,Builtin.max_,Builtin.max2,de,(j8 hp),(j8 hq),Result.andThen]
 ·cases h
theorem Zy5 (ho:o.op=.call ⟨.builtin .min,args,ts⟩) (h:tj (args.toList.map ρ)=some α):iM e U base S0 m o ρ α:=by
 unfold tj at h;split at h
 ·rename_i x y sY;injection h with h;subst h
  refine nk fun w S L ρv hC hr=>?_;obtain ⟨p,q,ha,sY⟩:=Zpp sY
  ·refine m107 fun hp hq de=>?_
   refine ⟨.int .i64 (if y < x then y else x),?_,by simp [ax,aW,aQ]⟩;simp [execOp,ho,resolve,invoke,builtin,Builtin.min_,Builtin.min2,de,(j8 hp),(j8 hq),Result.andThen]
 ·cases h
theorem Zmn (he:e.Ok) (h:zr e.P m ρ o.op=some α):iM e U base S0 m o ρ α:=by
 unfold zr at h;split at h
 ·rename_i x ho;injection h with h;subst h
  exact nk fun w S L ρv hC hr=>⟨ρv x,by simp [execOp,ho],hr x (by simp [ho,Op.operands])⟩
 ·rename_i c a b ho;unfold ZrC at h;split at h
  ·rename_i t hc;injection h with h;subst h
   refine nk fun w S L ρv hC hr=>?_;have h1:=hr c (by simp [ho,Op.operands]);rw [hc] at h1;have h1:=j8 h1
   cases t
   ·exact ⟨ρv b,by simp [execOp,ho,h1,asBool],by simpa using hr b (by simp [ho,Op.operands])⟩
   ·exact ⟨ρv a,by simp [execOp,ho,h1,asBool],by simpa using hr a (by simp [ho,Op.operands])⟩
  ·cases h
 ·rename_i ho;exact ZxB ho h
 ·rename_i ho;exact ZnO ho h
 ·rename_i ho;exact Zuf ho h
 ·rename_i ho;exact ZnP ho h
 ·rename_i ho;exact Zug ho h
 ·rename_i ho;exact Zuh ho h
 ·rename_i ho;exact ZxC ho h
 ·rename_i ho;exact Zq7 ho h
 ·rename_i ho;exact Zpn ho h
 ·rename_i ho;exact Zq8 ho h
 ·rename_i ho;exact Zuj ho h
 ·rename_i ho;exact Zui ho h
 ·rename_i ho;exact ZmY ho h he
 ·rename_i ho;exact Zpo ho h
 ·rename_i ho;exact Zy3 ho h
 ·rename_i ho;exact Zy4 ho h
 ·rename_i ho;exact Zy5 ho h
 ·cases h
end
theorem Zfn (w:World) (b:Nat) (cells:Array Value):(w.setRow b cells).drawn=w.drawn:=rfl
structure Sim (e:Env) (U:Nat->Prop) (w0:World) (S0:Nat->Prop) (nt:Nat) (σ:St) (a:Act) (w:World) (S:Nat->Prop) (L:Lay):Prop where
 cls:Cls e U w0.heap.size S0 σ.m w S L
 rel:∀ t,ax w S L (gs σ.s t) (a.tmps.getD t undef)
 size:a.tmps.size=nt
 defers:a.defers=[]
 kept:Kept e.D (fun b=>e.E b∨U b) w0.heap.size w0 w
def aN (e:Env) (U:Nat->Prop) (w0:World) (S0:Nat->Prop) (nt:Nat) (σ:St) (a:Act) (w:World):Prop:=∃ S L,Sim e U w0 S0 nt σ a w S L
def zm (k:Nat):A->Prop
 | .ref k' _=>k'=k
 | .buf k'=>k'=k
 | .row k' _ _ _=>k'=k
 | _=>False
theorem Am (k t:Nat):∀ (s:List (Nat × A)),(gs (bM k s) t=gs s t∧¬ zm k (gs s t))∨gs (bM k s) t=.undef
 | []=>by simp [bM,gs]
 | (t',x)::r=>by
  have ih:=Am k t r
  cases x <;> simp only [bM,gs] <;> by_cases ht:t=t' <;> simp only [ht,if_true,if_false,zm,not_false_eq_true,and_true,true_or]
  all_goals first
   | exact ih
   | (rename_i k' j sz off;by_cases hm:k'=k <;> (simp [hm];done))
   | (rename_i k' off;by_cases hm:k'=k <;> (simp [hm];done))
   | (rename_i k';by_cases hm:k'=k <;> (simp [hm];done))
theorem iL (k t:Nat):∀ (m:List (Nat × Bk)),gm (aA k m) t=if t=k then none else gm m t
 | []=>by simp [aA,gm]
 | (t',x)::r=>by
  have ih:=iL k t r;simp only [aA];by_cases h1:t'=k
  ·simp only [h1,if_true,ih,gm];by_cases h2:t=k
   ·simp [h2]
   ·simp [h2]
  ·simp only [h1,if_false,gm,ih];by_cases h2:t=t'
   ·simp only [h2,if_true];rw [if_neg h1]
   ·simp only [h2,if_false]
theorem tG {a:Act} {d t:Nat} {v:Value} (h:d < a.tmps.size):(a.put (some d) v).tmps.getD t undef=if t=d then v else a.tmps.getD t undef:=by
 by_cases ht:t=d
 ·subst ht;rw [Zkt h];simp
 ·rw [ZgQ (Ne.symm ht)];simp [ht]
section
variable {e:Env} {U:Nat->Prop} {w0:World} {S0:Nat->Prop} {nt:Nat} {σ:St} {a:Act} {w:World} {S:Nat->Prop} {L:Lay} {o:Oper}
theorem Sim.eval (h:Sim e U w0 S0 nt σ a w S L) (x:Operand):ax w S L (aL σ.s x) (a.eval x):=by
 cases x with
 | tmp t=>exact h.rel t
 | const v =>
  simp only [aL,Act.eval];unfold uF;split
  ·simp only [ax,aW,aQ];exact ⟨⟨none,0,0,rfl,rfl,Tai _,by decide,fun h=>absurd h (by decide)⟩,none,0,rfl⟩
  ·rename_i vs;exact ⟨vs.toList,rfl,yZ _⟩
  ·simp [ax,aW,aQ]
 | func f =>
  simp only [aL,Act.eval,ax,aW,aQ];exact ⟨[],rfl,by simp [aC]⟩
 | global g=>trivial
theorem Sim.touchM (h:Sim e U w0 S0 nt σ a w S L) {p:Nat->Prop} {m':List (Nat × Bk)} {L':Lay} {τ:Nat->Prop} (hS:∀ b,S b->S' b) (kv:∀ b,S' b->S b∨(τ b∧b < w.heap.size)∨(w.heap.size<=b∧b < w'.heap.size)) (iy:∀ k x,¬ p k->gm m' k=some x->gm σ.m k=some x)
  (hL:∀ k,¬ p k->L'.b k=L.b k∧L'.v k=L.v k) (hτ:∀ g,τ g->¬ S g∧¬ e.E g∧(w0.heap.size<=g∨U g)) (kA:∀ k x g,¬ p k->gm m' k=some x->τ g->¬ cQ L k x g)
  (hk:Kept e.D (fun b=>e.E b∨τ b) w.heap.size w w') (hg:e.G w') (eH:∀ k x,p k->gm m' k=some x->bL w' S' L' k x∧∀ g,cQ L' k x g->τ g∨w.heap.size<=g)
  (ym:∀ k k' x x' g,p k->p k'->gm m' k=some x->gm m' k'=some x'->cQ L' k x g->cQ L' k' x' g->k=k') :
  Cls e U w0.heap.size S0 m' w' S' L'∧Kept e.D (fun b=>e.E b∨U b) w0.heap.size w0 w'∧(∀ x v,(∀ k,p k->zm k x->L'.b k=L.b k∧L'.v k=L.v k)->ax w S L x v->ax w' S' L' x v):=by
 have hz:=hk.size;have hSb:∀ b,S b->w'.heap[b]?=w.heap[b]?:=fun b hs=>hk.block b (h.cls.sin b hs).1 (fun ht=>ht.elim (h.cls.sin b hs).2 (fun ht=>(hτ b ht).1 hs));have ky:∀ b o,S b->w'.cell? ⟨b,o,none⟩=w.cell? ⟨b,o,none⟩:=fun b o hs=>qE (hSb b hs) o;have lS:=h.cls.bsz;have other:∀ k x,¬ p k->gm m' k=some x->bL w' S' L' k x∧cQ L' k x=cQ L k x:=fun k x cj hx=>by
  have zU:=iy k x cj hx;have ho:=h.cls.own k x zU;obtain ⟨l1,l2⟩:=hL k cj;refine ⟨(ho.keep hz ky hS (fun g Bw=>?_)).lay l1 l2,Zy1 l1 l2⟩;obtain ⟨q1,q2⟩:=ho.lt Bw;refine ⟨hk.block g q1 (fun ht=>ht.elim (h.cls.notE zU Bw) (fun ht=>kA k x g cj hx ht Bw)),fun hs=>?_⟩;rcases kv g hs with h1 | ⟨h1,_⟩ | ⟨h1,_⟩
  ·exact q2 h1
  ·exact kA k x g cj hx h1 Bw
  ·omega
 have zy:∀ k x k' x' g,¬ p k->gm m' k=some x->cQ L' k x g->p k'->gm m' k'=some x'->cQ L' k' x' g->False:=fun k x k' x' g cj hx hb hp bj dC=>by
  rw [(other k x cj hx).2] at hb;rcases (eH k' x' hp bj).2 g dC with h1 | h1
  ·exact kA k x g cj hx h1 hb
  ·have:=((h.cls.own k x (iy k x cj hx)).lt hb).1;omega
 refine ⟨⟨fun b hs=>?_,fun b hs=>?_,h.cls.ein,h.cls.uin,Tbe lS hz,fun k x g hx hb=>?_,fun k x hx=>?_,fun k k' x x' g hx bj hb dC=>?_,hg⟩,
  h.kept.trans ⟨hk.os,hk.tape,hk.output,hk.drawn,hk.size,fun b hb hE=>hk.block b om (fun ht=>?_)⟩,fun x v hx hr=>?_⟩
 ·rcases kv b hs with h1 | ⟨h1,h2⟩ | ⟨h1,h2⟩
  ·exact ⟨Tbd (h.cls.sin b h1).1 hz,(h.cls.sin b h1).2⟩
  ·exact ⟨Tbd h2 hz,(hτ b h1).2.1⟩
  ·exact ⟨h2,fun hE=>by have:=h.cls.ein b hE;omega⟩
 ·rcases kv b hs with h1 | ⟨h1,h2⟩ | ⟨h1,h2⟩
  ·exact h.cls.sfr b h1
  ·rcases (hτ b h1).2.2 with q | q
   ·exact .inr (.inl q)
   ·exact .inr (.inr q)
  ·exact .inr (.inl om)
 ·by_cases cj:p k
  ·rcases (eH k x cj hx).2 g hb with h1 | h1
   ·exact (hτ g h1).2.2
   ·exact .inl om
  ·rw [(other k x cj hx).2] at hb;exact h.cls.mine k x g (iy k x cj hx) hb
 ·by_cases cj:p k
  ·exact (eH k x cj hx).1
  ·exact (other k x cj hx).1
 ·by_cases h1:p k
  ·by_cases h2:p k'
   ·exact ym k k' x x' g h1 h2 hx bj hb dC
   ·exact (zy k' x' k x g h2 bj dC h1 hx hb).elim
  ·by_cases h2:p k'
   ·exact (zy k x k' x' g h1 hx hb h2 bj dC).elim
   ·rw [(other k x h1 hx).2] at hb;rw [(other k' x' h2 bj).2] at dC;exact h.cls.inj k k' x x' g (iy k x h1 hx) (iy k' x' h2 bj) hb dC
 ·rcases ht with ht | ht
  ·exact hE (.inl ht)
  ·rcases (hτ b ht).2.2 with h1 | h1
   ·omega
   ·exact hE (.inr h1)
 ·have lay:∀ k,zm k x->L'.b k=L.b k∧L'.v k=L.v k:=fun k oz=>by
   by_cases cj:p k
   ·exact hx k cj oz
   ·exact hL k cj
  have h1:=hr.keep hz ky hS
  cases x with
  | undef=>trivial
  | no=>exact h1
  | d x=>exact h1
  | tup xs=>exact h1
  | ref k off=>have:=(lay k rfl).1;simp only [ax] at h1 ⊢;rw [this];exact h1
  | buf k=>have:=(lay k rfl).2;simp only [ax] at h1 ⊢;rw [this];exact h1
  | row k j sz off=>have:=(lay k rfl).2;simp only [ax] at h1 ⊢;rw [this];exact h1
theorem Sim.touchT (h:Sim e U w0 S0 nt σ a w S L) {d:Nat} {bk:Bk} {m':List (Nat × Bk)} {L':Lay} {τ:Nat->Prop} (hS:∀ b,S b->S' b) (kv:∀ b,S' b->S b∨(τ b∧b < w.heap.size)∨(w.heap.size<=b∧b < w'.heap.size)) (iy:∀ k x,k≠d->gm m' k=some x->gm σ.m k=some x) (sS:gm m' d=some bk)
  (hL:∀ k,k≠d->L'.b k=L.b k∧L'.v k=L.v k) (hτ:∀ g,τ g->¬ S g∧¬ e.E g∧(w0.heap.size<=g∨U g)) (kA:∀ k x g,k≠d->gm m' k=some x->τ g->¬ cQ L k x g)
  (hk:Kept e.D (fun b=>e.E b∨τ b) w.heap.size w w') (hg:e.G w') (eH:bL w' S' L' d bk) (fO:∀ g,cQ L' d bk g->τ g∨w.heap.size<=g) :
  Cls e U w0.heap.size S0 m' w' S' L'∧Kept e.D (fun b=>e.E b∨U b) w0.heap.size w0 w'∧(∀ x v,(zm d x->L'.b d=L.b d∧L'.v d=L.v d)->ax w S L x v->ax w' S' L' x v):=by
 obtain ⟨t1,t2,t3⟩:=h.touchM (p:=fun k=>k=d) hS kv iy hL hτ kA hk hg (fun k x hp hx=>by
  subst hp;rw [sS] at hx;injection hx with hx;subst hx;exact ⟨eH,fO⟩) (fun k k' x x' g hp ek _ _ _ _=>hp.trans ek.symm)
 exact ⟨t1,t2,fun x v hx=>t3 x v (fun k hp hk=>by subst hp;exact hx hk)⟩
theorem Sim.touchE (h:Sim e U w0 S0 nt σ a w S L) {d:Nat} {bk:Bk} {m':List (Nat × Bk)} {L':Lay} (hS:∀ b,S b->S' b) (kv:∀ b,S' b->S b∨(w.heap.size<=b∧b < w'.heap.size)) (iy:∀ k x,k≠d->gm m' k=some x->gm σ.m k=some x) (sS:gm m' d=some bk)
  (hL:∀ k,k≠d->L'.b k=L.b k∧L'.v k=L.v k) (hτ:∀ g,τ=some g->¬ S g∧¬ e.E g∧(w0.heap.size<=g∨U g)) (kA:∀ k x g,k≠d->gm m' k=some x->τ=some g->¬ cQ L k x g)
  (hk:Kept e.D (fun b=>e.E b∨τ=some b) w.heap.size w w') (hg:e.G w') (eH:bL w' S' L' d bk) (fO:∀ g,cQ L' d bk g->τ=some g∨w.heap.size<=g) :
  Cls e U w0.heap.size S0 m' w' S' L'∧Kept e.D (fun b=>e.E b∨U b) w0.heap.size w0 w'∧(∀ x v,(zm d x->L'.b d=L.b d∧L'.v d=L.v d)->ax w S L x v->ax w' S' L' x v):=h.touchT (τ:=fun g=>τ=some g) hS (fun b hb=>(kv b hb).elim .inl (fun q=>.inr (.inr q))) iy sS hL hτ kA hk hg eH fO
theorem Sim.touch (h:Sim e U w0 S0 nt σ a w S L) (he:e.Ok) {d:Nat} {bk:Bk} {m':List (Nat × Bk)} {L':Lay} (hS:∀ b,S b->S' b) (kv:∀ b,S' b->S b∨(w.heap.size<=b∧b < w'.heap.size)) (iy:∀ k x,k≠d->gm m' k=some x->gm σ.m k=some x) (sS:gm m' d=some bk)
  (hL:∀ k,k≠d->L'.b k=L.b k∧L'.v k=L.v k) (hτ:∀ g,τ=some g->¬ S g∧¬ e.E g∧(w0.heap.size<=g∨U g)) (kA:∀ k x g,k≠d->gm m' k=some x->τ=some g->¬ cQ L k x g)
  (hk:Kept e.D (fun b=>τ=some b) w.heap.size w w') (eH:bL w' S' L' d bk) (fO:∀ g,cQ L' d bk g->τ=some g∨w.heap.size<=g) :
  Cls e U w0.heap.size S0 m' w' S' L'∧Kept e.D (fun b=>e.E b∨U b) w0.heap.size w0 w'∧(∀ x v,(zm d x->L'.b d=L.b d∧L'.v d=L.v d)->ax w S L x v->ax w' S' L' x v):=by
 have lS:=h.cls.bsz;exact h.touchE hS kv iy sS hL hτ kA ⟨hk.os,hk.tape,hk.output,hk.drawn,hk.size,fun b hb hE=>hk.block b hb (fun ht=>hE (.inr ht))⟩ (he.keep _ _ hk.size (fun b hE=>hk.block b (Tbd (h.cls.ein b hE) lS) (fun ht=>(hτ b ht).2.1 hE)) h.cls.g) eH fO
theorem Sim.put (h:Sim e U w0 S0 nt σ a w S L) {α:A} {v:Value} (hv:ax w S L α v) {dst:Option Nat} (hd:∀ d,dst=some d->d < nt):Sim e U w0 S0 nt ⟨aI σ.s dst α,σ.m⟩ (a.put dst v) w S L:=by
 cases dst with
 | none=>exact h
 | some d =>
  refine ⟨h.cls,fun t=>?_,by simp [Act.put,h.size],by simp [Act.put,h.defers],h.kept⟩;rw [tG (by rw [h.size];exact hd d rfl:d < a.tmps.size)];simp only [aI,gs];split
  ·exact hv
  ·exact h.rel t
theorem Sim.later (h:Sim e U w0 S0 nt σ a w S L) (hC:Cls e U w0.heap.size S0 σ.m w' S' L) (hk:Kept e.D e.E w.heap.size w w') (hS:∀ b,S b->S' b):Sim e U w0 S0 nt σ a w' S' L :=
 ⟨hC,fun t=>(h.rel t).keep hk.size (h.cls.cell hk) hS,h.size,h.defers,h.kept.trans ⟨hk.os,hk.tape,hk.output,hk.drawn,hk.size,fun b hb hE=>hk.block b (by have:=h.cls.bsz;omega) (fun h1=>hE (.inl h1))⟩⟩
theorem Sim.bornE (h:Sim e U w0 S0 nt σ a w S L) {d:Nat} (hd:d < nt) {bk:Bk} {b':Nat} {v':Value} {s1:List (Nat × A)} {m1:List (Nat × Bk)} {α:A} (hS:∀ b,S b->S' b) (kv:∀ b,S' b->S b∨(w.heap.size<=b∧b < w'.heap.size))
  (zQ:∀ t,(gs s1 t=gs σ.s t)∨gs s1 t=.undef) (iy:∀ k x,gm m1 k=some x->gm σ.m k=some x)
  (hτ:∀ g,τ=some g->¬ S g∧¬ e.E g∧(w0.heap.size<=g∨U g)) (kA:∀ k x g,k≠d->gm m1 k=some x->τ=some g->¬ cQ L k x g)
  (hk:Kept e.D (fun b=>e.E b∨τ=some b) w.heap.size w w') (hg:e.G w') (eH:bL w' S' ⟨fun t=>if t=d then b' else L.b t,fun t=>if t=d then v' else L.v t⟩ d bk)
  (fO:∀ g,cQ ⟨fun t=>if t=d then b' else L.b t,fun t=>if t=d then v' else L.v t⟩ d bk g->τ=some g∨w.heap.size<=g)
  (hα:ax w' S' ⟨fun t=>if t=d then b' else L.b t,fun t=>if t=d then v' else L.v t⟩ α u) :
  aN e U w0 S0 nt ⟨(d,α)::bM d s1,(d,bk)::aA d m1⟩ (a.put (some d) u) w':=by
 have au:d < a.tmps.size:=by rw [h.size];exact hd
 obtain ⟨t1,t2,t3⟩:=h.touchE (d:=d) (bk:=bk) (m':=(d,bk)::aA d m1) (w':=w') (L':=⟨fun t=>if t=d then b' else L.b t,fun t=>if t=d then v' else L.v t⟩) (τ:=τ) hS kv
  (fun k x cj hx=>by simp only [gm,cj,if_false,iL] at hx;exact iy k x hx) (by simp [gm]) (fun k cj=>by simp [cj]) hτ
  (fun k x g cj hx=>kA k x g cj (by simpa only [gm,cj,if_false,iL] using hx)) hk hg eH fO
 refine ⟨S',_,t1,fun t=>?_,by simp [Act.put,h.size],by simp [Act.put,h.defers],t2⟩;rw [tG au];simp only [gs];by_cases ht:t=d
 ·simp only [ht,if_true];exact hα
 ·simp only [ht,if_false];rcases Am d t s1 with ⟨h1,h2⟩ | h1
  ·rw [h1];rcases zQ t with h3 | h3
   ·rw [h3];rw [h3] at h2;exact t3 _ _ (fun h=>absurd h h2) (h.rel t)
   ·rw [h3];trivial
  ·rw [h1];trivial
theorem Sim.born (h:Sim e U w0 S0 nt σ a w S L) (he:e.Ok) {d:Nat} (hd:d < nt) {bk:Bk} {b':Nat} {v':Value} {s1:List (Nat × A)} {m1:List (Nat × Bk)} {α:A} (hS:∀ b,S b->S' b) (kv:∀ b,S' b->S b∨(w.heap.size<=b∧b < w'.heap.size))
  (zQ:∀ t,(gs s1 t=gs σ.s t)∨gs s1 t=.undef) (iy:∀ k x,gm m1 k=some x->gm σ.m k=some x)
  (hτ:∀ g,τ=some g->¬ S g∧¬ e.E g∧(w0.heap.size<=g∨U g)) (kA:∀ k x g,k≠d->gm m1 k=some x->τ=some g->¬ cQ L k x g)
  (hk:Kept e.D (fun b=>τ=some b) w.heap.size w w') (eH:bL w' S' ⟨fun t=>if t=d then b' else L.b t,fun t=>if t=d then v' else L.v t⟩ d bk)
  (fO:∀ g,cQ ⟨fun t=>if t=d then b' else L.b t,fun t=>if t=d then v' else L.v t⟩ d bk g->τ=some g∨w.heap.size<=g)
  (hα:ax w' S' ⟨fun t=>if t=d then b' else L.b t,fun t=>if t=d then v' else L.v t⟩ α u) :
  aN e U w0 S0 nt ⟨(d,α)::bM d s1,(d,bk)::aA d m1⟩ (a.put (some d) u) w':=by
 have lS:=h.cls.bsz;exact h.bornE hd hS kv zQ iy hτ kA ⟨hk.os,hk.tape,hk.output,hk.drawn,hk.size,fun b hb hE=>hk.block b hb (fun ht=>hE (.inr ht))⟩ (he.keep _ _ hk.size (fun b hE=>hk.block b (Tbd (h.cls.ein b hE) lS) (fun ht=>(hτ b ht).2.1 hE)) h.cls.g) eH fO hα
theorem Sim.new (h:Sim e U w0 S0 nt σ a w S L) (he:e.Ok) {d:Nat} (hd:d < nt) {us:Array Value} {cs:List C} {ty:TypeId} (hu:aC w S cs us.toList) :
  aN e U w0 S0 nt ⟨(d,.ref d 0)::bM d σ.s,(d,.var none cs)::aA d σ.m⟩ (a.put (some d) (.pointer (some ⟨w.heap.size,0,none⟩))) (w.alloc (.cells us ty)):=by
 have hb:Below w.heap.size w (w.alloc (.cells us ty)):=wF w _;have ky:∀ b o,S b->(w.alloc (.cells us ty)).cell? ⟨b,o,none⟩=w.cell? ⟨b,o,none⟩:=fun b o hs=>qE (hb.block b (h.cls.sin b hs).1) o;refine h.born he hd (τ:=none) (b':=w.heap.size) (v':=undef) (fun _ h=>h) (fun _ h=>.inl h) (fun t=>.inl rfl) (fun k x h=>h) (by simp) (by simp) (Kept.of_below hb (fun _=>Tai _)) ?_ ?_ ?_
 ·simp only [bL,if_true];refine ⟨by simp,by simp,fun hs=>by have:=(h.cls.sin _ hs).1;omega,⟨us,ty,heap_alloc_new w _,by have:=hu.len;simpa using this⟩,?_⟩;have hv:=aC.keep2 hb.size ky (fun _ h=>h) hu;exact bn.of_vals cs us.toList 0 hv (fun j u hj=>by rw [Nat.zero_add];exact Zpk rfl (by simpa using hj))
 ·intro g hg;simp only [cQ,if_true] at hg;exact .inr om
 ·simp [ax]
theorem Sim.store (h:Sim e U w0 S0 nt σ a w S L) (he:e.Ok) {o:Option Nat} {cs us:List C} {vs:List Value} (hm:gm σ.m k=some (.var o cs)) (hl:off+us.length<=cs.length) (hu:aC w S us vs) (h1:∀ v∈vs,v.oneCell'=true) :
  ∃ w',(storeCells ⟨L.b k,off,none⟩ vs).run e.P w=.ok () w'∧aN e U w0 S0 nt ⟨σ.s,(k,.var o (cs.take off++us++cs.drop (off+us.length)))::aA k σ.m⟩ a w':=by
 have ho:=h.cls.own k _ hm;obtain ⟨oY,jC,Bp,⟨oq,ty,sM,hb5⟩,hb6⟩:=ho;have iP:=hu.len;have bm:=run_storeCells_at e.P (L.b k) off ty vs 0 oq w sM (by rw [hb5];omega) h1;simp only [Nat.add_zero] at bm;have bA:=Zgm w (L.b k) off ty vs oq sM (by rw [hb5];omega);refine ⟨_,bm,?_⟩;have ce:=setRow_heap w (L.b k) oq (oq.toList.take off++vs++oq.toList.drop (off+vs.length)).toArray ty _ sM
 have iN:(w.setRow (L.b k) (oq.toList.take off++vs++oq.toList.drop (off+vs.length)).toArray).drawn=w.drawn:=Zfn _ _ _;generalize hW:w.setRow (L.b k) (oq.toList.take off++vs++oq.toList.drop (off+vs.length)).toArray=W at bA ce iN ⊢;have bO:W.heap.size=w.heap.size:=bA.size;have ky:∀ b o,S b->W.cell? ⟨b,o,none⟩=w.cell? ⟨b,o,none⟩:=fun b o hs=>qE (bA.other b (fun e=>Bp (e ▸ hs))) o;have eH:bL W S L k (.var o (cs.take off++us++cs.drop (off+us.length))):=by
  simp only [bL];refine ⟨oY,om,Bp,⟨_,ty,ce,by simp;omega⟩,?_⟩;have hz:w.heap.size<=W.heap.size:=om;have r1:=bn.keepAt (S':=S) hz ky (fun _ h=>h) (L.b k) 0 (cs.take off) (fun j hj=>bA.old _ (.inl (by simp at hj;omega))) (hb6.take off);have r2:bn W S (L.b k) off us:=bn.of_vals us vs off (aC.keep2 hz ky (fun _ h=>h) hu) bA.new;have r3:=bn.keepAt (S':=S) hz ky (fun _ h=>h) (L.b k) _ (cs.drop (off+us.length)) (fun j hj=>bA.old _ (.inr om)) (hb6.drop (off+us.length))
  have eD:(cs.take off).length=off:=by simp;omega
  refine bn.append _ _ 0 (bn.append _ _ 0 r1 (by rw [eD,Nat.zero_add];exact r2)) ?_;rw [Tae,eD];exact r3
 obtain ⟨t1,t2,t3⟩:=h.touch he (d:=k) (bk:=.var o (cs.take off++us++cs.drop (off+us.length))) (m':=(k,.var o (cs.take off++us++cs.drop (off+us.length)))::aA k σ.m) (w':=W) (L':=L) (τ:=some (L.b k)) (fun _ h=>h) (fun _ h=>.inl h)
  (fun k' x cj hx=>by simp only [gm,cj,if_false,iL] at hx;exact hx) (by simp [gm]) (fun _ _=>⟨rfl,rfl⟩)
  (fun g hg=>by injection hg with hg;subst hg;exact ⟨Bp,h.cls.notE hm rfl,h.cls.mine k _ _ hm rfl⟩)
  (fun k' x g cj hx hg hb=>by
   injection hg with hg;subst hg
   simp only [gm,cj,if_false,iL] at hx;exact cj (h.cls.inj k' k x _ _ hx hm hb rfl))
  ⟨bA.os,bA.tape,bA.output,fun _=>Nat.le_of_eq iN.symm,om,fun b hb hE=>bA.other b (fun eq=>hE (by rw [eq]))⟩ eH (fun g hg=>.inl (by simpa [cQ] using hg))
 exact ⟨S,L,t1,fun t=>t3 _ _ (fun _=>⟨rfl,rfl⟩) (h.rel t),h.size,h.defers,t2⟩
theorem Zsa {n:Nat}:∀ {rows:List (List C)} {j:Nat} {r r':List C},rowsLen n rows->rows[j]?=some r->r'.length=n->(rows.set j r').flatten=rows.flatten.take (j * n)++r'++rows.flatten.drop (j * n+n)
 | [],_,_,_,_,h,_=>by simp at h
 | x::xs,0,r,r',hl,h,hr=>by
  simp only [List.set_cons_zero,List.flatten_cons,Nat.zero_mul,List.take_zero,Tah,Nat.zero_add];rw [<- ((hl x (by simp)).1),List.drop_left]
 | x::xs,j+1,r,r',hl,h,hr=>by
  have hx:=(hl x (by simp)).1;have ih:=Zsa (n:=n) (rows:=xs) (j:=j) (r:=r) (r':=r') (fun y hy=>hl y (by simp [hy])) (by simpa using h) hr;simp only [List.set_cons_succ,List.flatten_cons,ih];have e1:(j+1) * n=x.length+j * n:=by rw [hx,Nat.add_mul];omega
  have e3:(x++xs.flatten).drop ((j+1) * n+n)=xs.flatten.drop (j * n+n):=by rw [e1,Tbw,List.drop_length_add_append]
  rw [(by rw [e1,List.take_length_add_append]:(x++xs.flatten).take ((j+1) * n)=x++xs.flatten.take (j * n)),e3];simp only [Tbf]
theorem Sim.storeRow (h:Sim e U w0 S0 nt σ a w S L) (he:e.Ok) {o:Option (Option Addr × Nat)} {j g:Nat} {rows:List (List C)} {r us:List C} {vs:List Value} (hm:gm σ.m k=some (.buf o ety sz rows)) (hr:rows[j]?=some r) (hg:aP (L.v k)=some g) (hl:off+us.length<=r.length) (hu:aC w S us vs) (h1:us.all aY=true) :
  ∃ w',(storeCells ⟨g,j * sz+off,none⟩ vs).run e.P w=.ok () w'∧aN e U w0 S0 nt ⟨σ.s,(k,.buf o ety sz (rows.set j (r.take off++us++r.drop (off+us.length))))::aA k σ.m⟩ a w':=by
 obtain ⟨oY,fg,dX,h3⟩:=h.cls.own k _ hm;have iP:=hu.len;rcases h3 with ⟨h3,_⟩ | ⟨g',cap,bc,hv,DR,hg1,o7,ju,bu,qW,ez,cn⟩
 ·rw [h3] at hr;simp at hr
 ·have hgg:g'=g:=by rw [hv] at hg;simp only [aP] at hg;rw [if_neg om] at hg;injection hg
  subst hgg;have mZ:=(dX r (Tac hr));have lz:j < rows.length:=(Tad.1 hr).1;have tY:=oL dX;have eY:j * sz+sz<=rows.length * sz:=by have:=Nat.mul_le_mul_right sz (show j+1<=rows.length by omega);rw [Nat.add_mul] at this;omega
  have hin2:rows.length * sz<=cap * sz:=Nat.mul_le_mul_right sz bu;have bm:=run_storeCells_at e.P g' (j * sz+off) ety vs 0 bc w ju (by rw [ez];omega) (C1 h1 hu);simp only [Nat.add_zero] at bm;have bA:=Zgm w g' (j * sz+off) ety vs bc ju (by rw [ez];omega);refine ⟨_,bm,?_⟩;have ce:=setRow_heap w g' bc (bc.toList.take (j * sz+off)++vs++bc.toList.drop (j * sz+off+vs.length)).toArray ety _ ju
  have iN:(w.setRow g' (bc.toList.take (j * sz+off)++vs++bc.toList.drop (j * sz+off+vs.length)).toArray).drawn=w.drawn:=Zfn _ _ _;generalize hW:w.setRow g' (bc.toList.take (j * sz+off)++vs++bc.toList.drop (j * sz+off+vs.length)).toArray=W at bA ce iN ⊢;have bO:W.heap.size=w.heap.size:=bA.size;have ky:∀ b o,S b->W.cell? ⟨b,o,none⟩=w.cell? ⟨b,o,none⟩:=fun b o hs=>qE (bA.other b (fun e=>o7 (e ▸ hs))) o
  have tU:cQ L k (.buf o ety sz rows) g':=hg;have BQ:(r.take off++us++r.drop (off+us.length)).length=sz:=by simp;omega
  have eH:bL W S L k (.buf o ety sz (rows.set j (r.take off++us++r.drop (off+us.length)))):=by
   simp only [bL];refine ⟨fun a ha=>by rw [oY a ha];simp,fg,fun x hx=>?_,.inr ⟨g',cap,_,by rw [hv];simp,DR,om,o7,ce,by simp;omega,qW,by simp;omega,?_⟩⟩
   ·rcases List.mem_or_eq_of_mem_set hx with hx | rfl
    ·exact dX x hx
    ·refine ⟨BQ,?_⟩;simp only [List.all_append,h1,Tar,and_true];exact ⟨List.all_eq_true.2 fun y hy=>List.all_eq_true.1 mZ.2 y (List.mem_of_mem_take hy),List.all_eq_true.2 fun y hy=>List.all_eq_true.1 mZ.2 y (List.mem_of_mem_drop hy)⟩
   ·apply b7.of_flat;rw [Zsa dX hr BQ];have hz:w.heap.size<=W.heap.size:=om;have hf:=cn.flat;have rr:=b7.get rows 0 j r (fun x hx=>(dX x hx).1) cn hr;rw [Nat.zero_add] at rr;have r1:=bn.keepAt (S':=S) hz ky (fun _ h=>h) g' 0 (rows.flatten.take (j * sz)) (fun i hi=>bA.old _ (.inl (by simp at hi;omega))) (hf.take (j * sz));have r2:=bn.keepAt (S':=S) hz ky (fun _ h=>h) g' (j * sz) (r.take off) (fun i hi=>bA.old _ (.inl (by simp at hi;omega))) (rr.take off)
    have r3:bn W S g' (j * sz+off) us:=bn.of_vals us vs _ (aC.keep2 hz ky (fun _ h=>h) hu) bA.new;have r4:=bn.keepAt (S':=S) hz ky (fun _ h=>h) g' _ (r.drop (off+us.length)) (fun i hi=>bA.old _ (.inr om)) (rr.drop (off+us.length));have r5:=bn.keepAt (S':=S) hz ky (fun _ h=>h) g' _ (rows.flatten.drop (j * sz+sz)) (fun i hi=>bA.old _ (.inr om)) (hf.drop (j * sz+sz));have l1:(rows.flatten.take (j * sz)).length=j * sz:=by rw [Taw,tY];omega
    have l2:(r.take off).length=off:=by simp;omega
    have l3:(r.take off++us).length=off+us.length:=by simp;omega
    refine bn.append _ _ 0 (bn.append _ _ 0 r1 ?_) ?_
    ·rw [l1,Nat.zero_add];refine bn.append _ _ _ (bn.append _ _ _ r2 ?_) ?_
     ·rw [l2];exact r3
     ·rw [l3];exact r4
    ·rw [Tae,l1,BQ];exact r5
  obtain ⟨t1,t2,t3⟩:=h.touch he (d:=k) (bk:=.buf o ety sz (rows.set j (r.take off++us++r.drop (off+us.length)))) (m':=(k,.buf o ety sz (rows.set j (r.take off++us++r.drop (off+us.length))))::aA k σ.m) (w':=W) (L':=L) (τ:=some g') (fun _ h=>h) (fun _ h=>.inl h)
   (fun k' x cj hx=>by simp only [gm,cj,if_false,iL] at hx;exact hx) (by simp [gm]) (fun _ _=>⟨rfl,rfl⟩)
   (fun q hq=>by injection hq with hq;subst hq;exact ⟨o7,h.cls.notE hm tU,h.cls.mine k _ _ hm tU⟩)
   (fun k' x q cj hx hq hb=>by
    injection hq with hq;subst hq
    simp only [gm,cj,if_false,iL] at hx;exact cj (h.cls.inj k' k x _ _ hx hm hb tU))
   ⟨bA.os,bA.tape,bA.output,fun _=>Nat.le_of_eq iN.symm,om,fun b hb hE=>bA.other b (fun eq=>hE (by rw [eq]))⟩ eH (fun q hq=>.inl (by rw [<- hq];exact hg.symm))
  exact ⟨S,L,t1,fun t=>t3 _ _ (fun _=>⟨rfl,rfl⟩) (h.rel t),h.size,h.defers,t2⟩
end
theorem m238 {p:Prop} (h:p:=by
 rcases Am k t σ.s with ⟨h1,_⟩ | h1
 ·exact .inl h1
 ·exact .inr h1):p:=h
section
variable {e:Env} {U:Nat->Prop} {w0:World} {S0:Nat->Prop} {nt:Nat} {σ:St} {a:Act} {w:World} {S:Nat->Prop} {L:Lay} {o:Oper}
theorem Zpq (k:Nat) (bk:Bk) (t:Nat):∀ (s:List (Nat × A)),gs (eF k bk s) t=fk k bk (gs s t)
 | []=>by simp [eF,gs,fk]
 | (t',x)::r=>by
  simp only [eF,gs];split
  ·rfl
  ·exact Zpq k bk t r
theorem ei.rep {rows:List (List C)} {v:Value} (h:ei w S ety sz rows v):aQ w (fun b=>S b∨aP v=some b) (.sl rows) v:=by
 obtain ⟨h1,h2,h3⟩:=h;simp only [aQ];rcases h3 with ⟨rfl,a,rfl⟩ | ⟨g,cap,bc,rfl,hc,hg,hs,hh,hl,hm,ez,hr⟩
 ·exact ⟨a,0,0,rfl,rfl,Tai _,Taj _,fun h=>absurd h (by decide)⟩
 ·refine ⟨_,_,_,rfl,rfl,hl,hm,fun _=>⟨g,0,rfl,.inr ?_,hg,?_⟩⟩
  ·simp only [aP];rw [if_neg om]
  ·exact b7.of_flat (bn.keep2 (Tai _) (fun _ _ _=>rfl) (fun _ h=>.inl h) g (fun _=>rfl) 0 _ hr.flat)
theorem Sim.freeze2 (h:Sim e U w0 S0 nt σ a w S L) (he:e.Ok) {bk:Bk} (hm:gm σ.m k=some bk):∃ S' L',Sim e U w0 S0 nt ⟨eF k bk σ.s,aA k σ.m⟩ a w S' L'∧∀ b,S' b ↔ S b∨cQ L k bk b:=by
 have ho:=h.cls.own k bk hm;have eY:∀ b,S b->S b∨cQ L k bk b:=fun _ h=>.inl h;refine ⟨fun b=>S b∨cQ L k bk b,L,⟨⟨fun b hb=>?_,fun b hb=>?_,h.cls.ein,h.cls.uin,h.cls.bsz,fun k' x g hx hg=>?_,fun k' x hx=>?_,fun k1 k2 x x' g hx bj=>?_,h.cls.g⟩,fun t=>?_,h.size,h.defers,h.kept⟩,fun _=>Iff.rfl⟩
 ·rcases hb with hb | hb
  ·exact h.cls.sin b hb
  ·exact ⟨(ho.lt hb).1,h.cls.notE hm hb⟩
 ·rcases hb with hb | hb
  ·exact h.cls.sfr b hb
  ·rcases h.cls.mine k bk b hm hb with h1 | h1
   ·exact .inr (.inl h1)
   ·exact .inr (.inr h1)
 ·rw [iL] at hx;split at hx
  ·cases hx
  ·exact h.cls.mine k' x g hx hg
 ·rw [iL] at hx;split at hx
  ·cases hx
  ·rename_i bq;have bZ:=h.cls.own k' x hx;refine bZ.keep (Tai _) (fun _ _ _=>rfl) eY (fun g hg=>⟨rfl,fun hs=>?_⟩);rcases hs with hs | hs
   ·exact (bZ.lt hg).2 hs
   ·exact bq (h.cls.inj k' k x bk g hx hm hg hs)
 ·rw [iL] at hx bj;split at hx
  ·cases hx
  ·split at bj
   ·cases bj
   ·exact h.cls.inj k1 k2 x x' g hx bj
 ·show ax w _ L (gs (eF k bk σ.s) t) _;rw [Zpq];have hr:=h.rel t;generalize gs σ.s t=x at hr ⊢;generalize a.tmps.getD t undef=v at hr ⊢;have keep:ax w (fun b=>S b∨cQ L k bk b) L x v:=hr.keep (Tai _) (fun _ _ _=>rfl) eY
  cases x with
  | undef=>trivial
  | no=>exact hr
  | d x=>exact keep
  | tup xs=>exact keep
  | ref k' off =>
   simp only [fk];by_cases hk:k'=k
   ·simp only [hk,if_true];subst hk
    cases bk with
    | var o cs =>
     obtain ⟨q0,q1,q2,q3,q4⟩:=ho;have hr:v=.pointer (some ⟨L.b k',off,none⟩):=hr;simp only [ax,aW,aQ];refine ⟨L.b k',off,hr,.inr rfl,q1,?_⟩;have:=q4.drop off;rw [Nat.zero_add] at this;exact bn.keep2 (Tai _) (fun _ _ _=>rfl) eY _ (fun _=>rfl) _ _ this
    | buf o ety sz rows=>trivial
    | set E G=>trivial
   ·simp only [hk,if_false];exact hr
  | buf k' =>
   simp only [fk];by_cases hk:k'=k
   ·simp only [hk,if_true];subst hk
    cases bk with
    | var o cs=>trivial
    | set E G=>trivial
    | buf o ety sz rows =>
     have hr:v=L.v k':=hr;rw [hr];exact ei.rep ho.2
   ·simp only [hk,if_false];exact hr
  | row k' j sz off =>
   simp only [fk];by_cases hk:k'=k
   ·simp only [hk,if_true];trivial
   ·simp only [hk,if_false];exact hr
theorem Sim.freeze1 (h:Sim e U w0 S0 nt σ a w S L) (he:e.Ok) {bk:Bk} (hm:gm σ.m k=some bk):aN e U w0 S0 nt ⟨eF k bk σ.s,aA k σ.m⟩ a w :=
 (h.freeze2 he hm).elim fun S' q=>q.elim fun L' q=>⟨S',L',q.1⟩
theorem aN.frz (h:aN e U w0 S0 nt σ a w) (he:e.Ok) (k:Nat):aN e U w0 S0 nt (frz k σ) a w:=by
 obtain ⟨S,L,h'⟩:=id h;unfold Proofs.YtbecmfjokofihaaGreatDoor.frz sK;split
 ·rename_i bk hm;exact h'.freeze1 he hm
 ·exact h
theorem aN.frzs (he:e.Ok):∀ (ks:List Nat) (σ:St),aN e U w0 S0 nt σ a w->aN e U w0 S0 nt (frzs ks σ) a w
 | [],σ,h=>h
 | k::ks,σ,h=>aN.frzs he ks _ (h.frz he k)
theorem Sim.rename (h:Sim e U w0 S0 nt σ a w S L) (he:e.Ok) {o:Option (Option Addr × Nat)} {d:Nat} {rows:List (List C)} (hd:d < nt) (hm:gm σ.m k=some (.buf o ety sz rows)):aN e U w0 S0 nt (ownE σ k d (.buf o ety sz rows)) (a.put (some d) (L.v k)) w:=by
 have ho:=h.cls.own k _ hm;refine h.born he hd (τ:=aP (L.v k)) (b':=0) (v':=L.v k) (s1:=bM k σ.s) (m1:=aA k σ.m) (fun _ h=>h) (fun _ h=>.inl h) (fun t=>?_) (fun k' x hx=>?_) (fun g hg=>⟨(ho.lt (g:=g) hg).2,h.cls.notE hm hg,h.cls.mine k _ g hm hg⟩) (fun k' x g cj hx hg hb=>?_) (Kept.refl _ _ _ _) ?_ (fun g hg=>.inl (by simpa [cQ] using hg)) (by simp [ax])
 ·exact m238
 ·rw [iL] at hx;split at hx
  ·cases hx
  ·exact hx
 ·rw [iL] at hx;split at hx
  ·cases hx
  ·rename_i bq;exact bq (h.cls.inj k' k x _ g hx hm hb hg)
 ·simp only [bL,if_true];exact ho
theorem Sim.empty (h:Sim e U w0 S0 nt σ a w S L) (he:e.Ok) {d:Nat} {v:Value} (hd:d < nt) (hs:0 < sz) (hv:aW w S (.clip []) v):aN e U w0 S0 nt ⟨(d,.buf d)::bM d σ.s,(d,.buf none ety sz [])::aA d σ.m⟩ (a.put (some d) v) w:=by
 obtain ⟨h1,b,n,rfl⟩:=hv;obtain ⟨A,n',cap,hv,hn,_⟩:=h1.form;injection hv with q1 q2 q3
 have kY:n=0:=by rw [q2];simpa using hn.symm
 subst kY;refine h.born he hd (τ:=none) (b':=0) (v':=.slice b 0 0) (fun _ h=>h) (fun _ h=>.inl h) (fun t=>.inl rfl) (fun k x h=>h) (by simp) (by simp) (Kept.refl _ _ _ _) ?_ (fun g hg=>?_) (by simp [ax])
 ·simp only [bL,if_true];exact ⟨by simp,hs,rowsLen.nil,.inl ⟨rfl,b,rfl⟩⟩
 ·simp only [cQ,if_true] at hg
  cases b <;> simp [aP] at hg
end
theorem m197 {p:Prop} (h:p:=by
 have h2:(rows.length+ys.length) * i.bytes<=1073741824 * 4096:=Nat.mul_le_mul hm30 om;omega):p:=h
theorem m144 {p:Prop} (h:p:=by
 exact run_firstCells_some w' sz rows.length _ _ _ aF (by rw [h5.len,oL hl]) (fun j u hj=>by rw [hw,Addr.add_at];exact h6 j u hj)):p:=h
theorem m126 {p:Prop} (h:p:=by
 rw [fj];refine ⟨_,_,aJ,⟨fg,by simpa using rowsLen.nil,.inl ⟨by simp,b,rfl⟩⟩,none,Kept.refl _ _ _ _,by simp,fun g hg=>?_⟩;cases b <;> simp [aP] at hg):p:=h
section
variable {P:Program} {w:World}
theorem ZC6 (ts:Array TypeId) (t ty e:TypeId) (i:TypeInfo) (z:Value) (h0:ts[0]?=some t) (h1:ts[1]?=some t) (ht:P.underlying t=some (.slice e)) (hi:P.info? e=some i) (hz:i.zero=some z) (b:Option Addr) (bJ dP:Nat) (cc:List Value) (x:Value) (n:Nat) (aF:List Value)
  (ix:(Builtin.lenOf x).run P w=.ok n w) (xb:(Builtin.firstCells i.size bJ (.slice b bJ dP)).run P w.drew=.ok cc.toArray w.drew) (hf:(Builtin.firstCells i.size n x).run P w.drew=.ok aF.toArray w.drew) (hg:dP < bJ+n) (h63:((bJ+n:Nat):Int)<=9223372036854775807) (iq:Builtin.nextslicecap (bJ+n) dP * i.bytes<=281474976710656) :
  (Builtin.append_ ts ty #[.slice b bJ dP,x]).run P w=.ok (.slice (some ⟨w.heap.size,0,none⟩) (bJ+n) (grownCap w (bJ+n) dP e)) (w.drew.alloc (.cells (cc.toArray++aF.toArray++Builtin.zeroCells z.cells (grownCap w (bJ+n) dP e - (bJ+n))) e)):=by
 have hn:¬ (bJ+n<=dP):=om;have A8:¬ (9223372036854775807 < ((bJ:Int)+(n:Int))):=om;have A7:¬ (281474976710656 < Builtin.nextslicecap (bJ+n) dP * i.bytes):=om;have e1:cc.toArray++(aF.toArray++Builtin.zeroCells z.cells (grownCap w (bJ+n) dP e - (bJ+n)))=(cc++aF).toArray++Builtin.zeroCells z.cells (grownCap w (bJ+n) dP e - (bJ+n)):=by
  apply Array.toList_inj.1;simp
 unfold grownCap at e1;simp [Builtin.append_,h0,h1,run_underlying ht,sizeOf,typeInfo,zeroValue,hi,hz,ix,hn,A8,A7,Question.forced,hf,xb,newRow,grownCap,e1]
theorem ZC7 (ts:Array TypeId) (t ty e:TypeId) (i:TypeInfo) (h0:ts[0]?=some t) (h1:ts[1]?=some t) (ht:P.underlying t=some (.slice e)) (hi:P.info? e=some i) (g bJ dP:Nat) (bc:Array Value) (hg:w.heap[g]?=some (.cells bc e (0,0))) (x:Value) (n:Nat) (aF:List Value)
  (ix:(Builtin.lenOf x).run P w=.ok n w) (hf:(Builtin.firstCells i.size n x).run P w=.ok aF.toArray w) (rk:∀ u∈aF,u.oneCell'=true) (iz:bJ+n<=dP) (iq:bJ * i.size+aF.length<=bc.size) :
  (Builtin.append_ ts ty #[.slice (some ⟨g,0,none⟩) bJ dP,x]).run P w=.ok (.slice (some ⟨g,0,none⟩) (bJ+n) dP) (w.setRow g (bc.toList.take (bJ * i.size)++aF++bc.toList.drop (bJ * i.size+aF.length)).toArray):=by
 have bm:=run_storeCells_at P g (bJ * i.size) e aF 0 bc w hg (by simpa using iq) rk;simp only [Nat.add_zero] at bm;simp [Builtin.append_,h0,h1,run_underlying ht,sizeOf,typeInfo,hi,ix,iz,hf,Addr.add_lit,bm]
theorem ZC8 (ts:Array TypeId) (t ty e:TypeId) (i:TypeInfo) (h0:ts[0]?=some t) (h1:ts[1]?=some t) (ht:P.underlying t=some (.slice e)) (hi:P.info? e=some i) (b:Option Addr) (x:Value)
  (ix:(Builtin.lenOf x).run P w=.ok 0 w) (hf:(Builtin.firstCells i.size 0 x).run P w=.ok #[] w) :
  (Builtin.append_ ts ty #[.slice b 0 0,x]).run P w=.ok (.slice b 0 0) w:=by
 cases b <;> simp [Builtin.append_,h0,h1,run_underlying ht,sizeOf,typeInfo,hi,ix,hf,storeCells]
end
section
variable {e:Env} {U:Nat->Prop} {w0:World} {S0:Nat->Prop} {nt:Nat} {σ:St} {a:Act} {w:World} {S:Nat->Prop} {L:Lay} {o:Oper}
theorem ZiG {rows:List (List C)} {v:Value} (hl:rowsLen sz rows) (h:aQ w S (.sl rows) v):∃ (b:Option Addr) (cap:Nat) (aF:List Value),v=.slice b rows.length cap∧rows.length<=cap∧cap<=maxLen∧aC w S rows.flatten aF∧∀ (P:Program) (w':World),(∀ p,w'.cell? p=w.cell? p)->(Builtin.firstCells sz rows.length v).run P w'=.ok aF.toArray w':=by
 simp only [aQ] at h;obtain ⟨A,n,cap,rfl,hn,hc,hm,h4⟩:=h;subst hn;by_cases h0:0 < rows.length
 ·obtain ⟨b,off,rfl,hs,hb,hr⟩:=h4 h0;obtain ⟨aF,h5,h6⟩:=hr.flat.vals;refine ⟨_,_,aF,rfl,hc,hm,h5,fun P w' hw=>?_⟩;exact m144
 ·have hr:rows=[]:=Tao om;subst hr;refine ⟨_,_,[],rfl,hc,hm,by simp [aC],fun P w' _=>?_⟩
  cases A <;> simp [Builtin.firstCells,loadCells,loadCellsFrom]
theorem ZkM {rows:List (List C)} {v:Value} (h:ei w S ety sz rows v):∃ (b:Option Addr) (cap:Nat) (aF:List Value),v=.slice b rows.length cap∧rows.length<=cap∧cap<=maxLen∧aC w S rows.flatten aF∧∀ (P:Program) (w':World),(∀ p,w'.cell? p=w.cell? p)->(Builtin.firstCells sz rows.length v).run P w'=.ok aF.toArray w':=by
 obtain ⟨h1,hl,h3⟩:=h;rcases h3 with ⟨rfl,b,rfl⟩ | ⟨g,cap,bc,rfl,hc,hg,hs,hh,sR,hm,ez,hr⟩
 ·refine ⟨_,_,[],rfl,Tai _,Taj _,by simp [aC],fun P w' _=>?_⟩
  cases b <;> simp [Builtin.firstCells,loadCells,loadCellsFrom]
 ·obtain ⟨aF,h5,h6⟩:=hr.flat.vals;refine ⟨_,_,aF,rfl,sR,hm,h5,fun P w' hw=>?_⟩;exact m144
theorem Zp6 (hC:Cls e U w0.heap.size S0 σ.m w S L) {y:A} {v:Value} {ys:List (List C)} (h:oJ σ.m y=some ys) (hr:ax w S L y v) (hl:rowsLen sz ys) :
  ∃ (b:Option Addr) (cap:Nat) (aF:List Value),v=.slice b ys.length cap∧aC w S ys.flatten aF∧∀ (P:Program) (w':World),(∀ p,w'.cell? p=w.cell? p)->(Builtin.firstCells sz ys.length v).run P w'=.ok aF.toArray w':=by
 unfold oJ at h;split at h
 ·injection h with h;subst h
  obtain ⟨b,cap,aF,q1,_,_,q2,q3⟩:=ZiG hl hr;exact ⟨b,cap,aF,q1,q2,q3⟩
 ·injection h with h;subst h
  obtain ⟨b,cap,aF,q1,_,_,q2,q3⟩:=ZiG hl hr.1;exact ⟨b,cap,aF,q1,q2,q3⟩
 ·rename_i k;unfold pq at h;split at h
  ·rename_i o' e' gU rows' hm;injection h with h;subst h
   have hr:v=L.v k:=hr;have ho:ei w S e' gU rows' (L.v k):=(hC.own k _ hm).2;rw [hr];by_cases h0:rows'=[]
   ·subst h0;obtain ⟨_,_,h3⟩:=ho;rcases h3 with ⟨_,b,hv⟩ | ⟨g,cap,bc,hv,_⟩
    ·refine ⟨b,0,[],hv,by simp [aC],fun P w' _=>?_⟩;rw [hv]
     cases b <;> simp [Builtin.firstCells,loadCells,loadCellsFrom]
    ·refine ⟨_,cap,[],hv,by simp [aC],fun P w' _=>?_⟩;rw [hv];simp [Builtin.firstCells,loadCells,loadCellsFrom]
   ·have kf:gU=sz:=by
     obtain ⟨r,mw⟩:=List.exists_mem_of_ne_nil _ h0;have h1:=(hl r mw).1;have h2:=(ho.2.1 r mw).1;omega
    subst kf;obtain ⟨b,cap,aF,q1,_,_,q2,q3⟩:=ZkM ho;exact ⟨b,cap,aF,q1,q2,q3⟩
  ·cases h
 ·cases h
theorem ZiH (w:World) (p:Addr):w.drew.cell? p=w.cell? p:=by simp
theorem ZkN {W:World} {n:Nat} {rows:List (List C)} {cells rest:List Value} {w:World} (hs:0 < sz) (hl:rowsLen sz rows) (hz:w.heap.size<=W.heap.size) (hk:∀ b o,S b->W.cell? ⟨b,o,none⟩=w.cell? ⟨b,o,none⟩) (hr:aC w S rows.flatten cells) (hc:rows.length<=cap) (hm:cap<=maxLen) (h0:0 < cap) {g:Nat} (hg:g < W.heap.size) (hgs:¬ S g)
  (hh:W.heap[g]?=some (.cells (cells++rest).toArray ety (0,0))) (ez:(cells++rest).length=cap * sz):ei W S ety sz rows (.slice (some ⟨g,0,none⟩) rows.length cap):=by
 refine ⟨hs,hl,.inr ⟨g,cap,_,rfl,h0,hg,hgs,hh,hc,hm,by simpa using ez,?_⟩⟩;apply b7.of_flat;refine bn.of_vals _ _ 0 (aC.keep2 hz hk (fun _ h=>h) hr) (fun j u hj=>?_);rw [Nat.zero_add];have ka:j < cells.length:=(Tad.1 hj).1;unfold World.cell?;simp only [hh];simp [Tbp ka,hj]
theorem ZhB (he:e.Ok) (hC:Cls e U w0.heap.size S0 σ.m w S L) {ty:TypeId} {by':Nat} (h0:ts[0]?=some t) (h1:ts[1]?=some t) (hb:jc e.P t=some (ety,sz,by')) {rows ys:List (List C)} {v:Value}
  (hv:ei w S ety sz rows v∨(aW w S (.clip rows) v∧(rows=[]∨ys≠[]))) (dX:rowsLen sz rows) (qx:rowsLen sz ys) (ct:rows.length+ys.length<=ak)
  (hy:∃ (b:Option Addr) (cap:Nat) (aF:List Value),u=.slice b ys.length cap∧aC w S ys.flatten aF∧∀ (P:Program) (w':World),(∀ p,w'.cell? p=w.cell? p)->(Builtin.firstCells sz ys.length u).run P w'=.ok aF.toArray w') :
  ∃ v' w',(Builtin.append_ ts ty #[v,u]).run e.P w=.ok v' w'∧ei w' S ety sz (rows++ys) v'∧∃ τ:Option Nat,Kept e.D (fun b=>τ=some b) w.heap.size w w'∧(∀ g,τ=some g->aP v=some g∧ei w S ety sz rows v)∧(∀ g,aP v'=some g->τ=some g∨w.heap.size<=g):=by
 obtain ⟨i,z,hu,hi,hz,bO,wZ,qy,fg,sM⟩:=xy hb;obtain ⟨yb,ycap,aF,uc,jU,hf⟩:=hy;have ix:∀ w',(Builtin.lenOf u).run e.P w'=.ok ys.length w':=fun w'=>by rw [uc];simp [Builtin.lenOf]
 have yt:aF.length=ys.length * sz:=by rw [jU.len,oL qx]
 have rk:=C1 (ZlV qx) jU;have hm30:rows.length+ys.length<=1073741824:=ct;have mr:(rows.length+ys.length) * i.bytes<=140737488355328:=by
  exact m197
 have vu:rowsLen sz (rows++ys):=dX.append qx
 have grow:∀ (b:Option Addr) (cap:Nat) (cc:List Value),v=.slice b rows.length cap->cap < rows.length+ys.length->aC w S rows.flatten cc->(∀ (P:Program) (w':World),(∀ p,w'.cell? p=w.cell? p)->(Builtin.firstCells sz rows.length v).run P w'=.ok cc.toArray w') ->
   ∃ v' w',(Builtin.append_ ts ty #[v,u]).run e.P w=.ok v' w'∧ei w' S ety sz (rows++ys) v'∧∃ τ:Option Nat,Kept e.D (fun b=>τ=some b) w.heap.size w w'∧(∀ g,τ=some g->aP v=some g∧ei w S ety sz rows v)∧(∀ g,aP v'=some g->τ=some g∨w.heap.size<=g):=by
  intro b cap cc hv au jD xb;have h63:rows.length+ys.length<=maxLen:=by unfold maxLen;omega
  have aJ:=ZC6 ts t ty ety i z h0 h1 hu hi hz b rows.length cap cc u ys.length aF (ix w) (by rw [bO,<- hv];exact xb _ _ (ZiH w)) (by rw [bO];exact hf _ _ (ZiH w)) au om (growslice_fits om mr);rw [<- hv] at aJ;have Bz:=grownCap_ge w (rows.length+ys.length) cap ety;have gQ:=grownCap_le_maxLen w (rows.length+ys.length) cap ety h63;generalize qW:grownCap w (rows.length+ys.length) cap ety=nc at aJ Bz gQ
  have ip:cc.length=rows.length * sz:=by rw [jD.len,oL dX]
  have hk:Kept e.D (fun b=>(none:Option Nat)=some b) w.heap.size w (w.drew.alloc (.cells (cc.toArray++aF.toArray++Builtin.zeroCells z.cells (nc - (rows.length+ys.length))) ety)) :=
   ⟨rfl,rfl,rfl,fun _=>Nat.le_succ _,by simp,fun k hk _=>heap_alloc_old w.drew _ hk⟩
  have ce:=heap_alloc_new w.drew (.cells (cc.toArray++aF.toArray++Builtin.zeroCells z.cells (nc - (rows.length+ys.length))) ety);have zR:(w.drew.alloc (.cells (cc.toArray++aF.toArray++Builtin.zeroCells z.cells (nc - (rows.length+ys.length))) ety)).heap.size=w.heap.size+1:=by simp
  have e1:cc.toArray++aF.toArray++Builtin.zeroCells z.cells (nc - (rows.length+ys.length))=((cc++aF)++(Builtin.zeroCells z.cells (nc - (rows.length+ys.length))).toList).toArray:=by
   apply Array.toList_inj.1;simp
  rw [e1] at aJ hk ce zR;generalize w.drew.alloc (.cells ((cc++aF)++(Builtin.zeroCells z.cells (nc - (rows.length+ys.length))).toList).toArray ety)=W at aJ hk ce zR;refine ⟨_,_,aJ,?_,none,hk,by simp,fun g hg=>?_⟩
  ·have bu:rows.length+ys.length=(rows++ys).length:=by simp
   rw [bu];refine ZkN (w:=w) (cells:=cc++aF) (rest:=(Builtin.zeroCells z.cells (nc - (rows.length+ys.length))).toList) (n:=0) fg vu hk.size (fun b o hs=>qE (hk.block b (hC.sin b hs).1 (by simp)) o) ?_ (by simp;omega) gQ om (g:=w.heap.size) om (fun hs=>by have:=(hC.sin _ hs).1;omega) ?_ ?_
   ·rw [List.flatten_append];exact aC.app jD jU
   ·exact ce
   ·simp only [Tae,Array.length_toList,size_zeroCells,qy,ip,yt,<- Nat.add_mul];congr 1;omega
  ·simp only [aP] at hg;split at hg
   ·cases hg
   ·injection hg with hg;exact .inr om
 have vY:∀ (b:Option Addr),rows=[]->ys=[]->v=.slice b 0 0->∃ v' w',(Builtin.append_ ts ty #[v,u]).run e.P w=.ok v' w'∧ei w' S ety sz (rows++ys) v'∧∃ τ:Option Nat,Kept e.D (fun b=>τ=some b) w.heap.size w w'∧(∀ g,τ=some g->aP v=some g∧ei w S ety sz rows v)∧(∀ g,aP v'=some g->τ=some g∨w.heap.size<=g):=by
  intro b hr hy fj;subst hr hy;have kY:aF=[]:=Tao (by simpa using yt);have aJ:=ZC8 (P:=e.P) (w:=w) ts t ty ety i h0 h1 hu hi b u (ix w) (by rw [bO];have:=hf e.P w (fun _=>rfl);rw [kY] at this;simpa using this);exact m126
 rcases hv with hv | ⟨hv,bq⟩
 ·have ue:=hv;obtain ⟨_,_,h3⟩:=hv;rcases h3 with ⟨hr,b,fj⟩ | ⟨g,cap,bc,fj,hc,hg,hs,hh,sR,hm,ez,hr⟩
  ·by_cases sZ:ys=[]
   ·exact vY b hr sZ fj
   ·have vC:0 < ys.length:=List.length_pos_iff.2 sZ;subst hr;refine grow b 0 [] fj (by simpa using vC) (by simp [aC]) (fun P w' _=>?_);rw [fj]
    cases b <;> simp [Builtin.firstCells,loadCells,loadCellsFrom]
  ·by_cases iz:rows.length+ys.length<=cap
   ·have iq:rows.length * i.size+aF.length<=bc.size:=by rw [yt,bO,ez,<- Nat.add_mul];exact Nat.mul_le_mul_right _ iz
    have aJ:=ZC7 (P:=e.P) (w:=w) ts t ty ety i h0 h1 hu hi g rows.length cap bc hh u ys.length aF (ix w) (by rw [bO];exact hf _ _ (fun _=>rfl)) rk iz iq;rw [<- fj] at aJ;rw [bO] at aJ iq;have bA:=Zgm w g (rows.length * sz) ety aF bc hh iq;have ce:=setRow_heap w g bc (bc.toList.take (rows.length * sz)++aF++bc.toList.drop (rows.length * sz+aF.length)).toArray ety _ hh
    have iN:(w.setRow g (bc.toList.take (rows.length * sz)++aF++bc.toList.drop (rows.length * sz+aF.length)).toArray).drawn=w.drawn:=Zfn _ _ _;generalize hW:w.setRow g (bc.toList.take (rows.length * sz)++aF++bc.toList.drop (rows.length * sz+aF.length)).toArray=W at aJ bA ce iN;have hszW:W.heap.size=w.heap.size:=bA.size;have ky:∀ b o,S b->W.cell? ⟨b,o,none⟩=w.cell? ⟨b,o,none⟩:=fun b o hsb=>qE (bA.other b (fun e=>hs (e ▸ hsb))) o
    refine ⟨_,_,aJ,⟨fg,vu,.inr ⟨g,cap,_,by simp,hc,om,hs,ce,by simpa using iz,hm,by simp;omega,?_⟩⟩,some g,⟨bA.os,bA.tape,bA.output,fun _=>Nat.le_of_eq iN.symm,om,fun b hb hE=>bA.other b (fun eq=>hE (by rw [eq]))⟩,fun q hq=>?_,fun q hq=>?_⟩
    ·apply b7.of_flat;rw [List.flatten_append];have r1:=bn.keepAt (S':=S) om ky (fun _ h=>h) g 0 rows.flatten (fun j hj=>bA.old _ (.inl (by rw [oL dX] at hj;omega))) hr.flat;refine bn.append _ _ 0 r1 ?_;rw [oL dX,Nat.zero_add];exact bn.of_vals _ aF _ (aC.keep2 om ky (fun _ h=>h) jU) bA.new
    ·injection hq with hq;subst hq
     exact ⟨by rw [fj];simp only [aP];rw [if_neg om],ue⟩
    ·simp only [aP] at hq;rw [if_neg om] at hq;exact .inl hq
   ·obtain ⟨b',dz,cc,q1,_,_,q2,q3⟩:=ZkM ue;rw [fj] at q1;injection q1 with e1 e2 e3
    exact grow _ _ cc fj om q2 q3
 ·obtain ⟨jY,b,n,fj⟩:=hv;obtain ⟨b',dz,cc,q1,q2,q3,q4,q5⟩:=ZiG dX jY;rw [fj] at q1;injection q1 with e1 e2 e3
  by_cases sZ:ys=[]
  ·have hr:rows=[]:=by
    rcases bq with h | h
    ·exact h
    ·exact absurd sZ h
   refine vY b hr sZ ?_;rw [fj];have:n=0:=by rw [e2,hr];rfl
   rw [this]
  ·have vC:0 < ys.length:=List.length_pos_iff.2 sZ;exact grow b n cc (by rw [fj,e2]) om q4 q5
end
theorem Cp {p:Prop} (h:p:=by
 simp only [bL,if_true];exact ⟨by simp,ge⟩):p:=h
theorem m170 {p:Prop} (h:p:=by
 unfold iJ at hz;simp only [hi,Option.bind_some,se,Option.map_some,Taq] at hz;exact hz.symm):p:=h
section
variable {e:Env} {U:Nat->Prop} {w0:World} {S0:Nat->Prop} {nt:Nat} {σ:St} {a:Act} {w:World} {S:Nat->Prop} {L:Lay} {o:Oper} {Q:Exit->Act->World->Prop}
theorem Zfp {x:A} {v:Value} {f:FuncId} {caps:List C} (h:qK x=some (f,caps)) (hr:ax w S L x v):∃ us:List Value,v=.func (.func f) #[] us.toArray∧aC w S caps us:=by
 unfold qK at h;split at h
 ·simp only [Taq,Prod.mk.injEq] at h;obtain ⟨rfl,rfl⟩:=h;simpa [ax,aW,aQ] using hr
 ·cases h
theorem Zhf {c:Operand} (ho:o.op=.call ⟨.value c,args,ts⟩) {f:FuncId} {us:List Value} (hv:ρv c=.func (.func f) #[] us.toArray) (hb:ny e.P f=true) :
  (execOp ρv o).run e.P w=.ok (.enter f (args.toList.map ρv++us).toArray) w:=by
 have ha:#[]++args.map ρv++us.toArray=(args.toList.map ρv++us).toArray:=by
  apply Array.toList_inj.1;simp
 unfold ny at hb;split at hb
 ·rename_i fn yl;simp only [Tar,Bool.not_eq_true'] at hb;obtain ⟨iZ,jC⟩:=hb;have Bp:fn.body.isNone=false:=by rw [Option.isNone_eq_false_iff];exact jC
  simp only [execOp,ho,resolve,hv,Deferred.ofValue,invoke,callFunc,Sem.run_bind,Sem.run_pure,Result.andThen_ok,run_program,yl,iZ,Bp,Tam,if_false];rw [<- ha]
 ·cases hb
theorem ZC9 {c:Operand} (ho:o.op=.call ⟨.value c,args,ts⟩):c∈o.op.operands∧∀ x∈args.toList,x∈o.op.operands:=by
 refine ⟨by simp [ho,Op.operands,Call.operands],fun x hx=>?_⟩;simp [ho,Op.operands,Call.operands];exact .inr (by simpa using hx)
theorem ZnR {m:List (Nat × Bk)} {base:Nat} {ρ:Operand->A} {c:Operand} (ho:o.op=.call ⟨.value c,args,ts⟩) {f:FuncId} {caps:List C} {xs r:List D} (hc:qK (ρ c)=some (f,caps)) (hx:kV (args.toList.map ρ)=some xs) (bV:az e f (xs++caps.map .one) r) :
  iM e U base S0 m o ρ (bh r):=by
 intro w S L ρv hC hr;obtain ⟨m1,m2⟩:=ZC9 ho;obtain ⟨us,hv,cu⟩:=Zfp hc (hr c m1);have bG:cx w S xs (args.toList.map ρv):=Dc hx (by simp) (th (fun p hp=>hr p (m2 p hp)));obtain ⟨io,bV⟩:=bV;have ip:=bV w S _ hC.sin (fun b hb=>Tbd (hC.ein b hb) hC.bsz) hC.g (bG.append (cx.caps cu));unfold gives;rw [Zhf ho hv io];refine ip.mono fun en w' ⟨v,h1,h2,h3,h4⟩=>⟨v,h1,_,⟨fun b hb=>.inl hb,fun b hb=>hb.elim .inl (fun q=>.inr q.1)⟩,hC.later h2 h3 (fun b hb=>.inl hb) (fun b hb=>hb),h2,?_⟩
 cases r with
 | nil=>exact h4
 | cons y ys =>
  cases ys with
  | nil=>exact h4
  | cons z zs=>exact h4
theorem C2 {α:A} (h:Sim e U w0 S0 nt σ a w S L) (hd:∀ d,o.dst=some d->d < nt) (hG:iM e U w0.heap.size S0 σ.m o (aL σ.s) α):o.wp e.P a w (aN e U w0 S0 nt ⟨aI σ.s o.dst α,σ.m⟩) Q:=by
 refine xE (hG w S L a.eval h.cls (fun x _=>h.eval x)) fun v w' ⟨S',hS,hC,hk,hr⟩=>?_;exact ⟨S',L,(h.later hC hk hS.1).put hr hd⟩
theorem ZjL (h:aN e U w0 S0 nt σ a w) (he:e.Ok) {σ':St} (hf:eE q ks σ=some σ'):aN e U w0 S0 nt σ' a w:=by
 unfold eE at hf;split at hf
 ·injection hf with hf;subst hf;exact h
 ·split at hf
  ·cases hf
  ·injection hf with hf;subst hf;exact aN.frzs he _ _ h
theorem ZnS (z:Value) (sz:Nat) (hs:0 < sz) (hz:z.cells.size=sz) (n:Nat):(madeCells z.cells (n * sz)).toList=(List.replicate n z).flatMap fun v=>v.cells.toList:=by
 apply List.ext_getElem?;intro k;rw [Go.Great.flat_get hs (List.replicate n z) (fun v hv=>by rw [List.eq_of_mem_replicate hv];exact hz) k];simp only [madeCells,Array.toList_map,Tba,Array.getElem?_toList,Array.getElem?_range];by_cases hk:k < n * sz
 ·have hd:k / sz < n:=(Nat.div_lt_iff_lt_mul hs).2 hk;have BK:k % sz < z.cells.size:=by rw [hz];exact Nat.mod_lt k hs
  simp [hk,hd,Tbr,hz,BK];rw [getElem!_pos z.cells (k % sz) BK,Array.getElem?_eq_getElem BK]
 ·have hd:¬ k / sz < n:=fun h=>hk ((Nat.div_lt_iff_lt_mul hs).1 h);simp [hk,hd,Tbr]
theorem ZkO {z:Value}:∀ (n:Nat),aC w S (List.replicate n (z.cells.toList.map sj)).flatten ((List.replicate n z).flatMap fun v=>v.cells.toList)
 | 0=>by simp [aC]
 | n+1=>by
  simp only [List.replicate_succ,List.flatten_cons,List.flatMap_cons];exact aC.app (yZ _) (ZkO n)
theorem Sim.made (h:Sim e U w0 S0 nt σ a w S L) (he:e.Ok) {d:Nat} (hd:d < nt) {l c:Operand} {σ':St} (ve:o.dst=some d) (ho:o.op=.makeSlice t l c) (hp:AH e.P σ o.dst t (aL σ.s l) (aL σ.s c)=some σ'):o.wp e.P a w (aN e U w0 S0 nt σ') Q:=by
 rw [ve] at hp;unfold AH at hp;split at hp
 ·rename_i d' n n' ety sz by' dn hl hc hb;injection dn with dn;subst dn
  split at hp
  ·rename_i zc hz;split at hp
   ·rename_i hcond;obtain ⟨rfl,kY,mv,vD⟩:=hcond;injection hp with hp;subst hp
    obtain ⟨i,z,hu,hi,se,bO,wZ,qy,fg,sM⟩:=xy hb;have hzc:zc=z.cells.toList.map sj:=by
     exact m170
    have int:∀ (x:Operand) (k:Int),iD (aL σ.s x)=some k->a.eval x=.int .i64 k:=fun x k hx=>by
     unfold iD at hx;split at hx
     ·rename_i j hj;injection hx with hx;subst hx
      have:=h.eval x;rw [hj] at this;exact j8 this
     ·cases hx
    have e1:=int l n hl;have e2:=int c n hc;have hm:(n:Int)<=1073741824:=by have:=mv;simpa [ak] using this
    have mr:(i.bytes:Int) * n<=281474976710656:=by
     have h1:(i.bytes:Int)<=4096:=om;have:=Int.mul_le_mul h1 hm kY (by decide);omega
    have aJ:=run_make (P:=e.P) w t ety i z hu hi se .i64 .i64 n n kY (Int.le_refl _) mr om;rw [bO] at aJ;have vc:=ZnS z sz fg qy n.toNat;have hk:Kept e.D (fun b=>(none:Option Nat)=some b) w.heap.size w (w.alloc (.cells (madeCells z.cells (n.toNat * sz)) ety)):=Kept.of_below (wF w _) (fun _=>Tai _);have ce:=heap_alloc_new w (.cells (madeCells z.cells (n.toNat * sz)) ety);have zR:(w.alloc (.cells (madeCells z.cells (n.toNat * sz)) ety)).heap.size=w.heap.size+1:=by simp
    have hsz2:(madeCells z.cells (n.toNat * sz)).size=n.toNat * sz:=size_madeCells _ _;generalize madeCells z.cells (n.toNat * sz)=mc at aJ hk ce zR vc hsz2;generalize w.alloc (.cells mc ety)=W at aJ hk ce zR;have dX:rowsLen sz (List.replicate n.toNat zc):=fun r hr=>by
     rw [List.eq_of_mem_replicate hr];exact ⟨by rw [hzc];simp [qy],vD⟩
    have ge:ei W S ety sz (List.replicate n.toNat zc) (.slice (some ⟨w.heap.size,0,none⟩) n.toNat n.toNat):=by
     by_cases h0:n.toNat=0
     ·rw [h0];exact ⟨fg,rowsLen.nil,.inl ⟨rfl,_,rfl⟩⟩
     ·have hlr:(List.replicate n.toNat zc).length=n.toNat:=by simp
      have:=ZkN (S:=S) (W:=W) (w:=w) (ety:=ety) (n:=0) (rows:=List.replicate n.toNat zc) (cells:=mc.toList) (rest:=[]) (cap:=n.toNat) (g:=w.heap.size) fg dX hk.size (fun b o hs=>qE (hk.block b (h.cls.sin b hs).1 (by simp)) o) (by rw [vc,hzc];exact ZkO _) om (by unfold maxLen;omega) om om (fun hs=>by have:=(h.cls.sin _ hs).1;omega) (by simpa using ce) (by simpa using hsz2);rw [hlr] at this
      exact this
    have ep:aN e U w0 S0 nt ⟨(d,.buf d)::bM d σ.s,(d,.buf none ety sz (List.replicate n.toNat zc))::aA d σ.m⟩ (a.put (some d) (.slice (some ⟨w.heap.size,0,none⟩) n.toNat n.toNat)) W:=by
     refine h.born he hd (τ:=none) (b':=0) (v':=.slice (some ⟨w.heap.size,0,none⟩) n.toNat n.toNat) (fun _ h=>h) (fun _ h=>.inl h) (fun t=>.inl rfl) (fun k x h=>h) (by simp) (by simp) hk ?_ (fun g hg=>?_) (by simp [ax])
     ·exact Cp
     ·simp only [cQ,if_true,aP] at hg;split at hg
      ·cases hg
      ·injection hg with hg;exact .inr om
    unfold Oper.wp;have hx:(execOp a.eval o).run e.P w=.ok (.value (.slice (some ⟨w.heap.size,0,none⟩) n.toNat n.toNat)) W:=by
     simp only [execOp,ho,Sem.run_bind,e1,e2,aJ,Result.andThen_ok,Sem.run_pure]
    rw [hx,Oper.upon_value,ve];exact ep
   ·cases hp
  ·cases hp
 ·cases hp
theorem Sim.appended (h:Sim e U w0 S0 nt σ a w S L) (he:e.Ok) (hd:∀ d,o.dst=some d->d < nt) {σ':St} (ho:o.op=.call ⟨.builtin .append,args,ts⟩) (hp:Dl e.P σ o.dst ts (args.toList.map fun x=>fu σ.m (aL σ.s x))=some σ'):o.wp e.P a w (aN e U w0 S0 nt σ') Q:=by
 unfold Dl at hp;split at hp
 ·rename_i d x y t bG B8 rt;split at hp
  ·rename_i ht1;split at hp
   ·rename_i ety sz by' ys hb hys;split at hp
    ·rename_i hyb;obtain ⟨p,q,hpq,hpx,hqy⟩:=Zpp B8;have ek:=rM h.cls (h.eval p);have hq':=rM h.cls (h.eval q);rw [hpx] at ek;rw [hqy] at hq';have qx:=ki.1 hyb;have hy:=Zp6 h.cls hys hq' qx;have cd:args.map a.eval=#[a.eval p,a.eval q]:=by
      apply Array.toList_inj.1;simp [hpq]
     obtain ⟨i,z,hu,hi,hz,bO,wZ,qy,fg,sM⟩:=xy hb;have exec:∀ v' w',(Builtin.append_ ts o.type #[a.eval p,a.eval q]).run e.P w=.ok v' w'->aN e U w0 S0 nt σ' (a.put (some d) v') w'->o.wp e.P a w (aN e U w0 S0 nt σ') Q:=by
      intro v' w' aJ fa;unfold Oper.wp;have hx:(execOp a.eval o).run e.P w=.ok (.value v') w':=by
       simp only [execOp,ho,resolve,invoke,builtin,Sem.run_bind,Sem.run_pure,Result.andThen_ok,cd,aJ]
      rw [hx,Oper.upon_value,bG];exact fa
     split at hp
     ·rename_i k;split at hp
      ·cases hp
      ·rename_i bq;unfold Zjl at hp;split at hp
       ·rename_i o' e' gU rows hm;split at hp
        ·rename_i hc;obtain ⟨rfl,rfl,ct⟩:=hc;injection hp with hp;subst hp
         have bZ:ei w S e' gU rows (L.v k):=(h.cls.own k _ hm).2;have hpv:a.eval p=L.v k:=ek;obtain ⟨v',w',aJ,ge,τ,hk,hτ,fO⟩:=ZhB (ty:=o.type) (v:=a.eval p) (u:=a.eval q) he h.cls rt ht1 hb (.inl (by rw [hpv];exact bZ)) bZ.2.1 qx ct hy;refine exec v' w' aJ ?_;refine h.born he (hd d bG) (τ:=τ) (b':=0) (v':=v') (s1:=bM k σ.s) (m1:=aA k σ.m) (fun _ h=>h) (fun _ h=>.inl h) (fun t=>?_) (fun k' x hx=>?_) (fun g hg=>?_) (fun k' x g cj hx hg dC=>?_) hk ?_ (fun g hg=>?_) (by simp [ax])
         ·exact m238
         ·rw [iL] at hx;split at hx
          ·cases hx
          ·exact hx
         ·have fo:=(hτ g hg).1;rw [hpv] at fo;exact ⟨(bL.lt (k:=k) (L:=L) (bk:=.buf none e' gU rows) ⟨by simp,bZ⟩ fo).2,h.cls.notE hm fo,h.cls.mine k _ g hm fo⟩
         ·have fo:=(hτ g hg).1;rw [hpv] at fo;rw [iL] at hx;split at hx
          ·cases hx
          ·rename_i vj;exact vj (h.cls.inj k' k x _ g hx hm dC fo)
         ·exact Cp
         ·simp only [cQ,if_true] at hg;exact fO g hg
        ·cases hp
       ·cases hp
     ·rename_i rows;split at hp
      ·rename_i hc;obtain ⟨db,ct,DS⟩:=hc;injection hp with hp;subst hp
       have hem':rows=[]∨ys≠[]:=by
        simp only [Bool.or_eq_true,List.isEmpty_iff,Bool.not_eq_true',List.isEmpty_eq_false_iff] at DS;exact DS
       obtain ⟨v',w',aJ,ge,τ,hk,hτ,fO⟩:=ZhB (ty:=o.type) (v:=a.eval p) (u:=a.eval q) he h.cls rt ht1 hb (.inr ⟨ek,hem'⟩) (ki.1 db) qx ct hy;refine exec v' w' aJ ?_;have hτ0:∀ g,τ=some g->False:=fun g hg=>by
        obtain ⟨q1,q2⟩:=hτ g hg;obtain ⟨_,_,q3⟩:=q2;obtain ⟨r1,b,n,r2⟩:=ek;rcases q3 with ⟨_,b',q4⟩ | ⟨g',cap,bc,q4,q5,q6,q7,_⟩
        ·rw [q4] at q1;cases b' <;> simp [aP] at q1
        ·obtain ⟨A,n',dz,q8,q9,q10,q11,q12⟩:=by simpa only [aQ] using r1
         rw [q4] at q8;injection q8 with z1 z2 z3
         by_cases kY:0 < n'
         ·obtain ⟨b2,off,z4,z5,_⟩:=q12 kY;rw [<- z1] at z4;injection z4 with z4
          injection z4 with z6
          exact q7 (by rw [z6];exact z5)
         ·rw [q4] at r2;injection r2 with y1 y2 y3
          omega
       refine h.born he (hd d bG) (τ:=none) (b':=0) (v':=v') (fun _ h=>h) (fun _ h=>.inl h) (fun t=>.inl rfl) (fun k' x hx=>hx) (by simp) (by simp) ⟨hk.os,hk.tape,hk.output,hk.drawn,hk.size,fun b hb _=>hk.block b hb (fun ht=>hτ0 b ht)⟩ ?_ (fun g hg=>?_) (by simp [ax])
       ·exact Cp
       ·simp only [cQ,if_true] at hg;rcases fO g hg with h1 | h1
        ·exact (hτ0 g h1).elim
        ·exact .inr h1
      ·cases hp
     ·cases hp
    ·cases hp
   ·cases hp
  ·cases hp
 ·cases hp
end
theorem CA {p:Prop} (h:p:=by
 rw [<- ho] at h1;exact putq σ' _ h1 h2):p:=h
theorem Cs {p:Prop} (h:p:=by
 rw [<- ho] at hp;exact ZkP he h hd hp):p:=h
theorem m215 {p:Prop} (h:p:=by
 simp [execOp,ho,Instr.alloc,zeroValue,typeInfo,hi,hv,newVar,newRow,Result.andThen]):p:=h
theorem m55 {p:Prop} (h:p:=by
 simp only [pd,Tav] at hn;obtain ⟨i,hi,eY⟩:=hn;have bO:(a.eval y).cells.size=i.size:=by rw [eY,<- hl1,<- h1.len,Array.length_toList]
 unfold Oper.wp;have aJ:(execOp a.eval o).run e.P w=.ok .skip w':=by
  simp only [execOp,ho,h3,Instr.storeAt,Instr.sureAddr,Go.storeVar,Sem.run_bind,Sem.run_pure,Result.andThen_ok,sizeOf,typeInfo,hi,run_program,bO,ne_eq,not_true_eq_false,if_false,h4]
 rw [aJ,Oper.upon_skip,bG];rw [hl1] at h5;exact h5):p:=h
section
variable {e:Env} {U:Nat->Prop} {w0:World} {S0:Nat->Prop} {nt:Nat} {σ:St} {a:Act} {w:World} {S:Nat->Prop} {L:Lay} {o:Oper} {Q:Exit->Act->World->Prop}
theorem Zsb (he:e.Ok) (h:aN e U w0 S0 nt σ a w) (hd:∀ d,o.dst=some d->d < nt) {σ':St} (hp:qa σ o.dst (zr e.P σ.m (aL σ.s) o.op)=some σ'):o.wp e.P a w (aN e U w0 S0 nt σ') Q:=by
 obtain ⟨S,L,h⟩:=h;unfold qa at hp;split at hp
 ·rename_i α hα;injection hp with hp;subst hp
  exact C2 h hd (Zmn he hα)
 ·cases hp
theorem ZkP (he:e.Ok) (h:aN e U w0 S0 nt σ a w) (hd:∀ d,o.dst=some d->d < nt) {σ':St} (hp:zt e.P o.dst o.op (eE q ks σ)=some σ'):o.wp e.P a w (aN e U w0 S0 nt σ') Q:=by
 unfold zt at hp;split at hp
 ·rename_i σ1 hf;exact Zsb he (ZjL h he hf) hd hp
 ·cases hp
theorem ZF9 (he:e.Ok) (h:aN e U w0 S0 nt σ a w) (hd:∀ d,o.dst=some d->d < nt) {σ':St} (ho:o.op=.box t x) (hp:mC σ o.dst (nF (aL σ.s x))=some σ'):o.wp e.P a w (aN e U w0 S0 nt σ') Q:=by
 obtain ⟨S,L,h⟩:=h;unfold mC at hp;split at hp
 ·rename_i d cs bG hz;injection hp with hp;subst hp
  obtain ⟨h1,_⟩:=ZfS hz (h.eval x);have hn:=h.new he (us:=(a.eval x).cells) (ty:=t) (hd d bG) h1;unfold Oper.wp;have aJ:(execOp a.eval o).run e.P w=.ok (.value (.pointer (some ⟨w.heap.size,0,none⟩))) (w.alloc (.cells (a.eval x).cells t)):=by
   simp [execOp,ho,Instr.box,newVar,newRow,Result.andThen]
  rw [aJ,Oper.upon_value,bG];exact hn
 ·cases hp
theorem ZDa (he:e.Ok) (h:aN e U w0 S0 nt σ a w) (hd:∀ d,o.dst=some d->d < nt) {σ':St} (ho:o.op=.alloc t) (hp:mC σ o.dst (iJ e.P t)=some σ'):o.wp e.P a w (aN e U w0 S0 nt σ') Q:=by
 obtain ⟨S,L,h⟩:=h;unfold mC at hp;split at hp
 ·rename_i d cs bG hz;injection hp with hp;subst hp
  unfold iJ at hz;simp only [Tav,Option.bind_eq_some_iff] at hz;obtain ⟨v,⟨i,hi,hv⟩,rfl⟩:=hz;have hn:=h.new he (us:=v.cells) (ty:=t) (hd d bG) (yZ v.cells.toList);unfold Oper.wp;have aJ:(execOp a.eval o).run e.P w=.ok (.value (.pointer (some ⟨w.heap.size,0,none⟩))) (w.alloc (.cells v.cells t)):=by
   exact m215
  rw [aJ,Oper.upon_value,bG];exact hn
 ·cases hp
theorem ZDb (he:e.Ok) (h:aN e U w0 S0 nt σ a w) {σ':St} (ho:o.op=.store t x y) (hp:Du σ o.dst (fu σ.m (aL σ.s x)) (nF (aL σ.s y)) (pd e.P t)=some σ'):o.wp e.P a w (aN e U w0 S0 nt σ') Q:=by
 obtain ⟨S,L,h⟩:=h;unfold Du at hp;split at hp
 ·rename_i k off us n bG hx hy hn;unfold Proofs.YtbecmfjokofihaaGreatDoor.storeVar at hp;split at hp
  ·rename_i o' cs BJ;split at hp
   ·rename_i hc;injection hp with hp;subst hp
    obtain ⟨hl1,sa⟩:=hc;obtain ⟨h1,h2⟩:=ZfS hy (h.eval y);have h3:=rM h.cls (h.eval x);rw [hx] at h3;have h3:a.eval x=.pointer (some ⟨L.b k,off,none⟩):=h3;obtain ⟨w',h4,h5⟩:=h.store (off:=off) he BJ om h1 (C1 h2 h1);exact m55
   ·cases hp
  ·cases hp
 ·rename_i k j sz off us n bG hx hy hn;unfold Proofs.YtbecmfjokofihaaGreatDoor.storeRow at hp;split at hp
  ·rename_i o' ety gU rows hm;split at hp
   ·rename_i kf;subst kf;split at hp
    ·rename_i r hr;split at hp
     ·rename_i hc;injection hp with hp;subst hp
      obtain ⟨hl1,sa⟩:=hc;obtain ⟨h1,h2⟩:=ZfS hy (h.eval y);have h3:=rM h.cls (h.eval x);rw [hx] at h3;obtain ⟨g,hg,h3⟩:=h3;obtain ⟨w',h4,h5⟩:=h.storeRow (off:=off) he hm hr hg om h1 h2;exact m55
     ·cases hp
    ·cases hp
   ·cases hp
  ·cases hp
 ·cases hp
theorem Zy6 (he:e.Ok) (h:aN e U w0 S0 nt σ a w) (hd:∀ d,o.dst=some d->d < nt) {σ':St} (ho:o.op=.assign x) (hp:uD e.P σ o.dst o.type (aL σ.s x)=some σ'):o.wp e.P a w (aN e U w0 S0 nt σ') Q:=by
 obtain ⟨S,L,h⟩:=h;have aJ:(execOp a.eval o).run e.P w=.ok (.value (a.eval x)) w:=by simp [execOp,ho]
 have hx:=h.eval x;unfold Oper.wp;rw [aJ,Oper.upon_value];unfold uD at hp;split at hp
 ·rename_i d k bG hk;rw [hk] at hx;have hx:a.eval x=L.v k:=hx;unfold ZlT at hp;split at hp
  ·rename_i o' ety sz rows hm;split at hp
   ·rename_i cj;subst cj;injection hp with hp;subst hp
    rw [bG];exact ⟨S,L,h.put (α:=.buf k) hx (dst:=some k) (fun d' dn=>by injection dn with dn;subst dn;exact hd _ bG)⟩
   ·injection hp with hp;subst hp
    rw [bG,hx];exact h.rename he (hd d bG) hm
  ·cases hp
 ·rename_i d bG hk;rw [hk] at hx;unfold vT at hp;split at hp
  ·rename_i ety sz by' hb;injection hp with hp;subst hp
   obtain ⟨i,z,hu,hi,hz,bO,wZ,qy,fg,sM⟩:=xy hb;rw [bG];exact h.empty he (hd d bG) fg hx
  ·injection hp with hp;subst hp
   rw [bG];exact ⟨S,L,h.put (α:=.d (.clip [])) hx (dst:=some d) (fun d' dn=>by injection dn with dn;subst dn;exact hd _ bG)⟩
 ·injection hp with hp;subst hp
  exact ⟨S,L,h.put hx hd⟩
theorem ZDc (he:e.Ok) (h:aN e U w0 S0 nt σ a w) (hd:∀ d,o.dst=some d->d < nt) {σ':St} (hp:AJ e.P q σ o.dst o.type o.op=some σ'):o.wp e.P a w (aN e U w0 S0 nt σ') Q:=by
 unfold AJ at hp;split at hp
 ·rename_i t ho;split at hp
  ·cases hp
  ·exact ZDa he h hd ho hp
 ·rename_i t x ho;split at hp
  ·cases hp
  ·unfold ZlU at hp;split at hp
   ·rename_i σ1 hf;exact ZF9 he (ZjL h he hf) hd ho hp
   ·cases hp
 ·rename_i t x y ho;split at hp
  ·cases hp
  ·unfold ZiF at hp;split at hp
   ·rename_i σ1 hf;exact ZDb he (ZjL h he hf) ho hp
   ·cases hp
 ·rename_i x ho;split at hp
  ·cases hp
  ·exact Zy6 he h hd ho hp
 ·rename_i t l c ho;split at hp
  ·cases hp
  ·obtain ⟨S,L,h⟩:=h
   cases bG:o.dst with
   | none=>rw [bG] at hp;simp [AH] at hp
   | some d=>exact h.made he (hd d bG) bG ho hp
 ·rename_i args ts ho;split at hp
  ·cases hp
  ·obtain ⟨S,L,h⟩:=h;exact h.appended he hd ho hp
 ·rename_i t parts ho;exact Cs
 ·rename_i t n parts ho;exact Cs
 ·rename_i f fs caps ho;exact Cs
 ·exact Zsb he h hd hp
def iT (e:Env) (o:Oper) (σ:St) (K:St->Prop):Prop:=e.Ok->∀ (U:Nat->Prop) (w0:World) (S0:Nat->Prop) (nt:Nat) (a:Act) (w:World) (Q:Exit->Act->World->Prop),(∀ d,o.dst=some d->d < nt)->aN e U w0 S0 nt σ a w->o.wp e.P a w (fun a' w'=>∃ σ',K σ'∧aN e U w0 S0 nt σ' a' w') Q
def zh (e:Env) (o:Oper) (σ:St) (K:St->Prop):Prop:=e.Ok->∃ α,K ⟨aI σ.s o.dst α,σ.m⟩∧∀ (U:Nat->Prop) (base:Nat) (S0:Nat->Prop),iM e U base S0 σ.m o (aL σ.s) α
def jJ (e:Env) (σ:St) (P:St->Prop):Prop:=e.Ok->∀ (U:Nat->Prop) (w0:World) (S0:Nat->Prop) (nt:Nat) (a:Act) (w:World),aN e U w0 S0 nt σ a w->∃ σ',P σ'∧aN e U w0 S0 nt σ' a w
def ZrF (e:Env) (q:Bool) (o:Oper) (σ:St) (K:St->Prop):Prop:=if q then zh e o σ K else iT e o σ K
end
section
variable {e:Env} {σ:St} {o:Oper} {K:St->Prop}
theorem Zy7 {σ':St} (hp:AJ e.P false σ o.dst o.type o.op=some σ') (hK:K σ'):iT e o σ K:=fun he U w0 S0 nt a w Q hd h=>Oper.wp_mono (fun a' w' hs=>⟨σ',hK,hs⟩) (ZDc he h hd hp)
theorem ZGa {σ':St} (h1:AJ e.P true σ o.dst o.type o.op=some σ') (h2:K σ'):zh e o σ K:=fun he=>by
 have put:∀ (σ':St),qa σ o.dst (zr e.P σ.m (aL σ.s) o.op)=some σ'->K σ'->∃ α,K ⟨aI σ.s o.dst α,σ.m⟩∧∀ (U:Nat->Prop) (base:Nat) (S0:Nat->Prop),iM e U base S0 σ.m o (aL σ.s) α:=fun σ' h1 h2=>by
  unfold qa at h1;split at h1
  ·rename_i α hα;injection h1 with h1;subst h1
   exact ⟨α,h2,fun U base S0=>Zmn he hα⟩
  ·cases h1
 have putq:∀ (σ':St) (ks:List Nat),zt e.P o.dst o.op (eE true ks σ)=some σ'->K σ'->∃ α,K ⟨aI σ.s o.dst α,σ.m⟩∧∀ (U:Nat->Prop) (base:Nat) (S0:Nat->Prop),iM e U base S0 σ.m o (aL σ.s) α:=fun σ' ks h1 h2=>by
  unfold zt eE at h1
  cases ks with
  | nil=>exact put σ' h1 h2
  | cons k ks=>simp at h1
 unfold AJ at h1;split at h1
 ·simp at h1
 ·simp at h1
 ·simp at h1
 ·simp at h1
 ·simp at h1
 ·simp at h1
 ·rename_i t parts ho;exact CA
 ·rename_i t n parts ho;exact CA
 ·rename_i f fs caps ho;exact CA
 ·exact put σ' h1 h2
theorem ZkQ {P:St->Prop} (hT:jJ e σ P) (h:∀ σ',P σ'->iT e o σ' K):iT e o σ K:=fun he U w0 S0 nt a w Q hd hs=>by
 obtain ⟨σ',h1,h2⟩:=hT he U w0 S0 nt a w hs;exact h σ' h1 he U w0 S0 nt a w Q hd h2
theorem wm (ks:List Nat) {σ':St} (h:frzs ks σ=σ'):jJ e σ (fun x=>x=σ'):=fun he U w0 S0 nt a w hs=>⟨σ',rfl,h ▸ aN.frzs he ks σ hs⟩
end
theorem ZjM {w:World} {S:Nat->Prop} {L L':Lay} {r:List D} {v:Value} (h:ax w S L (bh r) v):ax w S L' (bh r) v:=by
 cases r with
 | nil=>exact h
 | cons y ys =>
  cases ys with
  | nil=>exact h
  | cons z zs=>exact h
theorem m241 {p:Prop} (h:p:=by
 rw [e] at h1;simp only [mQ,cQ,dU,e];exact ⟨h1,fun _=>trivial⟩):p:=h
theorem m213 {X Y:Prop} (b:Y) (h:Bx Y->X:=by
 intro B0
 have aJ:(execOp a.eval o).run e.P w=.ok (.value (.map (some w.heap.size))) (w.alloc (.map #[] 0)):=by
  simp [execOp,ho,Instr.makeMap,newObj,Result.andThen];rfl
 exact B0.o aJ):X:=h ⟨b⟩
theorem m159 {p:Prop} (h:p:=by
 obtain ⟨k,hk,oz⟩:=An iO x hx;exact ⟨k,x,hk,oz,((yX (h1.cls.own k x oz) (hpn x hx)).2 g).2 hg⟩):p:=h
theorem m143 {p:Prop} (h:p:=by
 obtain ⟨k,x,_,oz,hb⟩:=fW g hg;have:=(h1.cls.own k x oz).lt hb;exact ⟨this.1,this.2,h1.cls.notE oz hb,h1.cls.mine k x g oz hb⟩):p:=h
theorem m76 {p:Prop} (h:p:=by
 rw [Zy9] at hx;cases se:gm (aZ du bX) k with
 | some y =>
  rw [se] at hx;injection hx with hx;subst hx
  have:=Dd se;exact .inl ⟨rfl,Tbh.2 (.inr this.1),this.2⟩
 | none =>
  rw [se] at hx;simp only [Zsd] at hx;split at hx
  ·cases hx
  ·rename_i bq;exact .inr ⟨bq,rfl,hx⟩):p:=h
section
variable {e:Env} {σ:St} {o:Oper} {K:St->Prop} {c:Operand} {args:Array Operand} {ts:Array TypeId} {f:FuncId} {caps:List C} {xs:List D}
theorem ZDd (ho:o.op=.call ⟨.value c,args,ts⟩) {σ1:St} {r:List D} (hf:eE q (qP (args.toList.map (aL σ.s))) σ=some σ1) (hc:qK (aL σ1.s c)=some (f,caps)) (hx:kV (args.toList.map (aL σ1.s))=some xs) (bV:az e f (xs++caps.map .one) r) (hK:K ⟨aI σ1.s o.dst (bh r),σ1.m⟩):ZrF e q o σ K:=by
 cases q with
 | true =>
  intro he;have hs:σ1=σ:=by
   unfold eE at hf;split at hf
   ·injection hf with hf;exact hf.symm
   ·simp at hf
  subst hs;exact ⟨_,hK,fun U base S0=>ZnR ho hc hx bV⟩
 | false =>
  intro he U w0 S0 nt a w Q hd h;obtain ⟨S,L,h1⟩:=ZjL h he hf;exact Oper.wp_mono (fun a' w' hs=>⟨_,hK,hs⟩) (C2 h1 hd (ZnR ho hc hx bV))
theorem ZGY (ho:o.op=.call ⟨.value c,args,ts⟩) {d ty:Nat} {rows:List (List C)} (bG:o.dst=some d) (hc:qK (aL σ.s c)=some (f,caps)) (hx:kV (args.toList.map (aL σ.s))=some xs) (bV:kh e f (xs++caps.map .one) ty sz rows) (hK:K ⟨(d,.buf d)::bM d σ.s,(d,.buf none ty sz rows)::aA d σ.m⟩):iT e o σ K:=by
 intro he U w0 S0 nt a w Q hd ⟨S,L,h1⟩;obtain ⟨us,hv,cu⟩:=Zfp hc (h1.eval c);have qZ:cx w S xs (args.toList.map a.eval):=Dc hx (by simp) (th (fun p _=>h1.eval p));obtain ⟨io,bV⟩:=bV;have ip:=bV w S _ h1.cls.sin (fun b hb=>Tbd (h1.cls.ein b hb) h1.cls.bsz) h1.cls.g (qZ.append (cx.caps cu));have hg:gives e.P o a.eval w fun v w'=>Kept e.D e.E w.heap.size w w'∧e.G w'∧(∀ g,aP v=some g->w.heap.size<=g)∧ei w' (fun b=>(S b∨(w.heap.size<=b∧b < w'.heap.size))∧aP v≠some b) ty sz rows v:=by
  unfold gives;rw [Zhf ho hv io];exact ip.mono fun en w' ⟨v,q1,q2⟩=>⟨v,q1,q2⟩
 refine xE hg fun v w' ⟨k1,k2,k3,k4⟩=>⟨_,hK,?_⟩;rw [bG];refine h1.bornE (hd d bG) (τ:=none) (b':=0) (v':=v) (S':=fun b=>(S b∨(w.heap.size<=b∧b < w'.heap.size))∧aP v≠some b) (fun b hs=>⟨.inl hs,fun hb=>by have:=k3 b hb;have:=(h1.cls.sin b hs).1;omega⟩) (fun b hb=>hb.1) (fun t=>.inl rfl) (fun k x h=>h) (by simp) (by simp) ⟨k1.os,k1.tape,k1.output,k1.drawn,k1.size,fun b hb hE=>k1.block b hb (fun h=>hE (.inl h))⟩ k2 ?_ (fun g hg=>?_) (by simp [ax])
 ·simp only [bL,if_true];exact ⟨by simp,k4⟩
 ·simp only [cQ,if_true] at hg;exact .inr (k3 g hg)
theorem ZGZ (ho:o.op=.call ⟨.value c,args,ts⟩) {x0:Operand} {rest:List Operand} {ty:Nat} {oa:Option (Option Addr × Nat)} {rows rows':List (List C)} {r:List D} (cd:args.toList=x0::rest) (zU:fu σ.m (aL σ.s x0)=.buf k) (hm:gm σ.m k=some (.buf oa ty sz rows)) (hc:qK (aL σ.s c)=some (f,caps)) (hx:kV (rest.map (aL σ.s))=some xs)
  (bV:jG e f ty sz rows (xs++caps.map .one) rows' r) (bu:rows'.length=rows.length) (hK:K ⟨aI σ.s o.dst (bh r),(k,.buf oa ty sz rows')::aA k σ.m⟩):iT e o σ K:=by
 intro he U w0 S0 nt a w Q hd ⟨S,L,h1⟩;obtain ⟨us,hv,cu⟩:=Zfp hc (h1.eval c);have qZ:cx w S xs (rest.map a.eval):=Dc hx (by simp) (th (fun p _=>h1.eval p));have yx:=rM h1.cls (h1.eval x0);rw [zU] at yx;have yx:a.eval x0=L.v k:=yx;obtain ⟨jX,bZ⟩:(∀ a,oa=some a->L.v k=.slice a.1 rows.length a.2)∧ei w S ty sz rows (L.v k):=h1.cls.own k _ hm;obtain ⟨io,bV⟩:=bV;have ip:=bV w S (L.v k) _ h1.cls.sin (fun b hb=>Tbd (h1.cls.ein b hb) h1.cls.bsz) (fun g hg=>h1.cls.notE hm hg) h1.cls.g bZ (qZ.append (cx.caps cu))
 have hg:gives e.P o a.eval w fun v w'=>Kept e.D (fun b=>e.E b∨aP (L.v k)=some b) w.heap.size w w'∧e.G w'∧ei w' (fun b=>S b∨(w.heap.size<=b∧b < w'.heap.size)) ty sz rows' (L.v k)∧ax w' (fun b=>S b∨(w.heap.size<=b∧b < w'.heap.size)) ⟨fun _=>0,fun _=>Go.undef⟩ (bh r) v:=by
  unfold gives;rw [Zhf ho hv io,cd];simp only [Tbu,yx,Taf];exact ip.mono fun en w' ⟨v,q1,q2⟩=>⟨v,q1,q2⟩
 refine xE hg fun v w' ⟨k1,k2,k3,k4⟩=>⟨_,hK,?_⟩
 obtain ⟨t1,t2,t3⟩:=h1.touchE (d:=k) (bk:=.buf oa ty sz rows') (m':=(k,.buf oa ty sz rows')::aA k σ.m) (w':=w') (S':=fun b=>S b∨(w.heap.size<=b∧b < w'.heap.size)) (L':=L) (τ:=aP (L.v k)) (fun _ h=>.inl h) (fun _ h=>h)
  (fun k' x cj hx=>by simp only [gm,cj,if_false,iL] at hx;exact hx) (by simp [gm]) (fun _ _=>⟨rfl,rfl⟩)
  (fun g hg=>⟨((h1.cls.own k _ hm).lt hg).2,h1.cls.notE hm hg,h1.cls.mine k _ _ hm hg⟩)
  (fun k' x g cj hx hg hb=>by
   simp only [gm,cj,if_false,iL] at hx;exact cj (h1.cls.inj k' k x _ _ hx hm hb hg))
  k1 k2 ⟨fun a ha=>by rw [bu];exact jX a ha,k3⟩ (fun g hg=>.inl hg)
 have xi:Sim e U w0 S0 nt ⟨σ.s,(k,.buf oa ty sz rows')::aA k σ.m⟩ a w' _ L:=⟨t1,fun t=>t3 _ _ (fun _=>⟨rfl,rfl⟩) (h1.rel t),h1.size,h1.defers,t2⟩;exact ⟨_,L,xi.put (ZjM k4) hd⟩
theorem Zy8 (ho:o.op=.call ⟨.value c,args,ts⟩) {R:List D->Prop} (hc:qK (aL σ.s c)=some (f,caps)) (hx:kV (args.toList.map (aL σ.s))=some xs) (bV:k9 e f (xs++caps.map .one) R) (hK:∀ r,R r->K ⟨aI σ.s o.dst (bh r),σ.m⟩):iT e o σ K:=by
 intro he U w0 S0 nt a w Q hd ⟨S,L,h1⟩;obtain ⟨us,hv,cu⟩:=Zfp hc (h1.eval c);have qZ:cx w S xs (args.toList.map a.eval):=Dc hx (by simp) (th (fun p _=>h1.eval p));obtain ⟨io,bV⟩:=bV;have ip:=bV w S _ h1.cls.sin (fun b hb=>Tbd (h1.cls.ein b hb) h1.cls.bsz) h1.cls.g (qZ.append (cx.caps cu));have hg:gives e.P o a.eval w fun v w'=>∃ r,R r∧∃ S':Nat->Prop,(∀ b,S b->S' b)∧Cls e U w0.heap.size S0 σ.m w' S' L∧Kept e.D e.E w.heap.size w w'∧ax w' S' L (bh r) v:=by
  unfold gives;rw [Zhf ho hv io];exact ip.mono fun en w' ⟨v,r,h0,hr,h2,h3,h4⟩=>⟨v,h0,r,hr,_,fun b hb=>.inl hb,h1.cls.later h2 h3 (fun b hb=>.inl hb) (fun b hb=>hb),h2,ZjM h4⟩
 exact xE hg fun v w' ⟨r,hr,S',hS,hC,hk,ha⟩=>⟨_,hK r hr,S',L,(h1.later hC hk hS).put ha hd⟩
theorem Zsc (ho:o.op=.makeMap t none) (hK:∀ b:Nat,K ⟨aI σ.s o.dst (.d (.one (.lit (.map (some b))))),σ.m⟩):iT e o σ K:=by
 intro he U w0 S0 nt a w Q hd ⟨S,L,h1⟩;have hb:Below w.heap.size w (w.alloc (.map #[] 0)):=wF w _;have hk:Kept e.D e.E w.heap.size w (w.alloc (.map #[] 0)):=Kept.of_below hb (fun _=>Tai _);have hC:=h1.cls;have Bb:Cls e U w0.heap.size S0 σ.m (w.alloc (.map #[] 0)) S L:=hC.later hk (he.keep _ _ hb.size (fun b hE=>hb.block b (Tbd (hC.ein b hE) hC.bsz)) hC.g) (fun _ h=>h) (fun _ h=>.inl h);unfold Oper.wp
 refine m213 fun aJ=>?_
 rw [aJ,Oper.upon_value];exact ⟨_,hK w.heap.size,S,L,(h1.later Bb hk (fun _ h=>h)).put (by simp [ax,aW,aQ]) hd⟩
end
def pinned:Bk->Bool
 | .var (some _) _=>true
 | .buf (some _) _ _ _=>true
 | .set _ _=>true
 | _=>false
def ej (m:List (Nat × Bk)):List Nat->Option (List Bk)
 | []=>some []
 | k::ks=>match gm m k,ej m ks with
  | some x,some r=>some (x::r)
  | _,_=>none
def aZ:List Nat->List Bk->List (Nat × Bk)
 | k::ks,x::xs=>(k,x)::aZ ks xs
 | _,_=>[]
def nD:List Nat->List (Nat × Bk)->List (Nat × Bk)
 | [],m=>m
 | k::ks,m=>nD ks (aA k m)
def ph:List Nat->List (Nat × A)->List (Nat × A)
 | [],s=>s
 | k::ks,s=>ph ks (bM k s)
def jy (z:List (Nat × Bk)) (L:Lay):Lay :=
 ⟨fun k=>match gm z k with
  | some (.var (some b) _)=>b
  | _=>L.b k,fun k=>match gm z k with
  | some (.buf (some (a,cap)) _ _ rows)=>.slice a rows.length cap
  | _=>L.v k⟩
theorem Aj {w:World} {S:Nat->Prop} {z:List (Nat × Bk)} {L:Lay} {x:Bk} (h:mQ w S x) (hz:gm z k=some x):bL w S (jy z L) k x∧∀ g,cQ (jy z L) k x g ↔ dU x g:=by
 cases x with
 | var o cs =>
  cases o with
  | none=>exact h.elim
  | some b =>
   simp only [bL,cQ,dU,(by simp only [jy,hz]:(jy z L).b k=b)];exact ⟨⟨fun b' dC=>by injection dC,h⟩,fun _=>trivial⟩
 | buf o ty sz rows =>
  cases o with
  | none=>exact h.elim
  | some q =>
   obtain ⟨a,cap⟩:=q;simp only [bL,cQ,dU,(by simp only [jy,hz]:(jy z L).v k=.slice a rows.length cap)];exact ⟨⟨fun a' de=>by injection de with de;rw [<- de],h⟩,fun _=>trivial⟩
 | set E G=>exact ⟨h,fun g=>Iff.rfl⟩
theorem yX {w:World} {S:Nat->Prop} {L:Lay} {x:Bk} (h:bL w S L k x) (hp:pinned x=true):mQ w S x∧∀ g,cQ L k x g ↔ dU x g:=by
 cases x with
 | var o cs =>
  cases o with
  | none=>simp [pinned] at hp
  | some b =>
   obtain ⟨h0,h1⟩:=h;have e:=h0 b rfl;exact m241
 | buf o ty sz rows =>
  cases o with
  | none=>simp [pinned] at hp
  | some q =>
   obtain ⟨a,cap⟩:=q;obtain ⟨h0,h1⟩:=h;have e:=h0 (a,cap) rfl;exact m241
 | set E G=>exact ⟨h,fun g=>Iff.rfl⟩
theorem Zy9 {z m:List (Nat × Bk)}:gm (z++m) k=match gm z k with
  | some x=>some x
  | none=>gm m k:=by
 induction z with
 | nil=>rfl
 | cons q r ih =>
  obtain ⟨k',x⟩:=q;simp only [Taf,gm];split
  ·rfl
  ·exact ih
theorem Dd {pm:List Bk} {x:Bk} (h:gm (aZ ks pm) k=some x):k∈ks∧x∈pm:=by
 induction ks generalizing pm with
 | nil=>cases h
 | cons q r ih =>
  cases pm with
  | nil=>cases h
  | cons y ys =>
   simp only [aZ,gm] at h;split at h
   ·rename_i e;injection h with h;exact ⟨by simp [e],by simp [h]⟩
   ·have:=ih h;exact ⟨Tal _ this.1,Tal _ this.2⟩
theorem ZkR {pm:List Bk} (ha:mT pm) {k':Nat} {x x':Bk} {g:Nat} (h:gm (aZ ks pm) k=some x) (h':gm (aZ ks pm) k'=some x') (hb:dU x g) (dC:dU x' g):k=k':=by
 induction ks generalizing pm with
 | nil=>cases h
 | cons q r ih =>
  cases pm with
  | nil=>cases h
  | cons y ys =>
   simp only [aZ,gm] at h h';obtain ⟨a1,a2⟩:=ha;split at h
   ·rename_i e;injection h with h;subst h
    split at h'
    ·rename_i e';rw [e,e']
    ·exact (a1 _ (Dd h').2 g hb dC).elim
   ·split at h'
    ·injection h' with h';subst h'
     exact (a1 _ (Dd h).2 g dC hb).elim
    ·exact ih a2 h h'
theorem Zsd {m:List (Nat × Bk)}:gm (nD ks m) k=if k∈ks then none else gm m k:=by
 induction ks generalizing m with
 | nil=>simp [nD]
 | cons q r ih =>
  simp only [nD,ih,iL,Tbg];by_cases h1:k∈r
  ·simp [h1]
  ·by_cases h2:k=q <;> simp [h1,h2]
theorem ZkS (t:Nat):∀ (ks:List Nat) (s:List (Nat × A)),(gs (ph ks s) t=gs s t∧∀ k∈ks,¬ zm k (gs s t))∨gs (ph ks s) t=.undef
 | [],s=>.inl ⟨rfl,by simp⟩
 | k::ks,s=>by
  rcases ZkS t ks (bM k s) with ⟨h1,h2⟩ | h1
  ·rcases Am k t s with ⟨h3,h4⟩ | h3
   ·refine .inl ⟨h1.trans h3,fun k' eV=>?_⟩;rcases Tbg.1 eV with rfl | eV
    ·exact h4
    ·rw [<- h3];exact h2 k' eV
   ·exact .inr (h1.trans h3)
  ·exact .inr h1
theorem An {m:List (Nat × Bk)}:∀ {ks:List Nat} {pm:List Bk},ej m ks=some pm->∀ x∈pm,∃ k∈ks,gm m k=some x
 | [],pm,h,x,hx=>by simp only [ej,Taq] at h;subst h;cases hx
 | k::ks,pm,h,x,hx=>by
  simp only [ej] at h;split at h
  ·rename_i y r h1 h2;injection h with h;subst h
   rcases Tbg.1 hx with rfl | hx
   ·exact ⟨k,by simp,h1⟩
   ·obtain ⟨k',h3,h4⟩:=An h2 x hx;exact ⟨k',Tal _ h3,h4⟩
  ·cases h
theorem ZhC {m:List (Nat × Bk)} {w:World} {S:Nat->Prop} {L:Lay} (eH:∀ k x,gm m k=some x->bL w S L k x) (ym:∀ k k' x x' g,gm m k=some x->gm m k'=some x'->cQ L k x g->cQ L k' x' g->k=k') :
  ∀ {ks:List Nat} {pm:List Bk},ks.Nodup->ej m ks=some pm->(∀ x∈pm,pinned x=true)->mT pm
 | [],pm,_,h,_=>by simp only [ej,Taq] at h;subst h;trivial
 | k::ks,pm,hn,h,hp=>by
  simp only [ej] at h;split at h
  ·rename_i y r h1 h2;injection h with h;subst h
   rw [List.nodup_cons] at hn;refine ⟨fun x hx g hy hxg=>?_,ZhC eH ym hn.2 h2 (fun x hx=>hp x (Tal _ hx))⟩;obtain ⟨k',h3,h4⟩:=An h2 x hx;exact hn.1 ((ym k k' y x g h1 h4 (((yX (eH k y h1) (hp y (by simp))).2 g).2 hy) (((yX (eH k' x h4) (hp x (Tal _ hx))).2 g).2 hxg)) ▸ h3)
  ·cases h
section
variable {e:Env} {σ:St} {o:Oper} {K:St->Prop} {c:Operand} {args:Array Operand} {ts:Array TypeId} {f:FuncId} {caps:List C} {xs:List D}
theorem ZG0 (ho:o.op=.call ⟨.value c,args,ts⟩) (ks du:List Nat) {pm:List Bk} {R:List D->List Bk->Prop} (hn:ks.Nodup) (iO:ej σ.m ks=some pm) (hpn:pm.all pinned=true) (hc:qK (aL σ.s c)=some (f,caps)) (hx:kV (args.toList.map (aL σ.s))=some xs) (bV:aR e f (xs++caps.map .one) pm R)
  (hK:∀ r bX,R r bX->K ⟨aI (ph (ks++du) σ.s) o.dst (bh r),aZ du bX++nD (ks++du) σ.m⟩):iT e o σ K:=by
 intro he U w0 S0 nt a w Q hd ⟨S,L,h1⟩;have hpn:∀ x∈pm,pinned x=true:=fun x hx=>List.all_eq_true.1 hpn x hx;obtain ⟨us,hv,cu⟩:=Zfp hc (h1.eval c);have qZ:cx w S xs (args.toList.map a.eval):=Dc hx (by simp) (th (fun p _=>h1.eval p));obtain ⟨io,bV⟩:=bV;have fW:∀ g,dV pm g->∃ k x,k∈ks∧gm σ.m k=some x∧cQ L k x g:=fun g ⟨x,hx,hg⟩=>by
  exact m159
 have ip:=bV w S _ h1.cls.sin (fun b hb=>Tbd (h1.cls.ein b hb) h1.cls.bsz) h1.cls.g (fun x hx=>by
  obtain ⟨k,hk,oz⟩:=An iO x hx;have:=yX (h1.cls.own k x oz) (hpn x hx);exact ⟨this.1,fun g hg=>h1.cls.notE oz ((this.2 g).2 hg)⟩) (ZhC h1.cls.own h1.cls.inj hn iO hpn) (qZ.append (cx.caps cu))
 have hg:gives e.P o a.eval w fun v w'=>∃ r bX,R r bX∧Kept e.D (fun b=>e.E b∨dV pm b) w.heap.size w w'∧e.G w' ∧
   (∀ x∈bX,mQ w' (fun b=>(S b∨dV pm b∨(w.heap.size<=b∧b < w'.heap.size))∧¬ dV bX b) x∧∀ g,dU x g->dV pm g∨w.heap.size<=g)∧mT bX ∧
   ax w' (fun b=>(S b∨dV pm b∨(w.heap.size<=b∧b < w'.heap.size))∧¬ dV bX b) ⟨fun _=>0,fun _=>Go.undef⟩ (bh r) v:=by
  unfold gives;rw [Zhf ho hv io];exact ip.mono fun en w' ⟨v,r,bX,q0,q1⟩=>⟨v,q0,r,bX,q1⟩
 refine xE hg fun v w' ⟨r,bX,hR,k1,k2,k3,k4,k5⟩=>⟨_,hK r bX hR,?_⟩;have au:∀ g,dV pm g->g < w.heap.size∧¬ S g∧¬ e.E g∧(w0.heap.size<=g∨U g):=fun g hg=>by
  exact m143
 have hz:∀ k x,gm (aZ du bX++nD (ks++du) σ.m) k=some x->(gm (aZ du bX) k=some x∧k∈ks++du∧x∈bX)∨(¬ k∈ks++du∧gm (aZ du bX) k=none∧gm σ.m k=some x):=fun k x hx=>by
  exact m76
 obtain ⟨t1,t2,t3⟩:=h1.touchM (p:=fun k=>k∈ks++du) (m':=aZ du bX++nD (ks++du) σ.m) (w':=w') (S':=fun b=>(S b∨dV pm b∨(w.heap.size<=b∧b < w'.heap.size))∧¬ dV bX b) (L':=jy (aZ du bX) L) (τ:=dV pm)
  (fun b hs=>⟨.inl hs,fun ⟨x,hx,hg⟩=>by
   rcases (k3 x hx).2 b hg with q | q
   ·exact (au b q).2.1 hs
   ·have:=(h1.cls.sin b hs).1;omega⟩)
  (fun b hb=>hb.1.elim .inl (fun q=>.inr (q.elim (fun q=>.inl ⟨q,(au b q).1⟩) .inr)))
  (fun k x hp hx=>by
   rcases hz k x hx with ⟨_,h2,_⟩ | ⟨_,_,h3⟩
   ·exact (hp h2).elim
   ·exact h3)
  (fun k hp=>by
   have hzn:gm (aZ du bX) k=none:=by
    cases se:gm (aZ du bX) k with
    | none=>rfl
    | some y=>exact (hp (Tbh.2 (.inr (Dd se).1))).elim
   simp only [jy,hzn,and_self])
  (fun g hg=>(au g hg).2)
  (fun k x g hp hx hg hb=>by
   obtain ⟨k',x',eV,BI,dC⟩:=fW g hg;rcases hz k x hx with ⟨_,h2,_⟩ | ⟨_,_,h3⟩
   ·exact hp h2
   ·have:=h1.cls.inj k k' x x' g h3 BI hb dC;subst this;exact hp (Tbh.2 (.inl eV)))
  k1 k2
  (fun k x hp hx=>by
   rcases hz k x hx with ⟨h2,_,h3⟩ | ⟨h2,_,_⟩
   ·have:=Aj (L:=L) (k3 x h3).1 h2;exact ⟨this.1,fun g hg=>(k3 x h3).2 g ((this.2 g).1 hg)⟩
   ·exact (h2 hp).elim)
  (fun k k' x x' g hp ek hx bj hb dC=>by
   rcases hz k x hx with ⟨h2,_,h3⟩ | ⟨h2,_,_⟩
   ·rcases hz k' x' bj with ⟨js,_,py⟩ | ⟨js,_,_⟩
    ·have q:=Aj (L:=L) (k3 x h3).1 h2;have q':=Aj (L:=L) (k3 x' py).1 js;exact ZkR k4 h2 js ((q.2 g).1 hb) ((q'.2 g).1 dC)
    ·exact (js ek).elim
   ·exact (h2 hp).elim)
 have xi:Sim e U w0 S0 nt ⟨ph (ks++du) σ.s,aZ du bX++nD (ks++du) σ.m⟩ a w' (fun b=>(S b∨dV pm b∨(w.heap.size<=b∧b < w'.heap.size))∧¬ dV bX b) (jy (aZ du bX) L):=by
  refine ⟨t1,fun t=>?_,h1.size,h1.defers,t2⟩;show ax w' _ _ (gs (ph (ks++du) σ.s) t) _;rcases ZkS t (ks++du) σ.s with ⟨q1,q2⟩ | q1
  ·rw [q1];exact t3 _ _ (fun k hp hk=>(q2 k hp hk).elim) (h1.rel t)
  ·rw [q1];trivial
 exact ⟨_,_,xi.put (ZjM k5) hd⟩
end
def iF (f:A->A):List (Nat × A)->List (Nat × A)
 | []=>[]
 | (t,a)::r=>(t,f a)::iF f r
theorem ZlW {f:A->A} (hf:f .undef=.undef) (t:Nat):∀ (s:List (Nat × A)),gs (iF f s) t=f (gs s t)
 | []=>by simp [iF,gs,hf]
 | (t',x)::r=>by
  simp only [iF,gs];split
  ·rfl
  ·exact ZlW hf t r
def lG (k b:Nat):A->A
 | .ref k' off=>if k'=k then .d (.one (.lit (.pointer (some ⟨b,off,none⟩)))) else .ref k' off
 | x=>x
def iE (k:Nat) (a:Option Addr) (n cap:Nat):A->A
 | .buf k'=>if k'=k then .d (.one (.lit (.slice a n cap))) else .buf k'
 | x=>x
theorem Cls.swap {e:Env} {U:Nat->Prop} {base:Nat} {S0:Nat->Prop} {m:List (Nat × Bk)} {w:World} {S:Nat->Prop} {L:Lay} (h:Cls e U base S0 m w S L) {bk bk':Bk} (hm:gm m k=some bk) (ho:bL w S L k bk') (hb:∀ g,cQ L k bk' g->cQ L k bk g):Cls e U base S0 ((k,bk')::aA k m) w S L:=by
 have key:∀ k' x,gm ((k,bk')::aA k m) k'=some x->(k'=k∧x=bk')∨(k'≠k∧gm m k'=some x):=fun k' x hx=>by
  simp only [gm,iL] at hx;split at hx
  ·rename_i e;injection hx with hx;exact .inl ⟨e,hx.symm⟩
  ·exact .inr ⟨by assumption,hx⟩
 refine ⟨h.sin,h.sfr,h.ein,h.uin,h.bsz,fun k' x g hx hg=>?_,fun k' x hx=>?_,fun k1 k2 x x' g hx bj hg fo=>?_,h.g⟩
 ·rcases key k' x hx with ⟨rfl,rfl⟩ | ⟨_,hx⟩
  ·exact h.mine _ _ g hm (hb g hg)
  ·exact h.mine _ _ g hx hg
 ·rcases key k' x hx with ⟨rfl,rfl⟩ | ⟨_,hx⟩
  ·exact ho
  ·exact h.own _ _ hx
 ·rcases key k1 x hx with ⟨e1,e2⟩ | ⟨_,q1⟩
  ·rcases key k2 x' bj with ⟨e3,e4⟩ | ⟨_,q2⟩
   ·rw [e1,e3]
   ·subst e1 e2;exact h.inj _ _ _ _ g hm q2 (hb g hg) fo
  ·rcases key k2 x' bj with ⟨e3,e4⟩ | ⟨_,q2⟩
   ·subst e3 e4;exact h.inj _ _ _ _ g q1 hm hg (hb g fo)
   ·exact h.inj _ _ _ _ g q1 q2 hg fo
section
variable {e:Env} {σ:St}
theorem Zza (k:Nat) {cs:List C} (hm:gm σ.m k=some (.var none cs)):jJ e σ (fun σ'=>∃ b,(∀ k' b' gc,k'≠k->gm σ.m k'=some (.var (some b') gc)->b≠b')∧σ'=⟨iF (lG k b) σ.s,(k,.var (some b) cs)::aA k σ.m⟩):=by
 intro he U w0 S0 nt a w ⟨S,L,h⟩;have ho:bL w S L k (.var none cs):=h.cls.own k _ hm;refine ⟨_,⟨L.b k,fun k' b' gc hk BJ hb=>hk ?_,rfl⟩,S,L,h.cls.swap hm (bk':=.var (some (L.b k)) cs) ⟨fun b hb=>by injection hb,ho.2⟩ (fun g hg=>hg),fun t=>?_,h.size,h.defers,h.kept⟩
 ·exact h.cls.inj k' k _ _ b' BJ hm ((h.cls.own k' _ BJ).1 b' rfl) hb
 ·show ax w S L (gs (iF (lG k (L.b k)) σ.s) t) _;rw [ZlW rfl];have hr:=h.rel t;generalize gs σ.s t=x at hr ⊢
  cases x with
  | ref k' off =>
   simp only [lG];by_cases hk:k'=k
   ·subst hk;simp only [if_true];have hr:a.tmps.getD t undef=.pointer (some ⟨L.b k',off,none⟩):=hr;simp [ax,aW,aQ,hr]
   ·simp only [hk,if_false];exact hr
  | _=>exact hr
theorem Zp7 (k:Nat) {rows:List (List C)} (hm:gm σ.m k=some (.buf none ety sz rows)):jJ e σ (fun σ'=>∃ a cap,σ'=⟨iF (iE k a rows.length cap) σ.s,(k,.buf (some (a,cap)) ety sz rows)::aA k σ.m⟩):=by
 intro he U w0 S0 nt a w ⟨S,L,h⟩;obtain ⟨_,ho⟩:_∧ei w S ety sz rows (L.v k):=h.cls.own k _ hm;obtain ⟨p,cap,hv⟩:∃ p cap,L.v k=.slice p rows.length cap:=by
  obtain ⟨_,_,h3⟩:=ho;rcases h3 with ⟨h4,p,hv⟩ | ⟨g,cap,bc,hv,_⟩
  ·exact ⟨p,0,by rw [hv,h4];rfl⟩
  ·exact ⟨_,cap,hv⟩
 refine ⟨_,⟨p,cap,rfl⟩,S,L,h.cls.swap hm (bk':=.buf (some (p,cap)) ety sz rows) ⟨fun q hq=>by injection hq with hq;rw [<- hq];exact hv,ho⟩ (fun g hg=>hg),fun t=>?_,h.size,h.defers,h.kept⟩;show ax w S L (gs (iF (iE k p rows.length cap) σ.s) t) _;rw [ZlW rfl];have hr:=h.rel t;generalize gs σ.s t=x at hr ⊢
 cases x with
 | buf k' =>
  simp only [iE];by_cases hk:k'=k
  ·subst hk;simp only [if_true];have hr:a.tmps.getD t undef=L.v k':=hr;simp [ax,aW,aQ,hr,hv]
  ·simp only [hk,if_false];exact hr
 | _=>exact hr
theorem ZDe (t:Nat):jJ e σ (fun σ'=>σ'=⟨(t,fu σ.m (gs σ.s t))::σ.s,σ.m⟩):=by
 intro he U w0 S0 nt a w ⟨S,L,h⟩;refine ⟨_,rfl,S,L,h.cls,fun t'=>?_,h.size,h.defers,h.kept⟩;simp only [gs];split
 ·rename_i e;subst e;exact rM h.cls (h.rel _)
 ·exact h.rel t'
theorem ZDf (t ety sz:Nat) (hs:0 < sz) (ht:gs σ.s t=.d (.clip [])):jJ e σ (fun σ'=>σ'=⟨(t,.buf t)::bM t σ.s,(t,.buf none ety sz [])::aA t σ.m⟩):=by
 intro he U w0 S0 nt a w ⟨S,L,h⟩;have hv:=h.rel t;rw [ht] at hv;have au:t < nt:=by
  rcases Nat.lt_or_ge t nt with hl | hl
  ·exact hl
  ·have:a.tmps.getD t undef=undef:=by rw [Array.getD_eq_getD_getElem?,Array.getElem?_eq_none (by rw [h.size];exact hl)];rfl
   rw [this] at hv;obtain ⟨_,p,n,hp⟩:=hv
   cases hp
 obtain ⟨S',L',h'⟩:=h.empty (ety:=ety) he au hs hv;refine ⟨_,rfl,S',L',h'.cls,fun t'=>?_,h.size,h.defers,h'.kept⟩;have:=h'.rel t';rw [tG (by rw [h.size];exact au)] at this;split at this
 ·rename_i e;rw [e];rw [e] at this;exact this
 ·exact this
end
section
variable {e:Env} {σ:St}
theorem Zpr (ks du:List Nat) {pm:List Bk} {Φ:List Bk->Prop} (hn:ks.Nodup) (iO:ej σ.m ks=some pm) (hpn:pm.all pinned=true)
  (dp:∀ (w:World) (S:Nat->Prop),(∀ x∈pm,mQ w S x)->mT pm->∃ bX,Φ bX∧(∀ x∈bX,mQ w S x)∧mT bX∧∀ g,dV bX g->dV pm g) :
  jJ e σ (fun σ'=>∃ bX,Φ bX∧σ'=⟨ph (ks++du) σ.s,aZ du bX++nD (ks++du) σ.m⟩):=by
 intro he U w0 S0 nt a w ⟨S,L,h1⟩;have hpn:∀ x∈pm,pinned x=true:=fun x hx=>List.all_eq_true.1 hpn x hx;have fW:∀ g,dV pm g->∃ k x,k∈ks∧gm σ.m k=some x∧cQ L k x g:=fun g ⟨x,hx,hg⟩=>by
  exact m159
 obtain ⟨bX,hΦ,k3,k4,et⟩:=dp w S (fun x hx=>by
  obtain ⟨k,hk,oz⟩:=An iO x hx;exact (yX (h1.cls.own k x oz) (hpn x hx)).1) (ZhC h1.cls.own h1.cls.inj hn iO hpn)
 have au:∀ g,dV pm g->g < w.heap.size∧¬ S g∧¬ e.E g∧(w0.heap.size<=g∨U g):=fun g hg=>by
  exact m143
 have hz:∀ k x,gm (aZ du bX++nD (ks++du) σ.m) k=some x->(gm (aZ du bX) k=some x∧k∈ks++du∧x∈bX)∨(¬ k∈ks++du∧gm (aZ du bX) k=none∧gm σ.m k=some x):=fun k x hx=>by
  exact m76
 obtain ⟨t1,t2,t3⟩:=h1.touchM (p:=fun k=>k∈ks++du) (m':=aZ du bX++nD (ks++du) σ.m) (w':=w) (S':=S) (L':=jy (aZ du bX) L) (τ:=dV pm)
  (fun b hs=>hs) (fun b hb=>.inl hb)
  (fun k x hp hx=>by
   rcases hz k x hx with ⟨_,h2,_⟩ | ⟨_,_,h3⟩
   ·exact (hp h2).elim
   ·exact h3)
  (fun k hp=>by
   have hzn:gm (aZ du bX) k=none:=by
    cases se:gm (aZ du bX) k with
    | none=>rfl
    | some y=>exact (hp (Tbh.2 (.inr (Dd se).1))).elim
   simp only [jy,hzn,and_self])
  (fun g hg=>(au g hg).2)
  (fun k x g hp hx hg hb=>by
   obtain ⟨k',x',eV,BI,dC⟩:=fW g hg;rcases hz k x hx with ⟨_,h2,_⟩ | ⟨_,_,h3⟩
   ·exact hp h2
   ·have:=h1.cls.inj k k' x x' g h3 BI hb dC;subst this;exact hp (Tbh.2 (.inl eV)))
  (Kept.refl _ _ _ _) h1.cls.g
  (fun k x hp hx=>by
   rcases hz k x hx with ⟨h2,_,h3⟩ | ⟨h2,_,_⟩
   ·have:=Aj (L:=L) (k3 x h3) h2;exact ⟨this.1,fun g hg=>.inl (et g ⟨x,h3,(this.2 g).1 hg⟩)⟩
   ·exact (h2 hp).elim)
  (fun k k' x x' g hp ek hx bj hb dC=>by
   rcases hz k x hx with ⟨h2,_,h3⟩ | ⟨h2,_,_⟩
   ·rcases hz k' x' bj with ⟨js,_,py⟩ | ⟨js,_,_⟩
    ·have q:=Aj (L:=L) (k3 x h3) h2;have q':=Aj (L:=L) (k3 x' py) js;exact ZkR k4 h2 js ((q.2 g).1 hb) ((q'.2 g).1 dC)
    ·exact (js ek).elim
   ·exact (h2 hp).elim)
 refine ⟨_,⟨bX,hΦ,rfl⟩,S,jy (aZ du bX) L,t1,fun t=>?_,h1.size,h1.defers,t2⟩;show ax w _ _ (gs (ph (ks++du) σ.s) t) _;rcases ZkS t (ks++du) σ.s with ⟨q1,q2⟩ | q1
 ·rw [q1];exact t3 _ _ (fun k hp hk=>(q2 k hp hk).elim) (h1.rel t)
 ·rw [q1];trivial
theorem ZDg (κ ety sz:Nat) (hs:0 < sz):jJ e σ (fun σ'=>σ'=⟨bM κ σ.s,(κ,.buf (some (none,0)) ety sz [])::aA κ σ.m⟩):=by
 intro he U w0 S0 nt a w ⟨S,L,h⟩
 obtain ⟨t1,t2,t3⟩:=h.touchT (d:=κ) (bk:=.buf (some (none,0)) ety sz []) (m':=(κ,.buf (some (none,0)) ety sz [])::aA κ σ.m) (w':=w) (S':=S) (L':=⟨L.b,fun k=>if k=κ then .slice none 0 0 else L.v k⟩) (τ:=fun _=>False)
  (fun _ h=>h) (fun _ h=>.inl h) (fun k x cj hx=>by simp only [gm,cj,if_false,iL] at hx;exact hx) (by simp [gm]) (fun k cj=>by simp [cj]) (fun g hg=>hg.elim) (fun k x g cj hx hg=>hg.elim)
  (Kept.refl _ _ _ _) h.cls.g ⟨fun q hq=>by injection hq with hq;subst hq;simp,hs,rowsLen.nil,.inl ⟨rfl,none,by simp⟩⟩ (fun g hg=>by simp [cQ,aP] at hg)
 refine ⟨_,rfl,S,_,t1,fun t=>?_,h.size,h.defers,t2⟩;show ax w S _ (gs (bM κ σ.s) t) _;rcases Am κ t σ.s with ⟨q1,q2⟩ | q1
 ·rw [q1];exact t3 _ _ (fun hk=>(q2 hk).elim) (h.rel t)
 ·rw [q1];trivial
def eT (a:Option Addr) (n cap:Nat) (rows:List (List C)):C->C
 | .lit (.slice a' n' dz)=>if a'=a∧n'=n∧dz=cap then .sl rows else .lit (.slice a' n' dz)
 | c=>c
def pu (a:Option Addr) (n cap:Nat) (rows:List (List C)):A->A
 | .d (.one c)=>.d (.one (eT a n cap rows c))
 | .d (.agg cs)=>.d (.agg (cs.map (eT a n cap rows)))
 | x=>x
def datS (a:Option Addr) (n cap:Nat) (rows:List (List C)):List Nat->List (Nat × A)->List (Nat × A)
 | [],s=>s
 | t::ts,s=>datS a n cap rows ts ((t,pu a n cap rows (gs s t))::s)
def uS (a:Option Addr) (n cap:Nat) (rows:List (List C)) (k:Nat) (m:List (Nat × Bk)):Option Bk->List (Nat × Bk)
 | some (.var o cs)=>(k,.var o (cs.map (eT a n cap rows)))::aA k m
 | _=>m
def datM (a:Option Addr) (n cap:Nat) (rows:List (List C)):List Nat->List (Nat × Bk)->List (Nat × Bk)
 | [],m=>m
 | k::ks,m=>datM a n cap rows ks (uS a n cap rows k m (gm m k))
section
variable {w:World} {S:Nat->Prop} {a:Option Addr} {n cap:Nat} {rows:List (List C)}
theorem ZmZ (hr:aQ w S (.sl rows) (.slice a n cap)) {c:C} {v:Value} (h:aQ w S c v):aQ w S (eT a n cap rows c) v:=by
 unfold eT;split
 ·rename_i a' n' dz;split
  ·rename_i hq;obtain ⟨rfl,rfl,rfl⟩:=hq;rw [(by simpa [aQ] using h:v=.slice a' n' dz)];exact hr
  ·exact h
 ·exact h
theorem Zm0 (hr:aQ w S (.sl rows) (.slice a n cap)) {b:Nat}:∀ {cs:List C} {off:Nat},bn w S b off cs->bn w S b off (cs.map (eT a n cap rows))
 | [],_,h=>h
 | c::cs,off,h=>by
  simp only [Tbu,bn] at h ⊢;obtain ⟨⟨u,h1,h2⟩,h3⟩:=h;exact ⟨⟨u,h1,ZmZ hr h2⟩,Zm0 hr h3⟩
theorem Zp8 (hr:aQ w S (.sl rows) (.slice a n cap)):∀ {cs:List C} {us:List Value},aC w S cs us->aC w S (cs.map (eT a n cap rows)) us
 | [],[],h=>h
 | c::cs,u::us,h=>by
  simp only [Tbu,aC] at h ⊢;exact ⟨ZmZ hr h.1,Zp8 hr h.2⟩
 | [],_::_,h=>h
 | _::_,[],h=>h
theorem ZDh {L:Lay} (hr:aQ w S (.sl rows) (.slice a n cap)) {x:A} {v:Value} (h:ax w S L x v):ax w S L (pu a n cap rows x) v:=by
 cases x with
 | d x =>
  cases x with
  | one c=>exact ZmZ hr h
  | agg cs=>obtain ⟨vs,h1,h2⟩:=h;exact ⟨vs,h1,Zp8 hr h2⟩
  | clip rs=>exact h
 | _=>exact h
end
theorem Sim.datS {U:Nat->Prop} {w0:World} {S0:Nat->Prop} {nt:Nat} {ac:Act} {w:World} {S:Nat->Prop} {L:Lay} {a:Option Addr} {n cap:Nat} {rows:List (List C)} (hr:aQ w S (.sl rows) (.slice a n cap)):∀ (ts:List Nat) (σ:St),Sim e U w0 S0 nt σ ac w S L->Sim e U w0 S0 nt ⟨datS a n cap rows ts σ.s,σ.m⟩ ac w S L
 | [],σ,h=>h
 | t::ts,σ,h=>Sim.datS hr ts ⟨(t,pu a n cap rows (gs σ.s t))::σ.s,σ.m⟩ ⟨h.cls,fun t'=>by
   simp only [gs];split
   ·rename_i e';subst e';exact ZDh hr (h.rel _)
   ·exact h.rel t',h.size,h.defers,h.kept⟩
theorem Sim.datM {U:Nat->Prop} {w0:World} {S0:Nat->Prop} {nt:Nat} {ac:Act} {w:World} {S:Nat->Prop} {L:Lay} {a:Option Addr} {n cap:Nat} {rows:List (List C)} (hr:aQ w S (.sl rows) (.slice a n cap)):∀ (ks:List Nat) (σ:St),Sim e U w0 S0 nt σ ac w S L->Sim e U w0 S0 nt ⟨σ.s,datM a n cap rows ks σ.m⟩ ac w S L
 | [],σ,h=>h
 | k::ks,σ,h=>by
  refine Sim.datM hr ks ⟨σ.s,uS a n cap rows k σ.m (gm σ.m k)⟩ ?_;unfold uS;split
  ·rename_i o cs hm;obtain ⟨h0,h1,h2,⟨oq,ty,h3,h4⟩,h5⟩:=h.cls.own k _ hm;exact ⟨h.cls.swap hm (bk':=.var o (cs.map (eT a n cap rows))) ⟨h0,h1,h2,⟨oq,ty,h3,by rw [Tay];exact h4⟩,Zm0 hr h5⟩ (fun g hg=>hg),h.rel,h.size,h.defers,h.kept⟩
  ·exact h
theorem Zse (k:Nat) (ts ks:List Nat) {a:Option Addr} {rows:List (List C)} (hm:gm σ.m k=some (.buf (some (a,cap)) ety sz rows)) :
  jJ e σ (fun σ'=>σ'=⟨datS a rows.length cap rows ts (eF k (.buf (some (a,cap)) ety sz rows) σ.s),datM a rows.length cap rows ks (aA k σ.m)⟩):=by
 intro he U w0 S0 nt ac w ⟨S,L,h⟩;have ho:=h.cls.own k _ hm;have hv:L.v k=.slice a rows.length cap:=ho.1 (a,cap) rfl;have jY:=ei.rep ho.2;rw [hv] at jY;obtain ⟨S',L',h',kv⟩:=h.freeze2 he hm;have hr:aQ w S' (.sl rows) (.slice a rows.length cap):=jY.mono fun b hb=>(kv b).2 (hb.imp id (fun q=>by show aP (L.v k)=some b;rw [hv];exact q));exact ⟨_,rfl,S',L',(Sim.datM hr ks ⟨_,aA k σ.m⟩ (Sim.datS hr ts _ h'))⟩
theorem Zuk {o:Oper} {K:St->Prop} (ho:o.op=.build t parts) {cs gc:List C} (hz:lp e.P t=some cs) (bm:uo e.P t=true) (aj:cs.all aY=true) (hf:qN e.P t cs (parts.toList.map fun p=>(p.1,aL σ.s p.2))=some gc)
  (hK:K ⟨aI σ.s o.dst (.d (.agg gc)),σ.m⟩):iT e o σ K:=by
 intro he U w0 S0 nt a w Q hd ⟨S,L,h⟩;unfold lp at hz;simp only [Tav,Option.bind_eq_some_iff] at hz;obtain ⟨v,⟨i,hi,hv⟩,rfl⟩:=hz;exact Oper.wp_mono (fun a' w' hs=>⟨_,hK,hs⟩) (C2 h hd (ZkK ho hi hv bm aj (fun w S=>Zh0 _) hf))
end
section
variable {e:Env} {U:Nat->Prop} {w0:World} {S0:Nat->Prop} {nt:Nat} {σ:St} {a:Act} {w:World} {S:Nat->Prop} {L:Lay} {o:Oper}
theorem Dh {ops:List Oper} {j d:Nat} (h:((ops.map (·.dst))[j]?).join=some d):(ops.toArray[j]?).bind (·.dst)=some d:=by
 simp only [Tba] at h;simp only [List.getElem?_toArray]
 cases ho:ops[j]? with
 | none=>rw [ho] at h;simp at h
 | some p=>rw [ho] at h;simpa using h
theorem ax.bool {b:Bool} {v:Value} (h:ax w S L (.d (.one (.lit (.bool b)))) v):v=.bool b:=by simpa [ax,aW,aQ] using h
theorem ZkT {l:Array Value} {d:Nat} {b:Bool} (h:l.getD d undef=.bool b):l[d]?=some (.bool b):=by
 by_cases hd:d < l.size
 ·simp [hd] at h;simp [hd,h]
 ·simp [hd,undef] at h
theorem Zzb (h:Sim e U w0 S0 nt σ a w S L) {ops:List Oper} {j:Nat} {b8 b:Bool} (hg:o.guard=some (j,b8)) (hs:(((ops.map (·.dst))[j]?).join.map (gs σ.s))=some (.d (.one (.lit (.bool b))))):Region.wanted o (yielded ops.toArray a.tmps)=decide (b=b8):=by
 simp only [Tav] at hs;obtain ⟨d,h1,h2⟩:=hs;have h3:=h.rel d;rw [h2] at h3;have h4:=ZkT h3.bool;have h5:((ops.toArray[j]?).bind (·.dst))=some d:=Dh h1;simp only [Region.wanted,hg,(by unfold yielded;rw [h5];simp only [Option.bind_some,h4]:yielded ops.toArray a.tmps j=some b)]
 cases b <;> cases b8 <;> rfl
theorem ZxD {l:Array Value} {d:Nat} (h:l.getD d undef=undef):l[d]?=some undef∨l[d]?=none:=by
 by_cases hd:d < l.size
 ·simp [hd] at h;simp [hd,h]
 ·simp [hd]
theorem ZkU {ops:Array Oper} {tmps:Array Value} {j d:Nat} {b8:Bool} (hg:o.guard=some (j,b8)) (hs:(ops[j]?).bind (·.dst)=some d) (h:tmps.getD d undef=undef):Region.wanted o (yielded ops tmps)=false:=by
 have h6:yielded ops tmps j=none:=by
  unfold yielded;rw [hs];rcases ZxD h with h1 | h1 <;> simp only [Option.bind_some,h1]
  rfl
 simp only [Region.wanted,hg,h6]
 cases b8 <;> rfl
def sD (e:Env) (ds:List (Option Nat)) (os:List Oper) (σ:St) (K:St->Prop):Prop:=e.Ok->∀ (U:Nat->Prop) (w0:World) (S0:Nat->Prop) (nt:Nat) (a:Act) (w:World) (ops:List Oper) (Q:Exit->Act->World->Prop),ops.map (·.dst)=ds->(∀ o∈os,∀ d,o.dst=some d->d < nt) ->
 (∀ a w σ',K σ'->aN e U w0 S0 nt σ' a w->Q .normal a w)->aN e U w0 S0 nt σ a w->wpList e.P ops.toArray Q os a w
def al (e:Env) (ds:List (Option Nat)):Nat->List Oper->St->(St->Prop)->Prop
 | 0,os,σ,K=>sD e ds os σ K
 | _+1,[],σ,K=>K σ
 | n+1,o::os,σ,K=>match o.guard with
  | none=>if n=0∧jb o=true then ∃ d t cs,o.dst=some d∧o.op=.alloc t∧iJ e.P t=some cs∧sD e ds os ⟨(d,.ref d 0)::bM d σ.s,(d,.var none cs)::aA d σ.m⟩ K
   else zh e o σ (fun σ'=>al e ds n os σ' K)
  | some (j,b8)=>match (ds[j]?.join).map (gs σ.s) with
   | some (.d (.one (.lit (.bool b))))=>if b=b8 then zh e o σ (fun σ'=>al e ds n os σ' K) else al e ds n os ⟨aI σ.s o.dst .no,σ.m⟩ K
   | some .no=>al e ds n os ⟨aI σ.s o.dst .no,σ.m⟩ K
   | _=>False
theorem Zzc {ds:List (Option Nat)} {K:St->Prop} {σ:St} (h:K σ):sD e ds [] σ K:=fun he U w0 S0 nt a w ops Q bG hd hQ hs=>hQ a w σ h hs
theorem ZxE {ds:List (Option Nat)} {K:St->Prop} {os:List Oper} {σ:St} {P:St->Prop} (hT:jJ e σ P) (h:∀ σ',P σ'->sD e ds os σ' K):sD e ds os σ K:=fun he U w0 S0 nt a w ops Q bG hd hQ hs=>by
 obtain ⟨σ',h1,h2⟩:=hT he U w0 S0 nt a w hs;exact h σ' h1 he U w0 S0 nt a w ops Q bG hd hQ h2
theorem ut {ds:List (Option Nat)} {K:St->Prop} {os:List Oper} {σ:St} {o:Oper} (hg:o.guard=none) (h:iT e o σ (fun σ'=>sD e ds os σ' K)):sD e ds (o::os) σ K:=fun he U w0 S0 nt a w ops Q bG hd hQ hs=>by
 unfold wpList;rw [if_pos (by simp [Region.wanted,hg]:Region.wanted o (yielded ops.toArray a.tmps)=true)];exact .inl (Oper.wp_mono (fun a' w' ⟨σ',hK,hS⟩=>hK he U w0 S0 nt a' w' ops Q bG (fun o' bZ=>hd o' (by simp [bZ])) hQ hS) (h he U w0 S0 nt a w Q (hd o (by simp)) hs))
theorem Zul {ds:List (Option Nat)} {K:St->Prop} {os:List Oper} {σ:St} {o:Oper} {j:Nat} {b8:Bool} (hg:o.guard=some (j,b8)) (h:match (ds[j]?.join).map (gs σ.s) with
   | some (.d (.one (.lit (.bool b))))=>if b=b8 then iT e o σ (fun σ'=>sD e ds os σ' K) else sD e ds os ⟨aI σ.s o.dst .no,σ.m⟩ K
   | some .no=>sD e ds os ⟨aI σ.s o.dst .no,σ.m⟩ K
   | _=>False):sD e ds (o::os) σ K:=fun he U w0 S0 nt a w ops Q bG hd hQ hs=>by
 unfold wpList;obtain ⟨S,L,h1⟩:=id hs;subst bG;split at h
 ·rename_i b hb;rw [Zzb h1 hg hb];by_cases kw:b=b8
  ·rw [if_pos kw] at h;simp only [kw,decide_true,if_true];exact .inl (Oper.wp_mono (fun a' w' ⟨σ',hK,hS⟩=>hK he U w0 S0 nt a' w' ops Q rfl (fun o' bZ=>hd o' (by simp [bZ])) hQ hS) (h he U w0 S0 nt a w Q (hd o (by simp)) hs))
  ·rw [if_neg kw] at h;simp only [kw,decide_false,Tam,if_false];exact h he U w0 S0 nt _ _ ops Q rfl (fun o' bZ=>hd o' (by simp [bZ])) hQ ⟨S,L,h1.put (α:=.no) rfl (hd o (by simp))⟩
 ·rename_i hb;simp only [Tav] at hb;obtain ⟨d,iZ,jC⟩:=hb;have h3:=h1.rel d;rw [jC] at h3;rw [ZkU (d:=d) hg (Dh iZ) h3];simp only [Tam,if_false];exact h he U w0 S0 nt _ _ ops Q rfl (fun o' bZ=>hd o' (by simp [bZ])) hQ ⟨S,L,h1.put (α:=.no) rfl (hd o (by simp))⟩
 ·exact h.elim
theorem Zps (he:e.Ok) (ops:List Oper) {K:St->Prop} {Q:Exit->Act->World->Prop} (hQ:∀ a w σ',K σ'->aN e U w0 S0 nt σ' a w->Q .normal a w) (os:List Oper) (σ:St) (a:Act) (w:World) (hd:∀ o∈os,∀ d,o.dst=some d->d < nt) (h:aN e U w0 S0 nt σ a w) (hp:al e (ops.map (·.dst)) 0 os σ K):wpList e.P ops.toArray Q os a w:=by
 exact (by simpa only [al] using hp:sD e (ops.map (·.dst)) os σ K) he U w0 S0 nt a w ops Q rfl hd hQ h
end
section
variable {e:Env} {U:Nat->Prop} {w0:World} {S0:Nat->Prop} {nt:Nat} {ops:Array Oper} {n:Nat}
structure HeadAt (ops:Array Oper) (n i:Nat) (o:Oper) (d:Nat):Prop where
 op:ops[i]?=some o
 dst:o.dst=some d
 back:∀ e∈o.after,Region.binds .any e=true->e.on < i
 guard:∀ j b8,o.guard=some (j,b8)->j < n∧Region.waitsFor .any ops i j=true
 dep:∀ (j:Nat) (p:Oper),j < n->ops[j]?=some p->(j≠i->p.dst≠some d)∧(∀ t∈rN o,p.dst=some t->Region.waitsFor .any ops i j=true)
theorem on.get (h:on ops n=true) {i:Nat} (hi:i < n):∃ o d,HeadAt ops n i o d:=by
 have h1:=List.all_eq_true.1 h i (List.mem_range.2 hi)
 cases ho:ops[i]? with
 | none=>rw [ho] at h1;simp at h1
 | some o =>
  rw [ho] at h1;simp only [Tar] at h1;obtain ⟨⟨⟨h2,h3⟩,h5⟩,h4⟩:=h1;obtain ⟨d,hd⟩:=Option.isSome_iff_exists.1 h2;refine ⟨o,d,ho,hd,fun e he hb=>?_,fun j b8 hg=>?_,fun j p hj hp=>?_⟩
  ·have:=Array.all_eq_true'.1 h3 e he;simpa [hb] using this
  ·rw [hg] at h5;simpa using h5
  ·have h5:=List.all_eq_true.1 h4 j (List.mem_range.2 hj);rw [hp] at h5;simp only [Tar,Bool.or_eq_true,beq_iff_eq,bne_iff_ne,ne_eq,Bool.not_eq_true'] at h5;refine ⟨fun bq hpd=>?_,fun t ht lW=>?_⟩
   ·rcases h5.1 with h | h
    ·exact bq h
    ·exact h (hpd.trans hd.symm)
   ·rcases h5.2 with h | h
    ·have:=List.any_eq_false.1 h t ht;simp [lW] at this
    ·exact h
theorem HeadAt.waits {i:Nat} {o:Oper} {d j:Nat} (h:HeadAt ops n i o d) (hw:Region.waitsFor .any ops i j=true):∃ e∈o.after,Region.binds .any e=true∧e.on=j:=by
 obtain ⟨p3,qu,e,he,ly,D0⟩:=Region.waitsFor_spec hw;rw [h.op] at qu;injection qu with qu
 subst qu;exact ⟨e,he,ly,D0⟩
def xR (e:Env) (U:Nat->Prop) (base:Nat) (S0:Nat->Prop) (m:List (Nat × Bk)) (ops:List Oper) (o:Oper) (s:List (Nat × A)) (α:A):Prop :=
 match o.guard with
 | none=>iM e U base S0 m o (aL s) α
 | some (j,b8)=>(∃ b,((ops.map (·.dst))[j]?).join.map (gs s)=some (.d (.one (.lit (.bool b))))∧if b=b8 then iM e U base S0 m o (aL s) α else α=.no)∨(((ops.map (·.dst))[j]?).join.map (gs s)=some .no∧α=.no)
def oM (e:Env) (U:Nat->Prop) (base:Nat) (S0:Nat->Prop) (m:List (Nat × Bk)) (ops:List Oper):List Oper->List (Nat × A)->List A->Prop
 | [],_,[]=>True
 | o::os,s,α::αs=>xR e U base S0 m ops o s α∧oM e U base S0 m ops os (aI s o.dst α) αs
 | _,_,_=>False
def after:List (Nat × A)->List Oper->List A->List (Nat × A)
 | s,o::os,α::αs=>after (aI s o.dst α) os αs
 | s,_,_=>s
theorem C3 (he:e.Ok) (base:Nat) (S0:Nat->Prop) (l:List Oper) {K:St->Prop} (rest:List Oper) (k:Nat):∀ (os:List Oper) (σ:St),(k=0->∀ o,os.getLast?=some o->jb o=false)->al e (l.map (·.dst)) (os.length+k) (os++rest) σ K ->
  ∃ αs,αs.length=os.length∧oM e U base S0 σ.m l os σ.s αs∧al e (l.map (·.dst)) k rest ⟨after σ.s os αs,σ.m⟩ K
 | [],σ,_,h=>⟨[],rfl,trivial,by rw [Tak,Nat.zero_add] at h;exact h⟩
 | o::os,σ,hl,h=>by
  have ih:=fun (σ':St) (h':al e (l.map (·.dst)) (os.length+k) (os++rest) σ' K)=>C3 he base S0 l rest k os σ' (fun hk o' bZ=>by
   cases os with
   | nil=>cases bZ
   | cons p ps=>exact hl hk o' (by rw [List.getLast?_cons_cons];exact bZ)) h'
  rw [Tag,show os.length+1+k=(os.length+k)+1 by omega] at h;simp only [Taf,al] at h
  cases hg:o.guard with
  | none =>
   rw [hg] at h;simp only at h;have yp:¬ (os.length+k=0∧jb o=true):=fun ⟨h1,h2⟩=>by
    have h3:os=[]:=Tao om;subst h3;rw [hl om o rfl] at h2
    cases h2
   rw [if_neg yp] at h;obtain ⟨α,h1,h2⟩:=h he;obtain ⟨αs,h3,h4,h5⟩:=ih _ h1;exact ⟨α::αs,by simp [h3],⟨by unfold xR;rw [hg];exact h2 U base S0,h4⟩,h5⟩
  | some jw =>
   obtain ⟨j,b8⟩:=jw;rw [hg] at h;simp only at h;split at h
   ·rename_i b hb;by_cases kw:b=b8
    ·rw [if_pos kw] at h;obtain ⟨α,h1,h2⟩:=h he;obtain ⟨αs,h3,h4,h5⟩:=ih _ h1;exact ⟨α::αs,by simp [h3],⟨by unfold xR;rw [hg];exact .inl ⟨b,hb,by rw [if_pos kw];exact h2 U base S0⟩,h4⟩,h5⟩
    ·rw [if_neg kw] at h;obtain ⟨αs,h3,h4,h5⟩:=ih _ h;exact ⟨.no::αs,by simp [h3],⟨by unfold xR;rw [hg];exact .inl ⟨b,hb,by rw [if_neg kw]⟩,h4⟩,h5⟩
   ·rename_i hb;obtain ⟨αs,h3,h4,h5⟩:=ih _ h;exact ⟨.no::αs,by simp [h3],⟨by unfold xR;rw [hg];exact .inr ⟨hb,rfl⟩,h4⟩,h5⟩
   ·exact h.elim
theorem oM.get {base:Nat} {m:List (Nat × Bk)} {l:List Oper}:∀ {os:List Oper} {s:List (Nat × A)} {αs:List A},oM e U base S0 m l os s αs->∀ (i:Nat) (o:Oper),os[i]?=some o->∃ α,αs[i]?=some α∧xR e U base S0 m l o (after s (os.take i) (αs.take i)) α
 | [],_,_,_,i,o,h=>by simp at h
 | p::os,s,[],h,_,_,_=>by simp [oM] at h
 | p::os,s,α::αs,h,0,o,ho=>by
  simp at ho;subst ho;exact ⟨α,by simp,by simpa [after] using h.1⟩
 | p::os,s,α::αs,h,i+1,o,ho=>by
  obtain ⟨β,h1,h2⟩:=oM.get h.2 i o (by simpa using ho);exact ⟨β,by simpa using h1,by simpa [after] using h2⟩
theorem Zd1 {t:Nat}:∀ (os:List Oper) (αs:List A) (s:List (Nat × A)),(∀ o∈os,o.dst≠some t)->gs (after s os αs) t=gs s t
 | [],αs,s,_=>by cases αs <;> rfl
 | o::os,[],s,_=>rfl
 | o::os,α::αs,s,h=>by
  simp only [after];rw [Zd1 os αs _ (fun p hp=>h p (by simp [hp]))]
  cases hd:o.dst with
  | none=>rfl
  | some d =>
   have:t≠d:=fun e=>h o (by simp) (by rw [hd,e]);simp [aI,gs,this]
theorem Ze7 {t:Nat}:∀ (os:List Oper) (αs:List A) (s:List (Nat × A)) (i:Nat) (o:Oper) (α:A),os[i]?=some o->αs[i]?=some α->o.dst=some t->(∀ (j:Nat) (p:Oper),j≠i->os[j]?=some p->p.dst≠some t)->gs (after s os αs) t=α
 | [],_,_,_,_,_,h,_,_,_=>by simp at h
 | _::_,[],_,_,_,_,_,h,_,_=>by simp at h
 | p::os,β::αs,s,0,o,α,h1,h2,h3,h4=>by
  simp at h1 h2;subst h1 h2;simp only [after];rw [Zd1 os αs _ (fun q hq=>by obtain ⟨j,hj⟩:=List.mem_iff_getElem?.1 hq;exact h4 (j+1) q om (by simpa using hj))];simp [h3,aI,gs]
 | p::os,β::αs,s,i+1,o,α,h1,h2,h3,h4=>by
  simp only [after];exact Ze7 os αs _ i o α (by simpa using h1) (by simpa using h2) h3 (fun j q hj hq=>h4 (j+1) q om (by simpa using hq))
structure InvA (e:Env) (U:Nat->Prop) (w0:World) (S0:Nat->Prop) (nt:Nat) (m:List (Nat × Bk)) (ops:Array Oper) (n:Nat) (s:List (Nat × A)) (αs:List A) (L:Lay) (ag:Array Bool) (a:Act) (w:World) (S:Nat->Prop):Prop where
 head:HeadInv .any ops n ag
 size:a.tmps.size=nt
 defers:a.defers=[]
 cls:Cls e U w0.heap.size S0 m w S L
 kept:Kept e.D (fun b=>e.E b∨U b) w0.heap.size w0 w
 out:∀ t,(∀ (i:Nat) (o:Oper),i < n->ops[i]?=some o->o.dst≠some t)->ax w S L (gs s t) (a.tmps.getD t undef)
 done:∀ (i:Nat) (o:Oper) (d:Nat) (α:A),i < n->ag.getD i false=true->ops[i]?=some o->o.dst=some d->αs[i]?=some α->ax w S L α (a.tmps.getD d undef)
variable {m:List (Nat × Bk)} {s:List (Nat × A)} {αs:List A} {L:Lay}
theorem InvA.operand (hH:on ops n=true) (hn:n<=ops.size) {ag:Array Bool} {a:Act} {w:World} {S:Nat->Prop} (hI:InvA e U w0 S0 nt m ops n s αs L ag a w S) (ca:αs.length=n) {i:Nat} {o:Oper} {d:Nat} (hA:HeadAt ops n i o d) (hi:i < n)
  (aD:∀ e∈o.after,Region.binds .any e=true->ag.getD e.on false=true) {t:Nat} (hw:∀ (j:Nat) (p:Oper),j < n->ops[j]?=some p->p.dst=some t->Region.waitsFor .any ops i j=true) :
  ax w S L (gs (after s (ops.toList.take i) (αs.take i)) t) (a.tmps.getD t undef):=by
 by_cases pI:∃ (j:Nat) (p:Oper),j < n∧ops[j]?=some p∧p.dst=some t
 ·obtain ⟨j,p,hj,hp,lW⟩:=pI;obtain ⟨e',he',ly,D0⟩:=hA.waits (hw j p hj hp lW);have hl:=aD e' he' ly;rw [D0] at hl;have i9:=hA.back e' he' ly;rw [D0] at i9;obtain ⟨α,hα⟩:∃ α,αs[j]?=some α:=⟨αs[j],Taa om⟩;obtain ⟨p',d',hP⟩:=on.get hH hj;have hpp:p'=p:=by have:=hP.op;rw [hp] at this;injection this with this;exact this.symm
  subst hpp;have hdt:d'=t:=by have:=hP.dst;rw [lW] at this;injection this with this;exact this.symm
  subst hdt;rw [Ze7 (ops.toList.take i) (αs.take i) s j p' α (by rw [List.getElem?_take,if_pos i9];simpa using hp) (by rw [List.getElem?_take,if_pos i9];exact hα) lW (fun k q hk hq=>by
   rw [List.getElem?_take] at hq;split at hq
   ·exact (hP.dep k q om (by simpa using hq)).1 hk
   ·cases hq)]
  exact hI.done j p' d' α hj hl hp lW hα
 ·have bC:∀ (j:Nat) (p:Oper),j < n->ops[j]?=some p->p.dst≠some t:=fun j p hj hp hd=>pI ⟨j,p,hj,hp,hd⟩;rw [Zd1 _ _ _ (fun p hp=>by
   obtain ⟨j,hj⟩:=List.mem_iff_getElem?.1 hp;rw [List.getElem?_take] at hj;split at hj
   ·exact bC j p om (by simpa using hj)
   ·cases hj)]
  exact hI.out t bC
theorem InvA.put (hH:on ops n=true) {ag:Array Bool} {a:Act} {w:World} {S:Nat->Prop} (hI:InvA e U w0 S0 nt m ops n s αs L ag a w S) {i:Nat} {o:Oper} {d:Nat} {α:A} {v:Value} (hA:HeadAt ops n i o d) (hi:i < n) (hr:i∈Region.ready .any ops ag) (fL:d < nt)
  (hα:αs[i]?=some α) (hS:∀ b,S b->S' b) (hC:Cls e U w0.heap.size S0 m w' S' L) (hk:Kept e.D e.E w.heap.size w w') (hv:ax w' S' L α v) :
  InvA e U w0 S0 nt m ops n s αs L (ag.setIfInBounds i true) (a.put o.dst v) w' S':=by
 have au:d < a.tmps.size:=by rw [hI.size];exact fL
 rw [hA.dst];refine ⟨hI.head.set hr hi,by simp [Act.put,hI.size],by simp [Act.put,hI.defers],hC,hI.kept.trans ⟨hk.os,hk.tape,hk.output,hk.drawn,hk.size,fun b hb hE=>hk.block b (by have:=hI.cls.bsz;omega) (fun h1=>hE (.inl h1))⟩,fun t ht=>?_,fun j p dj β hj hl hp jg hβ=>?_⟩
 ·rw [tG au];have:t≠d:=fun eq=>ht i o hi hA.op (by rw [hA.dst,eq]);rw [if_neg this];exact (hI.out t ht).keep hk.size (hI.cls.cell hk) hS
 ·rw [tG au];by_cases i9:j=i
  ·subst i9;rw [hA.op] at hp;injection hp with hp
   subst hp;rw [hA.dst] at jg;injection jg with jg
   subst jg;rw [hα] at hβ;injection hβ with hβ
   subst hβ;simpa using hv
  ·have bq:dj≠d:=fun eq=>(hA.dep j p hj hp).1 i9 (by rw [jg,eq]);rw [if_neg bq];rw [getD_set_ne false (Ne.symm i9)] at hl;exact (hI.done j p dj β hj hl hp jg hβ).keep hk.size (hI.cls.cell hk) hS
theorem ZkV (hH:on ops n=true) {ag:Array Bool} (hh:HeadInv .any ops n ag) {i:Nat} (hi:i < n) (kG:ag.getD i true=false):Region.ready .any ops ag≠[]:=by
 induction i using Nat.strongRecOn with
 | _ i ih =>
  obtain ⟨o,d,hA⟩:=on.get hH hi;by_cases aD:∀ e∈o.after,Region.binds .any e=true->ag.getD e.on false=true
  ·intro h0;have:=mem_ready.2 ⟨kG,o,hA.op,aD⟩;rw [h0] at this
   cases this
  ·simp only [Classical.not_forall] at aD;obtain ⟨e,he,hb,hl⟩:=aD;have au:=hA.back e he hb;have hs:e.on < ag.size:=by rw [hh.size];have:=(Tbl.1 hA.op).1;omega
   exact ih e.on au om (by rw [np hs];simpa using hl)
def ZkW (e:Env) (U:Nat->Prop) (w0:World) (S0:Nat->Prop) (nt:Nat) (m:List (Nat × Bk)) (ops:Array Oper) (n:Nat) (s:List (Nat × A)) (αs:List A) (L:Lay) (J:Array Bool->Act->World->(Nat->Prop)->Prop) (Q:Exit->Act->World->Prop):Prop :=
 ∀ (ag:Array Bool) (a:Act) (w:World) (S:Nat->Prop) (i:Nat) (o:Oper) (d:Nat) (α:A),InvA e U w0 S0 nt m ops n s αs L ag a w S->J ag a w S->HeadAt ops n i o d->i < n->i∈Region.ready .any ops ag->d < nt->αs[i]?=some α ->
  (∀ x∈o.op.operands,ax w S L (aL (after s (ops.toList.take i) (αs.take i)) x) (a.eval x))->iM e U w0.heap.size S0 m o (aL (after s (ops.toList.take i) (αs.take i))) α ->
  o.wp e.P a w (fun a' w'=>∃ S',InvA e U w0 S0 nt m ops n s αs L (ag.setIfInBounds i true) a' w' S'∧J (ag.setIfInBounds i true) a' w' S') Q
theorem Zi1 (hH:on ops n=true) (Q:Exit->Act->World->Prop):ZkW e U w0 S0 nt m ops n s αs L (fun _ _ _ _=>True) Q :=
 fun ag a w S i o d α hI _ hA eY hr fL hα co hG=>xE (hG w S L a.eval hI.cls co) fun v w' ⟨S',hS,hC,hk,hv⟩=>⟨S',hI.put hH hA eY hr fL hα hS.1 hC hk hv,trivial⟩
theorem Al {J:Array Bool->Act->World->(Nat->Prop)->Prop} (he:e.Ok) (hH:on ops n=true) (hn:n<=ops.size) (hs:n < ops.size->Region.sinkB .any ops n=true∧Region.chainB .any ops n=true) (qw:Region.seqB .any ops (ops.size - n) n (mj ops.size n)=true)
  (bO:∀ (i:Nat) (o:Oper) (d:Nat),i < n->ops[i]?=some o->o.dst=some d->d < nt) (ca:αs.length=n) (nN:oM e U w0.heap.size S0 m ops.toList (ops.toList.take n) s αs) {Q:Exit->Act->World->Prop} (kX:ZkW e U w0 S0 nt m ops n s αs L J Q)
  (vy:∀ (ag:Array Bool) (a:Act) (w:World) (S:Nat->Prop) (i:Nat) (o:Oper) (d:Nat),J ag a w S->InvA e U w0 S0 nt m ops n s αs L ag a w S->HeadAt ops n i o d->i < n->i∈Region.ready .any ops ag->d < nt->o.guard≠none->J (ag.setIfInBounds i true) (a.put o.dst undef) w S)
  (i8:∀ ag a w S,InvA e U w0 S0 nt m ops n s αs L ag a w S->J ag a w S->(∀ i,i < n->ag.getD i false=true)->wpList e.P ops Q (ops.toList.drop n) a w) :
  ∀ (k:Nat) (ag:Array Bool) (a:Act) (w:World) (S:Nat->Prop),InvA e U w0 S0 nt m ops n s αs L ag a w S->J ag a w S->(List.range n).countP (fun i=>!ag.getD i true)=k->wpAny e.P .any ops Q (k+(ops.size - n)) ag a w
 | 0,ag,a,w,S,hI,hJ,hc=>by
  have aD:∀ i,i < n->ag.getD i true=true:=fun i hi=>by
   have:=List.countP_eq_zero.1 hc i (List.mem_range.2 hi);simpa using this
  have heq:=Zp4 hI.head hn aD;have sO:(ops.toList.drop n).length=ops.size - n:=by simp
  have hE:=i8 ag a w S hI hJ (fun i hi=>by
   have hl:i < ag.size:=by rw [hI.head.size];omega
   rw [<- np hl];exact aD i hi)
  have:=wpAny_of_seq (md:=.any) (Q':=Q) (ops.toList.drop n) n ag a w (fun j=>by simp [Tbb]) (by rw [sO,heq];exact qw) hE;rw [sO] at this;simpa using this
 | k+1,ag,a,w,S,hI,hJ,hc=>by
  obtain ⟨i0,nP,gl⟩:∃ i,i < n∧ag.getD i true=false:=by
   have:0 < (List.range n).countP (fun i=>!ag.getD i true):=om;obtain ⟨i,hi,hp⟩:=List.countP_pos_iff.1 this;exact ⟨i,List.mem_range.1 hi,by simpa using hp⟩
  rw [show k+1+(ops.size - n)=(k+(ops.size - n))+1 by omega];refine ⟨fun h0=>absurd h0 (ZkV hH hI.head nP gl),fun i hr=>?_⟩;obtain ⟨kG,oi,gh,aD⟩:=mem_ready.1 hr;have eY:i < n:=by
   rcases Nat.lt_or_ge i n with h | h
   ·exact h
   ·have hns:n < ops.size:=Nat.lt_of_le_of_lt h (Tbl.1 gh).1;exact absurd hr (tail_waits (hs hns).1 (hs hns).2 hns hI.head _ i0 rfl nP gl i h)
  obtain ⟨o,d,hA⟩:=on.get hH eY;have vp:oi=o:=by have:=hA.op;rw [gh] at this;injection this
  subst vp;have cb:i < ag.size:=by rw [hI.head.size];exact (Tbl.1 gh).1
  obtain ⟨α,hα,bm⟩:=nN.get i oi (by rw [List.getElem?_take,if_pos eY];simpa using gh);have htk:(ops.toList.take n).take i=ops.toList.take i:=by rw [List.take_take,Nat.min_eq_left om]
  rw [htk] at bm;have fL:=bO i oi d eY gh hA.dst;have jt:(List.range n).countP (fun j=>!(ag.setIfInBounds i true).getD j true)=k:=by
   have h1:(List.range n).countP (fun j=>!(ag.setIfInBounds i true).getD j true)+1=(List.range n).countP (fun j=>!ag.getD j true):=by
    have ff:=List.perm_cons_erase (List.mem_range.2 eY);rw [ff.countP_eq,ff.countP_eq,List.countP_cons,List.countP_cons];have mt:((List.range n).erase i).countP (fun j=>!(ag.setIfInBounds i true).getD j true)=((List.range n).erase i).countP (fun j=>!ag.getD j true):=by
     refine List.countP_congr fun j hj=>?_;have bq:j≠i:=fun e=>by
      subst e;exact List.Nodup.not_mem_erase (List.nodup_range) hj
     rw [getD_set_ne true (Ne.symm bq)]
    rw [mt,kG];simp [cb]
   omega
  have co:∀ x∈oi.op.operands,ax w S L (aL (after s (ops.toList.take i) (αs.take i)) x) (a.eval x):=fun x hx=>by
   cases x with
   | tmp t =>
    exact hI.operand hH hn ca hA eY aD (fun j p hj hp lW=>(hA.dep j p hj hp).2 t (List.mem_filterMap.2 ⟨.tmp t,by simpa using hx,rfl⟩) lW)
   | const v =>
    simp only [aL,Act.eval];unfold uF;split
    ·simp only [ax,aW,aQ];exact ⟨⟨none,0,0,rfl,rfl,Tai _,by decide,fun h=>absurd h (by decide)⟩,none,0,rfl⟩
    ·rename_i vs;exact ⟨vs.toList,rfl,yZ _⟩
    ·simp [ax,aW,aQ]
   | func f =>
    simp only [aL,Act.eval,ax,aW,aQ];exact ⟨[],rfl,by simp [aC]⟩
   | global g=>trivial
  have go:iM e U w0.heap.size S0 m oi (aL (after s (ops.toList.take i) (αs.take i))) α->oi.wp e.P a w (wpAny e.P .any ops Q (k+(ops.size - n)) (ag.setIfInBounds i true)) Q:=fun hG =>
   Oper.wp_mono (fun a' w' ⟨S',hI',hJ'⟩=>Al he hH hn hs qw bO ca nN kX vy i8 k _ _ _ S' hI' hJ' jt) (kX ag a w S i oi d α hI hJ hA eY hr fL hα co hG)
  unfold wpOp;simp only [gh];unfold xR at bm
  cases hg:oi.guard with
  | none =>
   rw [hg] at bm;have B6:Region.wanted oi (yielded ops a.tmps)=true:=by simp [Region.wanted,hg]
   rw [if_pos B6];exact .inl (go bm)
  | some jw =>
   obtain ⟨j,b8⟩:=jw;rw [hg] at bm;obtain ⟨sP,hjw⟩:=hA.guard j b8 hg;have pL:∀ dj,((ops[j]?).bind (·.dst))=some dj->ax w S L (gs (after s (ops.toList.take i) (αs.take i)) dj) (a.tmps.getD dj undef):=fun dj jg=>hI.operand hH hn ca hA eY aD (t:=dj) (fun j' p ka hp lW=>by
    obtain ⟨p0,d0,Bg⟩:=on.get hH sP;have r9:d0=dj:=by have:=jg;rw [Bg.op] at this;simp [Bg.dst] at this;exact this
    by_cases hjj:j'=j
    ·rw [hjj];exact hjw
    ·exact absurd (by rw [lW,r9]) ((Bg.dep j' p ka hp).1 hjj))
   rcases bm with ⟨b,iZ,jC⟩ | ⟨iZ,jC⟩
   rotate_left
   ·simp only [Tav] at iZ;obtain ⟨dj,tW,qX⟩:=iZ;have jg:((ops[j]?).bind (·.dst))=some dj:=by simpa using Dh tW
    have kD:=pL dj jg;rw [qX] at kD;rw [ZkU hg jg kD];subst jC;simp only [Tam,if_false];exact Al he hH hn hs qw bO ca nN kX vy i8 k _ _ _ S (hI.put hH hA eY hr fL hα (fun _ h=>h) hI.cls (Kept.refl _ _ _ _) rfl) (vy ag a w S i oi d hJ hI hA eY hr fL (by rw [hg];simp)) jt
   simp only [Tav] at iZ;obtain ⟨dj,tW,qX⟩:=iZ;have jg:((ops[j]?).bind (·.dst))=some dj:=by simpa using Dh tW
   have kD:=pL dj jg;rw [qX] at kD;have h4:=ZkT kD.bool;have B6:Region.wanted oi (yielded ops a.tmps)=decide (b=b8):=by
    have h6:yielded ops a.tmps j=some b:=by unfold yielded;rw [jg];simp only [Option.bind_some,h4]
    simp only [Region.wanted,hg,h6]
    cases b <;> cases b8 <;> rfl
   rw [B6];by_cases kw:b=b8
   ·rw [if_pos kw] at jC;simp only [kw,decide_true,if_true];exact .inl (go jC)
   ·rw [if_neg kw] at jC;subst jC;simp only [kw,decide_false,Tam,if_false];exact Al he hH hn hs qw bO ca nN kX vy i8 k _ _ _ S (hI.put hH hA eY hr fL hα (fun _ h=>h) hI.cls (Kept.refl _ _ _ _) rfl) (vy ag a w S i oi d hJ hI hA eY hr fL (by rw [hg];simp)) jt
end
end Go.Proofs.YtbecmfjokofihaaGreatDoor
