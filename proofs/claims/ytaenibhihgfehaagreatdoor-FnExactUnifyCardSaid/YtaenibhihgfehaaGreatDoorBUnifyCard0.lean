/-
  Part of a proof.
-/
import Derived.WalkKit
import Derived.WalkSpells
import Derived.WalkLawsBesides
import Derived.Lib.Hide
import Derived.Deep.Draws
import Derived.Test.YtaenibhihgfehaaGreatDoorRows
import Derived.ChangeSame
import Derived.JoinedOf
import Derived.JoinedAt
import Derived.RowKit
import Derived.RowKit2
import Derived.OpenShut
import Derived.ProofKit
import Derived.Deep.Slices
import Derived.Carry
import Derived.StillTailTactics
import Derived.StillTail
import Derived.Great.BuildSlice
import Derived.Laws.AppendOwn
import Derived.Laws.MakeOwn
set_option linter.unusedSimpArgs false
set_option linter.unusedVariables false
set_option linter.defProp false
set_option maxHeartbeats 400000000
set_option maxRecDepth 100000
namespace Go.Proofs.YtaenibhihgfehaaGreatDoor
open Go.RowKit
variable{G3 G4 G5:Prop}
abbrev AT:=List (List Value)
abbrev By:=List (Option Nat)
abbrev BY:=Option Addr
abbrev GK:=List Value
abbrev GL:=List Oper
abbrev GM:=Option Nat
abbrev GN:=List Nat
abbrev GO:=Nat->Prop
variable{p0 p1 p2 p3 p4 p5 p6 p7 p8 p9 p10 p11 p12:Prop}{x y:Operand}{cap sz k off ety:Nat}{S':GO}{w':World}{u:Value}{t:TypeId}{args:Array Operand}{parts:Array (Nat×Operand)}{ts:Array TypeId}{τ:GM}{q:Bool}
variable{ks:GN}
def ai{a b : Prop}(x : a)(y : b) : a /\ b := And.intro x y
def aj3(x0:p0)(x1:p1)(x2:p2) : p0/\p1/\p2 := ⟨x0,x1,x2⟩
def aj4(x0:p0)(x1:p1)(x2:p2)(x3:p3) : p0/\p1/\p2/\p3 := ⟨x0,x1,x2,x3⟩
def aj5(x0:p0)(x1:p1)(x2:p2)(x3:p3)(x4:p4) : p0/\p1/\p2/\p3/\p4 := ⟨x0,x1,x2,x3,x4⟩
def aj6(x0:p0)(x1:p1)(x2:p2)(x3:p3)(x4:p4)(x5:p5) : p0/\p1/\p2/\p3/\p4/\p5 := ⟨x0,x1,x2,x3,x4,x5⟩
def aj7(x0:p0)(x1:p1)(x2:p2)(x3:p3)(x4:p4)(x5:p5)(x6:p6) : p0/\p1/\p2/\p3/\p4/\p5/\p6 := ⟨x0,x1,x2,x3,x4,x5,x6⟩
def aj8(x0:p0)(x1:p1)(x2:p2)(x3:p3)(x4:p4)(x5:p5)(x6:p6)(x7:p7) : p0/\p1/\p2/\p3/\p4/\p5/\p6/\p7 := ⟨x0,x1,x2,x3,x4,x5,x6,x7⟩
def aj9(x0:p0)(x1:p1)(x2:p2)(x3:p3)(x4:p4)(x5:p5)(x6:p6)(x7:p7)(x8:p8) : p0/\p1/\p2/\p3/\p4/\p5/\p6/\p7/\p8 := ⟨x0,x1,x2,x3,x4,x5,x6,x7,x8⟩
def aj10(x0:p0)(x1:p1)(x2:p2)(x3:p3)(x4:p4)(x5:p5)(x6:p6)(x7:p7)(x8:p8)(x9:p9) : p0/\p1/\p2/\p3/\p4/\p5/\p6/\p7/\p8/\p9 := ⟨x0,x1,x2,x3,x4,x5,x6,x7,x8,x9⟩
def aj11(x0:p0)(x1:p1)(x2:p2)(x3:p3)(x4:p4)(x5:p5)(x6:p6)(x7:p7)(x8:p8)(x9:p9)(x10:p10) : p0/\p1/\p2/\p3/\p4/\p5/\p6/\p7/\p8/\p9/\p10 := ⟨x0,x1,x2,x3,x4,x5,x6,x7,x8,x9,x10⟩
def aj12(x0:p0)(x1:p1)(x2:p2)(x3:p3)(x4:p4)(x5:p5)(x6:p6)(x7:p7)(x8:p8)(x9:p9)(x10:p10)(x11:p11) : p0/\p1/\p2/\p3/\p4/\p5/\p6/\p7/\p8/\p9/\p10/\p11 := ⟨x0,x1,x2,x3,x4,x5,x6,x7,x8,x9,x10,x11⟩
def aj13(x0:p0)(x1:p1)(x2:p2)(x3:p3)(x4:p4)(x5:p5)(x6:p6)(x7:p7)(x8:p8)(x9:p9)(x10:p10)(x11:p11)(x12:p12) : p0/\p1/\p2/\p3/\p4/\p5/\p6/\p7/\p8/\p9/\p10/\p11/\p12 := ⟨x0,x1,x2,x3,x4,x5,x6,x7,x8,x9,x10,x11,x12⟩
def aj14{p13:Prop}(x0:p0)(x1:p1)(x2:p2)(x3:p3)(x4:p4)(x5:p5)(x6:p6)(x7:p7)(x8:p8)(x9:p9)(x10:p10)(x11:p11)(x12:p12)(x13:p13) : p0/\p1/\p2/\p3/\p4/\p5/\p6/\p7/\p8/\p9/\p10/\p11/\p12/\p13 := ⟨x0,x1,x2,x3,x4,x5,x6,x7,x8,x9,x10,x11,x12,x13⟩
def aj15{p13 p14:Prop}(x0:p0)(x1:p1)(x2:p2)(x3:p3)(x4:p4)(x5:p5)(x6:p6)(x7:p7)(x8:p8)(x9:p9)(x10:p10)(x11:p11)(x12:p12)(x13:p13)(x14:p14) : p0/\p1/\p2/\p3/\p4/\p5/\p6/\p7/\p8/\p9/\p10/\p11/\p12/\p13/\p14 := ⟨x0,x1,x2,x3,x4,x5,x6,x7,x8,x9,x10,x11,x12,x13,x14⟩
def aj16{p13 p14 p15:Prop}(x0:p0)(x1:p1)(x2:p2)(x3:p3)(x4:p4)(x5:p5)(x6:p6)(x7:p7)(x8:p8)(x9:p9)(x10:p10)(x11:p11)(x12:p12)(x13:p13)(x14:p14)(x15:p15) : p0/\p1/\p2/\p3/\p4/\p5/\p6/\p7/\p8/\p9/\p10/\p11/\p12/\p13/\p14/\p15 := ⟨x0,x1,x2,x3,x4,x5,x6,x7,x8,x9,x10,x11,x12,x13,x14,x15⟩
def om{p : Prop}(h : p := by omega) : p := h
def tqX{a b c p:Prop}(h:a->b\/c->p)(x:a:=by decide)(y:b\/c:=by first|exact .inl rfl|exact .inr rfl):p:=h x y
structure Bx(Y:Prop):Prop where o:Y
def gQ{α:Type}[BEq α][ReflBEq α]{a:α}:(a==a):=beq_self_eq_true a
def lT(x y:Int)(h:x<y:=by omega):(x<y)=True:=eq_true h
def lF(x y:Int)(h:¬x<y:=by omega):(x<y)=False:=eq_false h
def Taa : type_of% @List.getElem?_eq_getElem := @List.getElem?_eq_getElem
def Tac : type_of% @List.mem_of_getElem? := @List.mem_of_getElem?
def Tad : type_of% @List.getElem?_eq_some_iff := @List.getElem?_eq_some_iff
def Tae : type_of% @List.length_append := @List.length_append
def Taf : type_of% @List.cons_append := @List.cons_append
def Tag : type_of% @List.length_cons := @List.length_cons
def Tah : type_of% @List.nil_append := @List.nil_append
def Tai : type_of% @Nat.le_refl := @Nat.le_refl
def Taj : type_of% @Nat.zero_le := @Nat.zero_le
def Tak : type_of% @List.length_nil := @List.length_nil
def Tal : type_of% @List.mem_cons_of_mem := @List.mem_cons_of_mem
def Tam : type_of% @Bool.false_eq_true := @Bool.false_eq_true
def Tan : type_of% @Nat.lt_succ_self := @Nat.lt_succ_self
def Tao : type_of% @List.eq_nil_of_length_eq_zero := @List.eq_nil_of_length_eq_zero
def Tap : type_of% @List.take_length := @List.take_length
def Taq : type_of% @Option.some.injEq := @Option.some.injEq
def Tar : type_of% @Bool.and_eq_true := @Bool.and_eq_true
def Tas : type_of% @List.mem_cons_self := @List.mem_cons_self
def Tat : type_of% @List.getElem?_cons_zero := @List.getElem?_cons_zero
def Tau : type_of% @List.getElem?_cons_succ := @List.getElem?_cons_succ
def Tav : type_of% @Option.map_eq_some_iff := @Option.map_eq_some_iff
def Taw : type_of% @List.length_take := @List.length_take
def Tax : type_of% @List.length_drop := @List.length_drop
def Tay : type_of% @List.length_map := @List.length_map
def Taz : type_of% @List.length_set := @List.length_set
def Tba : type_of% @List.getElem?_map := @List.getElem?_map
def Tbb : type_of% @List.getElem?_drop := @List.getElem?_drop
def Tbc : type_of% @List.take_succ_cons := @List.take_succ_cons
def Tbd : type_of% @Nat.lt_of_lt_of_le := @Nat.lt_of_lt_of_le
def Tbe : type_of% @Nat.le_trans := @Nat.le_trans
def Tbf : type_of% @Nat.lt_of_le_of_lt := @Nat.lt_of_le_of_lt
def Tbg : type_of% @List.append_assoc := @List.append_assoc
def Tbh : type_of% @List.mem_cons := @List.mem_cons
def Tbi : type_of% @List.mem_append := @List.mem_append
def Tbj : type_of% @List.mem_map := @List.mem_map
def Tbk : type_of% @List.mem_singleton := @List.mem_singleton
def Tbl : type_of% @List.getElem?_of_mem := @List.getElem?_of_mem
def Tbm : type_of% @Array.getElem?_eq_some_iff := @Array.getElem?_eq_some_iff
def Tbn : type_of% @List.take_append_drop := @List.take_append_drop
def Tbo : type_of% @List.getElem?_set_self := @List.getElem?_set_self
def Tbp : type_of% @List.getElem?_set_ne := @List.getElem?_set_ne
def Tbq : type_of% @List.getElem?_append_left := @List.getElem?_append_left
def Tbr : type_of% @List.getElem?_append_right := @List.getElem?_append_right
def Tbs : type_of% @List.getElem?_replicate := @List.getElem?_replicate
def Tbt : type_of% @Nat.pow_le_pow_right := @Nat.pow_le_pow_right
def Tbu : type_of% @Nat.testBit_lt_two_pow := @Nat.testBit_lt_two_pow
def Tbv : type_of% @List.map_cons := @List.map_cons
def Tbw : type_of% @List.map_append := @List.map_append
def Tbx : type_of% @List.perm_middle := @List.perm_middle
def Tby : type_of% @Nat.add_assoc := @Nat.add_assoc
def Tbz : type_of% @Int.toNat_natCast := @Int.toNat_natCast
def Tca : type_of% @Int.natCast_nonneg := @Int.natCast_nonneg
def m223(h:G3:=by
 cases c<;>simp only[ix]at h;obtain⟨n,rfl,h⟩:=h;exact⟨n,rfl,h⟩):G3:=h
inductive C where
 |A (v:Value)
 |sl (rows:List (List C))
 |ptr (cs:List C)
 |fn (f:Nat) (caps:List C)
abbrev sh:=List (List C)
abbrev we:=List C
mutual
def aR(w:World)(S:GO):C->Value->Prop
 |.A x,v=>v=x
 | .sl rows,v=>∃A n cap,v=.slice A n cap/\rows.length=n/\n<=cap/\cap<=maxLen /\
   (0<n->∃b off,A=some ⟨b,off,none⟩/\S b/\b<w.heap.size/\ct w S b off rows)
 |.ptr cs,v=>∃b off,v=.pointer (some ⟨b,off,none⟩)/\S b/\b<w.heap.size/\a8 w S b off cs
 |.fn f caps,v=>∃us:GK,v=.func (.func f) #[] us.toArray/\aC w S caps us
def ct(w:World)(S:GO)(b:Nat):Nat->sh->Prop
 |_,[]=>True
 |off,r::rs=>a8 w S b off r/\ct w S b (off+r.length) rs
def a8(w:World)(S:GO)(b:Nat):Nat->we->Prop
 |_,[]=>True
 |off,c::cs=>(∃u,w.cell? ⟨b,off,none⟩=some u/\aR w S c u)/\a8 w S b (off+1) cs
def aC(w:World)(S:GO):we->GK->Prop
 |[],[]=>True
 |c::cs,v::vs=>aR w S c v/\aC w S cs vs
 |[],_::_=>False
 |_::_,[]=>False
end
section
variable{w w':World}{S S':GO}
def aR.lit_iff{x v:Value}:aR w S (.A x) v↔v=x:=by simp[aR]
mutual
theorem aR.Ε(hz:w.heap.size<=w'.heap.size)(hk:∀b o,S b->w'.cell? ⟨b,o,none⟩=w.cell? ⟨b,o,none⟩)(hS:∀b,S b->S' b) :
  ∀(c:C)(v:Value),aR w S c v->aR w' S' c v
 |.A x,v,h=>by simpa[aR]using h
 |.sl rows,v,h=>by
  simp only[aR]at h⊢;obtain⟨A,n,cap,hv,hn,hc,hm,hr⟩:=h;refine⟨A,n,cap,hv,hn,hc,hm,λh0=>?_⟩;obtain⟨b,off,hA,hs,hb,cn⟩:=hr h0;exact⟨b,off,hA,hS b hs,om,ct.Ε hz hk hS b hs off rows cn⟩
 |.ptr cs,v,h=>by
  simp only[aR]at h⊢;obtain⟨b,off,hv,hs,hb,hr⟩:=h;exact⟨b,off,hv,hS b hs,om,a8.Ε hz hk hS b hs off cs hr⟩
 |.fn f caps,v,h=>by
  simp only[aR]at h⊢;obtain⟨us,hv,hr⟩:=h;exact⟨us,hv,aC.keepC hz hk hS caps us hr⟩
theorem aC.keepC(hz:w.heap.size<=w'.heap.size)(hk:∀b o,S b->w'.cell? ⟨b,o,none⟩=w.cell? ⟨b,o,none⟩)(hS:∀b,S b->S' b) :
  ∀(cs:we)(us:GK),aC w S cs us->aC w' S' cs us
 |[],[],_=>by simp[aC]
 |c::cs,u::us,h=>by
  simp only[aC]at h⊢;exact⟨aR.Ε hz hk hS c u h.1,aC.keepC hz hk hS cs us h.2⟩
 |[],_::_,h=>by simp[aC]at h
 |_::_,[],h=>by simp[aC]at h
theorem ct.Ε(hz:w.heap.size<=w'.heap.size)(hk:∀b o,S b->w'.cell? ⟨b,o,none⟩=w.cell? ⟨b,o,none⟩)(hS:∀b,S b->S' b)(b:Nat)(hb:S b) :
  ∀(off:Nat)(rows:sh),ct w S b off rows->ct w' S' b off rows
 |_,[],_=>by simp[ct]
 |off,r::rs,h=>by
  simp only[ct]at h⊢;exact⟨a8.Ε hz hk hS b hb off r h.1,ct.Ε hz hk hS b hb _ rs h.2⟩
theorem a8.Ε(hz:w.heap.size<=w'.heap.size)(hk:∀b o,S b->w'.cell? ⟨b,o,none⟩=w.cell? ⟨b,o,none⟩)(hS:∀b,S b->S' b)(b:Nat)(hb:S b) :
  ∀(off:Nat)(cs:we),a8 w S b off cs->a8 w' S' b off cs
 |_,[],_=>by simp[a8]
 |off,c::cs,h=>by
  simp only[a8]at h⊢;obtain⟨⟨u,hu,hr⟩,h2⟩:=h;exact⟨⟨u,by rw[hk b off hb];exact hu,aR.Ε hz hk hS c u hr⟩,a8.Ε hz hk hS b hb _ cs h2⟩
end
mutual
theorem aR.inside:∀(c:C)(v:Value),aR w S c v->aR w (λb=>S b/\b<w.heap.size) c v
 |.A x,v,h=>by simpa[aR]using h
 |.sl rows,v,h=>by
  simp only[aR]at h⊢;obtain⟨A,n,cap,hv,hn,hc,hm,hr⟩:=h;refine⟨A,n,cap,hv,hn,hc,hm,λh0=>?_⟩;obtain⟨b,off,hA,hs,hb,cn⟩:=hr h0;exact⟨b,off,hA,⟨hs,hb⟩,hb,ct.inside b off rows cn⟩
 |.ptr cs,v,h=>by
  simp only[aR]at h⊢;obtain⟨b,off,hv,hs,hb,hr⟩:=h;exact⟨b,off,hv,⟨hs,hb⟩,hb,a8.inside b off cs hr⟩
 |.fn f caps,v,h=>by
  simp only[aR]at h⊢;obtain⟨us,hv,hr⟩:=h;exact⟨us,hv,aC.insideC caps us hr⟩
theorem aC.insideC:∀(cs:we)(us:GK),aC w S cs us->aC w (λb=>S b/\b<w.heap.size) cs us
 |[],[],_=>by simp[aC]
 |c::cs,u::us,h=>by
  simp only[aC]at h⊢;exact⟨aR.inside c u h.1,aC.insideC cs us h.2⟩
 |[],_::_,h=>by simp[aC]at h
 |_::_,[],h=>by simp[aC]at h
theorem ct.inside(b:Nat):∀(off:Nat)(rows:sh),ct w S b off rows->ct w (λb=>S b/\b<w.heap.size) b off rows
 |_,[],_=>by simp[ct]
 |off,r::rs,h=>by
  simp only[ct]at h⊢;exact⟨a8.inside b off r h.1,ct.inside b _ rs h.2⟩
theorem a8.inside(b:Nat):∀(off:Nat)(cs:we),a8 w S b off cs->a8 w (λb=>S b/\b<w.heap.size) b off cs
 |_,[],_=>by simp[a8]
 |off,c::cs,h=>by
  simp only[a8]at h⊢;obtain⟨⟨u,hu,hr⟩,h2⟩:=h;exact⟨⟨u,hu,aR.inside c u hr⟩,a8.inside b _ cs h2⟩
end
def aR.below{c:C}{v:Value}(h:aR w S c v)(hb:Below w.heap.size w w'):aR w' S c v :=
 aR.Ε hb.size (λb o hs=>hb.cell (p:=⟨b,o,none⟩) hs.2) (λ_ hs=>hs.1) c v (aR.inside c v h)
def aR.mono{c:C}{v:Value}(h:aR w S c v)(hS:∀b,S b->S' b):aR w S' c v :=
 aR.Ε (Tai _) (λ_ _ _=>rfl) hS c v h
def ct.get{b k:Nat}:∀(rows:sh)(off i:Nat)(r:we),(∀x∈rows,x.length=k)->ct w S b off rows->rows[i]?=some r->a8 w S b (off+i*k) r
 |[],_,_,_,_,_,hi=>by simp at hi
 |x::xs,off,0,r,_,h,hi=>by
  simp only[Tat,Taq]at hi;subst hi;simpa using h.1
 |x::xs,off,i+1,r,hl,h,hi=>by
  have hx:=hl x (by simp);have:=ct.get xs (off+x.length) i r (λy hy=>hl y (by simp[hy])) h.2 (by simpa using hi);rw[hx]at this;rw[Nat.add_mul];have e:off+k+i*k=off+(i*k+1*k):=om;rw[e]at this;exact this
def aC.below:∀{cs:we}{us:GK},aC w S cs us->Below w.heap.size w w'->aC w' S cs us
 |[],[],_,_=>by simp[aC]
 |c::cs,u::us,h,hb=>by
  simp only[aC]at h⊢;exact⟨h.1.below hb,aC.below h.2 hb⟩
 |[],_::_,h,_=>by simp[aC]at h
 |_::_,[],h,_=>by simp[aC]at h
def aC.mono:∀{cs:we}{us:GK},aC w S cs us->(∀b,S b->S' b)->aC w S' cs us
 |[],[],_,_=>by simp[aC]
 |c::cs,u::us,h,hb=>by
  simp only[aC]at h⊢;exact⟨h.1.mono hb,aC.mono h.2 hb⟩
 |[],_::_,h,_=>by simp[aC]at h
 |_::_,[],h,_=>by simp[aC]at h
end
def Room(w:World)(b off cap:Nat)(rows:sh):Prop :=
 (∀o,w.frozen? ⟨b,o,none⟩=false)/\off=0/\∃(bf:Array Value)(ety sz:Nat),w.heap[b]?=some (.cells bf ety (0,0))/\bf.size=cap*sz/\0<sz/\∀r∈rows,r.length=sz
mutual
def bp(w:World):C->(GO)->Value->Prop
 |.A x,_,v=>v=x
 | .sl rows,S,v=>∃A n cap,v=.slice A n cap/\rows.length=n/\n<=cap/\cap<=maxLen /\
   (0<cap->∃(b off:Nat)(S':GO),A=some ⟨b,off,none⟩/\S b/\b<w.heap.size/\Room w b off cap rows/\(∀x,S' x->S x/\x≠b)/\jm w b rows S' off)
 |.ptr _,_,_=>False
 |.fn _ _,_,_=>False
def jm(w:World)(b:Nat):sh->(GO)->Nat->Prop
 |[],_,_=>True
 |r::rs,S,off=>∃(S1 S2:GO),(∀x,S1 x->S x)/\(∀x,S2 x->S x)/\(∀x,S1 x->S2 x->False)/\lv w b r S1 off/\jm w b rs S2 (off+r.length)
def lv(w:World)(b:Nat):we->(GO)->Nat->Prop
 |[],_,_=>True
 |c::cs,S,off=>∃(S1 S2:GO)(u:Value),(∀x,S1 x->S x)/\(∀x,S2 x->S x)/\(∀x,S1 x->S2 x->False)/\w.cell? ⟨b,off,none⟩=some u/\bp w c S1 u/\lv w b cs S2 (off+1)
end
def aV(w:World):we->(GO)->GK->Prop
 |[],_,[]=>True
 |c::cs,S,u::us=>∃(S1 S2:GO),(∀x,S1 x->S x)/\(∀x,S2 x->S x)/\(∀x,S1 x->S2 x->False)/\bp w c S1 u/\aV w cs S2 us
 |_,_,_=>False
section
variable{w w':World}
mutual
theorem bp.rep:∀(c:C)(S:GO)(v:Value),bp w c S v->aR w S c v
 |.A x,_,v,h=>by simpa[aR,bp]using h
 |.sl rows,S,v,h=>by
  simp only[aR,bp]at h⊢;obtain⟨A,n,cap,hv,hn,hc,hm,hr⟩:=h;refine⟨A,n,cap,hv,hn,hc,hm,λh0=>?_⟩;obtain⟨b,off,S',hA,hs,hb,_,hS,cn⟩:=hr om;exact⟨b,off,hA,hs,hb,jm.rep rows S' S b off (λx hx=>(hS x hx).1) cn⟩
 |.ptr _,_,_,h=>by simp[bp]at h
 |.fn _ _,_,_,h=>by simp[bp]at h
theorem jm.rep:∀(rows:sh)(S S0:GO)(b off:Nat),(∀x,S x->S0 x)->jm w b rows S off->ct w S0 b off rows
 |[],_,_,_,_,_,_=>by simp[ct]
 |r::rs,S,S0,b,off,hS,h=>by
  simp only[ct,jm]at h⊢;obtain⟨S1,S2,h1,h2,_,hr,nB⟩:=h;exact⟨lv.rep r S1 S0 b off (λx hx=>hS x (h1 x hx)) hr,jm.rep rs S2 S0 b _ (λx hx=>hS x (h2 x hx)) nB⟩
theorem lv.rep:∀(cs:we)(S S0:GO)(b off:Nat),(∀x,S x->S0 x)->lv w b cs S off->a8 w S0 b off cs
 |[],_,_,_,_,_,_=>by simp[a8]
 |c::cs,S,S0,b,off,hS,h=>by
  simp only[a8,lv]at h⊢;obtain⟨S1,S2,u,h1,h2,_,hu,hc,gc⟩:=h;exact⟨⟨u,hu,(bp.rep c S1 u hc).mono (λx hx=>hS x (h1 x hx))⟩,lv.rep cs S2 S0 b _ (λx hx=>hS x (h2 x hx)) gc⟩
end
def aV.rep:∀(cs:we)(S S0:GO)(us:GK),(∀x,S x->S0 x)->aV w cs S us->aC w S0 cs us
 |[],_,_,[],_,_=>by simp[aC]
 |c::cs,S,S0,u::us,hS,h=>by
  simp only[aC,aV]at h⊢;obtain⟨S1,S2,h1,h2,_,hc,gc⟩:=h;exact⟨(bp.rep c S1 u hc).mono (λx hx=>hS x (h1 x hx)),aV.rep cs S2 S0 us (λx hx=>hS x (h2 x hx)) gc⟩
 |[],_,_,_::_,_,h=>by simp[aV]at h
 |_::_,_,_,[],_,h=>by simp[aV]at h
mutual
theorem bp.Ε(hz:w.heap.size<=w'.heap.size):∀(c:C)(S S':GO)(v:Value),(∀b,S b->w'.heap[b]?=w.heap[b]?)->(∀b,S b->S' b)->bp w c S v->bp w' c S' v
 |.A x,_,_,v,_,_,h=>by simpa[bp]using h
 |.sl rows,S,S',v,hk,hS,h=>by
  simp only[bp]at h⊢;obtain⟨A,n,cap,hv,hn,hc,hm,hr⟩:=h;refine⟨A,n,cap,hv,hn,hc,hm,λh0=>?_⟩;obtain⟨b,off,T,hA,hs,hb,hf,hT,cn⟩:=hr h0;obtain⟨hf,oD,bf,ety,sz,wn,BH⟩:=hf;refine⟨b,off,T,hA,hS b hs,om,⟨λo=>?_,oD,bf,ety,sz,by rw[hk b hs];exact wn,BH⟩,λx hx=>⟨hS x (hT x hx).1,(hT x hx).2⟩,?_⟩
  ·rw[<- hf o];exact World.frozen?_of_block (hk b hs)
  ·exact jm.Ε hz rows T T b off (λo _=>World.cell?_of_block (hk b hs)) (λx hx=>hk x (hT x hx).1) (λ_ h=>h) cn
 |.ptr _,_,_,_,_,_,h=>by simp[bp]at h
 |.fn _ _,_,_,_,_,_,h=>by simp[bp]at h
theorem jm.Ε(hz:w.heap.size<=w'.heap.size):∀(rows:sh)(S S':GO)(b off:Nat),(∀o,o<off+rows.flatten.length->w'.cell? ⟨b,o,none⟩=w.cell? ⟨b,o,none⟩) ->
  (∀x,S x->w'.heap[x]?=w.heap[x]?)->(∀x,S x->S' x)->jm w b rows S off->jm w' b rows S' off
 |[],_,_,_,_,_,_,_,_=>by simp[jm]
 | r::rs,S,S',b,off,hb,hk,hS,h=>by
  simp only[jm]at h⊢;obtain⟨S1,S2,h1,h2,hd,hr,nB⟩:=h;simp only[List.flatten_cons,Tae]at hb
  exact⟨S1,S2,λx hx=>hS x (h1 x hx),λx hx=>hS x (h2 x hx),hd,lv.Ε hz r S1 S1 b off (λo ho=>hb o om) (λx hx=>hk x (h1 x hx)) (λ_ h=>h) hr,
   jm.Ε hz rs S2 S2 b _ (λo ho=>hb o om) (λx hx=>hk x (h2 x hx)) (λ_ h=>h) nB⟩
theorem lv.Ε(hz:w.heap.size<=w'.heap.size):∀(cs:we)(S S':GO)(b off:Nat),(∀o,o<off+cs.length->w'.cell? ⟨b,o,none⟩=w.cell? ⟨b,o,none⟩) ->
  (∀x,S x->w'.heap[x]?=w.heap[x]?)->(∀x,S x->S' x)->lv w b cs S off->lv w' b cs S' off
 |[],_,_,_,_,_,_,_,_=>by simp[lv]
 | c::cs,S,S',b,off,hb,hk,hS,h=>by
  simp only[lv]at h⊢;obtain⟨S1,S2,u,h1,h2,hd,hu,hc,gc⟩:=h;simp only[Tag]at hb
  exact⟨S1,S2,u,λx hx=>hS x (h1 x hx),λx hx=>hS x (h2 x hx),hd,by rw[hb off om];exact hu,bp.Ε hz c S1 S1 u (λx hx=>hk x (h1 x hx)) (λ_ h=>h) hc,
   lv.Ε hz cs S2 S2 b _ (λo ho=>hb o om) (λx hx=>hk x (h2 x hx)) (λ_ h=>h) gc⟩
end
def aV.Ε(hz:w.heap.size<=w'.heap.size):∀(cs:we)(S S':GO)(us:GK),(∀b,S b->w'.heap[b]?=w.heap[b]?)->(∀b,S b->S' b)->aV w cs S us->aV w' cs S' us
 |[],_,_,[],_,_,_=>by simp[aV]
 |c::cs,S,S',u::us,hk,hS,h=>by
  simp only[aV]at h⊢;obtain⟨S1,S2,h1,h2,hd,hc,gc⟩:=h;exact⟨S1,S2,λx hx=>hS x (h1 x hx),λx hx=>hS x (h2 x hx),hd,bp.Ε hz c S1 S1 u (λx hx=>hk x (h1 x hx)) (λ_ h=>h) hc,aV.Ε hz cs S2 S2 us (λx hx=>hk x (h2 x hx)) (λ_ h=>h) gc⟩
 |[],_,_,_::_,_,_,h=>by simp[aV]at h
 |_::_,_,_,[],_,_,h=>by simp[aV]at h
def lv.of_vals{b:Nat}:∀(cs:we)(S:GO)(us:GK)(off:Nat),aV w cs S us->(∀j u,us[j]?=some u->w.cell? ⟨b,off+j,none⟩=some u)->lv w b cs S off
 |[],_,_,_,_,_=>by simp[lv]
 |c::cs,S,u::us,off,h,hc=>by
  simp only[lv,aV]at h⊢;obtain⟨S1,S2,h1,h2,hd,hu,d7⟩:=h;exact⟨S1,S2,u,h1,h2,hd,by simpa using hc 0 u rfl,hu,lv.of_vals cs S2 us (off+1) d7 (λj v hv=>by have:=hc (j+1) v (by simpa using hv);rw[<- this];congr 2;omega)⟩
 |_::_,_,[],_,h,_=>by simp[aV]at h
def jm.snoc{b:Nat}:∀(rows:sh)(r:we)(S S1 S2:GO)(off:Nat),jm w b rows S1 off->lv w b r S2 (off+rows.flatten.length)->(∀x,S1 x->S x)->(∀x,S2 x->S x)->(∀x,S1 x->S2 x->False)->jm w b (rows++[r]) S off
 |[],r,S,S1,S2,off,_,h2,_,e2,_=>by
  simp only[Tah,jm,and_true];exact⟨S2,λ_=>False,e2,λ_ h=>h.elim,λ_ _ h=>h,by simpa using h2⟩
 |x::xs,r,S,S1,S2,off,h1,h2,e1,e2,hd=>by
  simp only[Taf,jm]at h1⊢;obtain⟨T1,T2,t1,t2,td,hx,mB⟩:=h1;refine⟨T1,λy=>T2 y\/S2 y,λy hy=>e1 y (t1 y hy),λy hy=>hy.elim (λh=>e1 y (t2 y h)) (e2 y),λy hy hy2=>hy2.elim (td y hy) (hd y (t1 y hy)),hx,?_⟩;refine jm.snoc xs r _ T2 S2 _ mB ?_ (λy h=>.inl h) (λy h=>.inr h) (λy h=>hd y (t2 y h));simp only[List.flatten_cons,Tae]at h2;rw[Tby];exact h2
end
inductive TN where
 |int|str|ints|sub|decl|op|term|binding|bindings|occ|cond|eqn|step|link|chain|weight|pend
inductive F where
 |int|str|bool
 |sl (t:TN)
def tX:List F:=[.int,.str,.int,.sl .term]
def vy:List F:=[.sl .int,.sl .term,.sl .term,.sl .binding]
def Zaf:TN->List F
 |.int=>[.int]
 |.str=>[.str]
 |.ints=>[.sl .int]
 |.sub=>[.int,.int]
 |.decl=>[.sl .int,.int]
 |.op=>[.str,.sl .decl,.bool,.bool,.int]
 |.term=>tX
 |.binding=>tX++tX
 |.bindings=>[.sl .binding]
 |.occ=>vy
 |.cond=>tX++tX
 |.eqn=>tX++tX++[.sl .cond]
 |.step=>[.int]++vy++tX
 |.link=>[.int]++vy++[.sl .chain]
 |.chain=>tX++tX++[.sl .link]
 |.weight=>[.int,.sl .int]
 |.pend=>[.int,.sl .term,.sl .term]
def iT(n:Int):Prop:=-9223372036854775808<=n/\n<=9223372036854775807
def wI:List F:=[.sl .str,.sl .sub]
def lZ:List F:=wI++[.sl .op]
def ZeM:List F:=lZ++[.sl .eqn,.sl .eqn]
def algF:List F:=[.int,.sl .ints]
def redF:List F:=tX++[.sl .pend,.bool,.int,.int]
mutual
def ix:F->C->Prop
 |.int,.A v=>∃n:Int,v=.int .i64 n/\iT n
 |.str,.A v=>∃s:ByteArray,v=.string s/\s.size<=maxLen
 |.bool,.A v=>∃b:Bool,v=.bool b
 |.sl t,.sl rows=>bu (Zaf t) rows
 |.int,.sl _=>False
 |.str,.sl _=>False
 |.bool,.sl _=>False
 |.sl _,.A _=>False
 |_,.ptr _=>False
 |_,.fn _ _=>False
def bu(fs:List F):sh->Prop
 |[]=>True
 |r::rs=>bd fs r/\bu fs rs
def bd:List F->we->Prop
 |[],[]=>True
 |f::fs,c::cs=>ix f c/\bd fs cs
 |[],_::_=>False
 |_::_,[]=>False
end
mutual
def jE:C->Nat
 |.A (.string s)=>s.size
 |.A _=>0
 |.sl rows=>rows.length+ak rows
 |.ptr _=>0
 |.fn _ _=>0
def ak:sh->Nat
 |[]=>0
 |r::rs=>ag r+ak rs
def ag:we->Nat
 |[]=>0
 |c::cs=>jE c+ag cs
end
def bd.len:∀{fs:List F}{cs:we},bd fs cs->cs.length=fs.length
 |[],[],_=>rfl
 |f::fs,c::cs,h=>by simp only[bd]at h;simp[bd.len h.2]
 |[],_::_,h=>by simp[bd]at h
 |_::_,[],h=>by simp[bd]at h
def bu.get{fs:List F}:∀{rows:sh}{i:Nat}{r:we},bu fs rows->rows[i]?=some r->bd fs r
 |[],_,_,_,h=>by simp at h
 |x::xs,0,r,h,hi=>by simp at hi;subst hi;exact h.1
 |x::xs,i+1,r,h,hi=>bu.get (rows:=xs) (i:=i) h.2 (by simpa using hi)
def bu.lens{fs:List F}:∀{rows:sh},bu fs rows->∀x∈rows,x.length=fs.length
 |[],_,x,hx=>by simp at hx
 |r::rs,h,x,hx=>by
  rcases Tbh.1 hx with rfl|hx
  ·exact bd.len h.1
  ·exact bu.lens h.2 x hx
def Zg4:∀{rows:sh}{k:Nat}{r:we},rows[k]?=some r->ak (rows.take (k+1))=ak (rows.take k)+ag r
 |[],_,_,h=>by simp at h
 |x::xs,0,r,h=>by simp at h;subst h;simp[ak]
 |x::xs,k+1,r,h=>by have:=Zg4 (rows:=xs) (k:=k) (by simpa using h);simp only[Tbc,ak]at this⊢;omega
def Ze3:∀(rows:sh)(k:Nat),ak (rows.take k)<=ak rows
 |[],k=>by simp
 |x::xs,0=>by simp[ak]
 |x::xs,k+1=>by have:=Ze3 xs k;simp only[Tbc,ak]at this⊢;omega
mutual
def vM:C->Nat
 |.A _=>1
 |.sl rows=>1+sW rows
 |.ptr _=>1
 |.fn _ _=>1
def sW:sh->Nat
 |[]=>0
 |r::rs=>mI r+sW rs
def mI:we->Nat
 |[]=>0
 |c::cs=>vM c+mI cs
end
def yk:∀{rows:sh}{i:Nat}{r:we},rows[i]?=some r->mI r<=sW rows
 |[],_,_,h=>by simp at h
 |x::xs,0,r,h=>by simp at h;subst h;simp[sW]
 |x::xs,i+1,r,h=>by have:=yk (rows:=xs) (i:=i) (by simpa using h);simp only[sW];omega
def sub(left:Int)(b:Nat):Int:=if(b:Int)<=left then left-b else -1
def qi{left:Int}{b:Nat}(h:left<b):sub left b=-1:=by unfold sub;rw[if_neg om]
def qM{left:Int}{b:Nat}(h:(b:Int)<=left):sub left b=left-b:=by unfold sub;rw[if_pos h]
section
variable{w:World}{S:GO}
def aR.Η{rows:sh}{v:Value}(h:aR w S (.sl rows) v):∃A n cap,v=.slice A n cap/\rows.length=n/\n<=cap/\cap<=maxLen:=by
 simp only[aR]at h;obtain⟨A,n,cap,hv,hn,hc,hm,_⟩:=h;exact⟨A,n,cap,hv,hn,hc,hm⟩
def aR.get{rows:sh}{A:BY}{n i:Nat}{fs:List F}(h:aR w S (.sl rows) (.slice A n cap))(aq:bu fs rows)(hi:i<n) :
  ∃b off r,A=some ⟨b,off,none⟩/\S b/\b<w.heap.size/\rows[i]?=some r/\bd fs r/\a8 w S b (off+i*fs.length) r:=by
 simp only[aR]at h;obtain⟨A',n',bF,hv,hn,hc,hm,hr⟩:=h;injection hv with e1 e2 e3
 subst e1 e2 e3;obtain⟨b,off,hA,hs,hb,cn⟩:=hr om;have tB:rows[i]?=some rows[i]:=Taa om;exact⟨b,off,rows[i],hA,hs,hb,tB,aq.get tB,ct.get rows off i _ (λx hx=>aq.lens x hx) cn tB⟩
end
def A5:∀{rows:sh}{i:Nat}{r:we},rows[i]?=some r->ag r<=ak rows
 |[],_,_,h=>by simp at h
 |x::xs,0,r,h=>by simp at h;subst h;simp[ak]
 |x::xs,i+1,r,h=>by have:=A5 (rows:=xs) (i:=i) (by simpa using h);simp only[ak];omega
structure Same(S:GO)(w w':World):Prop where
 size:w.heap.size<=w'.heap.size
 block:∀b,S b->w'.heap[b]?=w.heap[b]?
def Same.refl(S:GO)(w:World):Same S w w:=⟨Tai _,λ_ _=>rfl⟩
def Same.trans{S:GO}{a b c:World}(h:Same S a b)(k:Same S b c):Same S a c:=⟨Tbe h.size k.size,λx hx=>(k.block x hx).trans (h.block x hx)⟩
def Same.mono{S:GO}{a b:World}(h:Same S a b)(hS:∀x,S' x->S x):Same S' a b:=⟨h.size,λx hx=>h.block x (hS x hx)⟩
def Same.drew(S:GO)(w:World):Same S w w.drew:=⟨Tai _,λ_ _=>rfl⟩
def Same.below{B:Nat}{w:World}(h:Below B w w'):Same (· < B) w w':=⟨h.size,h.block⟩
def bp.same{w:World}{c:C}{S:GO}{v:Value}(h:bp w c S v)(k:Same S w w'):bp w' c S v:=bp.Ε k.size c S S v k.block (λ_ h=>h) h
def aV.same{w:World}{cs:we}{S:GO}{us:GK}(h:aV w cs S us)(k:Same S w w'):aV w' cs S us:=aV.Ε k.size cs S S us k.block (λ_ h=>h) h
def bp.mono{w:World}{c:C}{S:GO}{v:Value}(h:bp w c S v)(k:∀x,S x->S' x):bp w c S' v:=bp.Ε (Tai _) c S S' v (λ_ _=>rfl) k h
def aV.mono{w:World}{cs:we}{S:GO}{us:GK}(h:aV w cs S us)(k:∀x,S x->S' x):aV w cs S' us:=aV.Ε (Tai _) cs S S' us (λ_ _=>rfl) k h
def aV.A{w:World}{cs:we}{S:GO}{us:GK}{x:Value}(h:aV w cs S us):aV w (.A x::cs) S (x::us) :=
 ⟨λ_=>False,S,λ_ h=>h.elim,λ_ h=>h,λ_ h _=>h,by simp[bp],h⟩
def aV.nil{w:World}{S:GO}:aV w [] S []:=by simp[aV]
def aV.cons{w:World}{c:C}{cs:we}{S:GO}(S1 S2:GO){us:GK}(h:bp w c S1 u)(h2:aV w cs S2 us)(e1:∀x,S1 x->S x)(e2:∀x,S2 x->S x)(hd:∀x,S1 x->S2 x->False):aV w (c::cs) S (u::us) :=
 ⟨S1,S2,e1,e2,hd,h,h2⟩
def aV.append{w:World}:∀{cs ds:we}{S:GO}(S1 S2:GO){us vs:GK},aV w cs S1 us->aV w ds S2 vs->(∀x,S1 x->S x)->(∀x,S2 x->S x)->(∀x,S1 x->S2 x->False)->aV w (cs++ds) S (us++vs)
 |[],ds,S,S1,S2,[],vs,_,h2,_,e2,_=>by simpa using h2.mono e2
 | c::cs,ds,S,S1,S2,u::us,vs,h1,h2,e1,e2,hd=>by
  simp only[aV,Taf]at h1⊢;obtain⟨T1,T2,t1,t2,td,hu,d7⟩:=h1
  exact⟨T1,λy=>T2 y\/S2 y,λy hy=>e1 y (t1 y hy),λy hy=>hy.elim (λh=>e1 y (t2 y h)) (e2 y),λy hy hy2=>hy2.elim (td y hy) (hd y (t1 y hy)),hu,
   aV.append T2 S2 d7 h2 (λy h=>.inl h) (λy h=>.inr h) (λy h=>hd y (t2 y h))⟩
 |[],_,_,_,_,_::_,_,h,_,_,_,_=>by simp[aV]at h
 |_::_,_,_,_,_,[],_,h,_,_,_,_=>by simp[aV]at h
def aV.len{w:World}:∀{cs:we}{S:GO}{us:GK},aV w cs S us->us.length=cs.length
 |[],_,[],_=>rfl
 |c::cs,S,u::us,h=>by
  simp only[aV]at h;obtain⟨_,_,_,_,_,_,h2⟩:=h;simp[aV.len h2]
 |[],_,_::_,h=>by simp[aV]at h
 |_::_,_,[],h=>by simp[aV]at h
def aC.len{w:World}{S:GO}:∀{cs:we}{us:GK},aC w S cs us->us.length=cs.length
 |[],[],_=>rfl
 |c::cs,u::us,h=>by simp only[aC]at h;simp[aC.len h.2]
 |[],_::_,h=>by simp[aC]at h
 |_::_,[],h=>by simp[aC]at h
def ix.I{w:World}{S:GO}{f:F}{c:C}(h:ix f c)(hr:aR w S c u):u.oneCell':=by
 cases c with
 |A v =>
  simp only[aR]at hr;subst hr
  cases f<;>simp only[ix]at h
  ·obtain⟨n,rfl,_⟩:=h;rfl
  ·obtain⟨n,rfl,_⟩:=h;rfl
  ·obtain⟨n,rfl⟩:=h;rfl
 |sl rows =>
  obtain⟨A,n,cap,rfl,_⟩:=hr.Η;rfl
 |ptr cs=>cases f<;>simp[ix]at h
 |fn f' caps=>cases f<;>simp[ix]at h
def bd.I{w:World}{S:GO}:∀{fs:List F}{cs:we}{us:GK},bd fs cs->aC w S cs us->∀u∈us,u.oneCell'=true
 |[],[],[],_,_,u,hu=>by simp at hu
 |f::fs,c::cs,x::us,h,hr,u,hu=>by
  simp only[bd]at h;simp only[aC]at hr;rcases Tbh.1 hu with rfl|hu
  ·exact h.1.I hr.1
  ·exact bd.I h.2 hr.2 u hu
 |[],_::_,_,h,_,_,_=>by simp[bd]at h
 |_::_,[],_,h,_,_,_=>by simp[bd]at h
 |[],[],_::_,_,h,_,_=>by simp[aC]at h
 |_::_,_::_,[],_,h,_,_=>by simp[aC]at h
structure Put(w w':World)(g off:Nat)(us:GK):Prop where
 os:w'.os=w.os
 tape:w'.tape=w.tape
 output:w'.output=w.output
 size:w'.heap.size=w.heap.size
 other:∀k,k≠g->w'.heap[k]?=w.heap[k]?
 row:∀bf t,w.heap[g]?=some (.cells bf t (0,0))->∃zP,w'.heap[g]?=some (.cells zP t (0,0))/\zP.size=bf.size
 new:∀j u,us[j]?=some u->w'.cell? ⟨g,off+j,none⟩=some u
 old:∀o,(o<off\/off+us.length<=o)->w'.cell? ⟨g,o,none⟩=w.cell? ⟨g,o,none⟩
def Zgc(w:World)(g off:Nat)(t:TypeId)(us:GK)(bf:Array Value)(hg:w.heap[g]?=some (.cells bf t (0,0)))(hf:off+us.length<=bf.size) :
  Put w (w.setRow g (bf.toList.take off++us++bf.toList.drop (off+us.length)).toArray) g off us:=by
 have hl:(bf.toList.take off).length=off:=by simp;omega
 refine⟨rfl,rfl,rfl,by simp,λk hk=>setRow_other w g k _ hk,λcur2 t2 h2=>?_,λj u hu=>?_,λo ho=>?_⟩
 ·rw[hg]at h2;injection h2 with h2
  injection h2 with h3 h4
  subst h3 h4;exact⟨_,setRow_heap w g bf _ t _ hg,by simp;omega⟩
 ·have hj:j<us.length:=(Tad.1 hu).1;rw[cell_setRow_same w g _ bf _ t _ hg,List.getElem?_toArray,Tbg,Tbr om,hl,Tbq om];rw[<- hu];congr 1;omega
 ·rw[cell_setRow_same w g _ bf _ t _ hg,cell_of_row w g o bf t _ hg,List.getElem?_toArray,Tbg];rcases ho with ho|ho
  ·rw[Tbq om,List.getElem?_take];simp[ho]
  ·rw[Tbr om,hl,Tbr om,Tbb];have e:off+us.length+(o-off-us.length)=o:=om;rw[e];simp
def zt(w0:World)(g:Nat)(E:TypeId)(m sz:Nat)(rows:sh)(k:Nat)(wr:World):Prop :=
 Below g w0 wr/\g<wr.heap.size/\(∃bf,wr.heap[g]?=some (.cells bf E (0,0))/\bf.size=m*sz)/\jm wr g (rows.take k) (λx=>g<x/\x<wr.heap.size) 0
def zt.start{w0:World}{E:TypeId}{m:Nat}{rows:sh}{bf:Array Value}(h:bf.size=m*sz):zt w0 w0.heap.size E m sz rows 0 (w0.alloc (.cells bf E)) :=
 ⟨(Below.refl _ _).alloc (Tai _) _,by simp,⟨bf,heap_alloc_new w0 _,h⟩,by simp[jm]⟩
def ZhX{fs:List F}:∀{rows:sh},bu fs rows->∀k,k<=rows.length->(rows.take k).flatten.length=k*fs.length
 |[],_,k,hk=>by simp at hk;subst hk;simp
 |r::rs,h,0,_=>by simp
 |r::rs,h,k+1,hk=>by
  have:=ZhX h.2 k (by simpa using hk);simp only[Tbc,List.flatten_cons,Tae,this,(bd.len h.1),Nat.add_mul];omega
def vF{α:Type}{l:List α}{x:α}(h:l[k]?=some x):l.take (k+1)=l.take k++[x]:=by
 rw[List.take_add_one,h];rfl
def zt.row{w0 wr w2:World}{g:Nat}{E:TypeId}{m:Nat}{rows:sh}(h:zt w0 g E m sz rows k wr)(hb:Below wr.heap.size wr w2):∃bf,w2.heap[g]?=some (.cells bf E (0,0))/\bf.size=m*sz:=by
 obtain⟨bf,h1,h2⟩:=h.2.2.1;exact⟨bf,by rw[hb.block g h.2.1];exact h1,h2⟩
def zt.step{w0 wr w2 w3:World}{g:Nat}{E:TypeId}{m:Nat}{fs:List F}{rows:sh}{r:we}{us:GK}(h:zt w0 g E m fs.length rows k wr)(aq:bu fs rows)(hk:rows[k]?=some r)
  (hb:Below wr.heap.size wr w2) (fc:aV w2 r (λx=>wr.heap.size<=x/\x<w2.heap.size) us) (hp:Put w2 w3 g (k*fs.length) us):zt w0 g E m fs.length rows (k+1) w3:=by
 obtain⟨h1,h2,⟨bf,h3,h4⟩,h5⟩:=h;have jF:k<rows.length:=(Tad.1 hk).1;have nN:=ZhX aq k om;have bP:=hb.size;refine⟨?_,by have:=hp.size;omega,?_,?_⟩
 ·exact(h1.trans (hb.mono om)).trans ⟨hp.os,hp.tape,hp.output,by have:=hp.size;omega,λx hx=>hp.other x om⟩
 ·have tt:w2.heap[g]?=some (.cells bf E (0,0)):=by rw[hb.block g h2];exact h3
  obtain⟨zP,h6,h7⟩:=hp.row bf E tt;exact⟨zP,h6,om⟩
 ·rw[vF hk];refine jm.snoc (rows.take k) r _ (λx=>g<x/\x<wr.heap.size) (λx=>wr.heap.size<=x/\x<w2.heap.size) 0 ?_ ?_ ?_ ?_ ?_
  ·refine jm.Ε (w:=wr) (by have:=hp.size;omega) _ _ _ g 0 (λo ho=>?_) (λx hx=>?_) (λ_ h=>h) h5
   ·rw[hp.old o (.inl om)];exact World.cell?_of_block (hb.block g h2)
   ·rw[hp.other x om];exact hb.block x om
  ·refine lv.of_vals r _ us _ ?_ (λj u hu=>?_)
   ·exact aV.Ε (w:=w2) (by have:=hp.size;omega) r _ _ us (λb cu=>hp.other b om) (λ_ h=>h) fc
   ·have:=hp.new j u hu;rw[<- this];congr 2;omega
  ·intro x hx;have:=hp.size;exact⟨hx.1,om⟩
  ·intro x hx;have:=hp.size;exact⟨om,om⟩
  ·intro x hx hy;omega
def zt.done{w0 wr:World}{E:TypeId}{m:Nat}{rows:sh}(h:zt w0 w0.heap.size E m sz rows m wr)(hm:rows.length=m)(c8:m<=maxLen)(hz:0<sz)(hl:∀r∈rows,r.length=sz) :
  bp wr (.sl rows) (λx=>w0.heap.size<=x/\x<wr.heap.size) (.slice (some ⟨w0.heap.size,0,none⟩) m m)/\Below w0.heap.size w0 wr:=by
 obtain⟨h1,h2,⟨bf,h3,h4⟩,h5⟩:=h;rw[List.take_of_length_le om]at h5;refine⟨?_,h1⟩;simp only[bp];exact⟨_,m,m,rfl,hm,Tai _,c8,λ_=>⟨w0.heap.size,0,_,rfl,⟨Tai _,h2⟩,h2,⟨λo=>frozen_of_row wr _ o bf E h3,rfl,bf,E,sz,h3,h4,hz,hl⟩,λx hx=>⟨⟨om,hx.2⟩,om⟩,h5⟩⟩
def vJ{c:C}(h:ix .int c):∃n:Int,c=.A (.int .i64 n)/\iT n:=by
 exact m223
def Zjq{c:C}(h:ix .str c):∃s:ByteArray,c=.A (.string s)/\s.size<=maxLen:=by
 exact m223
def Znn{c:C}(h:ix .bool c):∃b:Bool,c=.A (.bool b):=by
 cases c<;>simp only[ix]at h
 obtain⟨n,rfl⟩:=h;exact⟨n,rfl⟩
def wL{t:TN}{c:C}(h:ix (.sl t) c):∃rows,c=.sl rows/\bu (Zaf t) rows:=by
 cases c<;>simp only[ix]at h
 exact⟨_,rfl,h⟩
def CR{n:Int}(h:iT n):ix .int (.A (.int .i64 n)):=by simp only[ix];exact⟨n,rfl,h⟩
def Zn7{s:ByteArray}(h:s.size<=maxLen):ix .str (.A (.string s)):=by simp only[ix];exact⟨s,rfl,h⟩
def ZHe{b:Bool}:ix .bool (.A (.bool b)):=by simp only[ix];exact⟨b,rfl⟩
def Br{t:TN}{rows:sh}(h:bu (Zaf t) rows):ix (.sl t) (.sl rows):=by simp only[ix];exact h
def len1{α:Type}{l:List α}(h:l.length=1):∃a0,l=[a0]:=by
 match l,h with
 |[a0],_=>exact⟨a0,rfl⟩
def pr{α:Type}{l:List α}(h:l.length=2):∃a0 a1,l=[a0,a1]:=by
 match l,h with
 |[a0,a1],_=>exact⟨a0,a1,rfl⟩
def len3{α:Type}{l:List α}(h:l.length=3):∃a0 a1 a2,l=[a0,a1,a2]:=by
 match l,h with
 |[a0,a1,a2],_=>exact⟨a0,a1,a2,rfl⟩
def len4{α:Type}{l:List α}(h:l.length=4):∃a0 a1 a2 a3,l=[a0,a1,a2,a3]:=by
 match l,h with
 |[a0,a1,a2,a3],_=>exact⟨a0,a1,a2,a3,rfl⟩
def len5{α:Type}{l:List α}(h:l.length=5):∃a0 a1 a2 a3 a4,l=[a0,a1,a2,a3,a4]:=by
 match l,h with
 |[a0,a1,a2,a3,a4],_=>exact⟨a0,a1,a2,a3,a4,rfl⟩
def len8{α:Type}{l:List α}(h:l.length=8):∃a0 a1 a2 a3 a4 a5 a6 a7,l=[a0,a1,a2,a3,a4,a5,a6,a7]:=by
 match l,h with
 |[a0,a1,a2,a3,a4,a5,a6,a7],_=>exact⟨a0,a1,a2,a3,a4,a5,a6,a7,rfl⟩
def ZmQ{B:Nat}{a w:World}(h:Below B a w)(n:Nat):Below B a (w.drewN n):=⟨h.os,h.tape,h.output,h.size,h.block⟩
section
open Go.ChangeShapes Go.WideShapes Go.ChangeAt Go.Deep
inductive TyOk(P:Program)(T:TN->TypeId)(R:TN->Prop):TypeId->List F->Prop where
 |int {t:TypeId}:P.underlying t=some (.int .i64)->TyOk P T R t [.int]
 |str {t:TypeId}:P.underlying t=some .string->TyOk P T R t [.str]
 |bool {t:TypeId}:P.underlying t=some .bool->TyOk P T R t [.bool]
 |sl {t:TypeId} {tn:TN}:P.underlying t=some (.slice (T tn))->P.cellsOf (T tn)=(Zaf tn).length->R tn->TyOk P T R t [.sl tn]
 | st {t:TypeId} {flds:Array Field} {fss:List (List F)}:P.underlying t=some (.struct flds)->flds.size=fss.length->P.cellsOf t=fss.flatten.length ->
   (∀(j:Nat)(f:Field)(fs:List F),flds[j]?=some f->fss[j]?=some fs->f.offset=(fss.take j).flatten.length/\P.cellsOf f.type=fs.length) ->
   (∀(j:Nat)(f:Field)(fs:List F),flds[j]?=some f->fss[j]?=some fs->TyOk P T R f.type fs)->TyOk P T R t fss.flatten
section
variable{H:Type}{enc:TypeId×Value->H}{P:Program}{w:World}{base:Nat}{spare:Nat->Bool}{held:Bool}
def aC.cat{S:GO}:∀{cs ds:we}{us vs:GK},aC w S cs us->aC w S ds vs->aC w S (cs++ds) (us++vs)
 |[],_,[],_,_,h2=>by simpa using h2
 |c::cs,ds,u::us,vs,h1,h2=>by
  simp only[aC,Taf]at h1⊢;exact⟨h1.1,aC.cat h1.2 h2⟩
 |[],_,_::_,_,h,_=>by simp[aC]at h
 |_::_,_,[],_,h,_=>by simp[aC]at h
def bd.cat:∀{fs gs:List F}{cs ds:we},bd fs cs->bd gs ds->bd (fs++gs) (cs++ds)
 |[],_,[],_,_,h2=>by simpa using h2
 |f::fs,gs,c::cs,ds,h1,h2=>by
  simp only[bd,Taf]at h1⊢;exact⟨h1.1,bd.cat h1.2 h2⟩
 |[],_,_::_,_,h,_=>by simp[bd]at h
 |_::_,_,[],_,h,_=>by simp[bd]at h
def Zqn(S:GO):∀(fss:List (List F))(cs:GK)(off:Nat),cs.length=off+fss.flatten.length ->
  (∀(j:Nat)(fs:List F),fss[j]?=some fs->∃row,bd fs row/\aC w S row ((cs.drop (off+(fss.take j).flatten.length)).take fs.length)) ->
  ∃row,bd fss.flatten row/\aC w S row (cs.drop off)
 | [],cs,off,hl,_=>⟨[],by simp[bd],by
   have:cs.drop off=[]:=by simp at hl⊢;omega
   rw[this];simp[aC]⟩
 | fs::fss,cs,off,hl,h=>by
  simp only[List.flatten_cons,Tae]at hl;obtain⟨dH,h0,r0⟩:=h 0 fs rfl;obtain⟨dO,h1,r1⟩:=Zqn S fss cs (off+fs.length) om (λj gs hj=>by
   obtain⟨row,ha,hb⟩:=h (j+1) gs (by simpa using hj);refine⟨row,ha,?_⟩;simp only[Tbc,List.flatten_cons,Tae]at hb;rw[Tby];exact hb)
  simp only[List.take_zero,List.flatten_nil,Tak,Nat.add_zero]at r0;refine⟨dH++dO,bd.cat h0 h1,?_⟩;have e:cs.drop off=(cs.drop off).take fs.length++cs.drop (off+fs.length):=by
   rw[<- List.drop_drop,Tbn]
  rw[e];exact aC.cat r0 r1
def a8.of_cells{S:GO}{b:Nat}:∀(row:we)(us:GK)(off:Nat),aC w S row us->(∀j,j<us.length->w.cell? ⟨b,off+j,none⟩=us[j]?)->a8 w S b off row
 |[],_,_,_,_=>by simp[a8]
 |c::cs,u::us,off,h,hc=>by
  simp only[a8,aC]at h⊢;refine⟨⟨u,by have:=hc 0 (by simp);simpa using this,h.1⟩,a8.of_cells cs us (off+1) h.2 (λj hj=>?_)⟩;have:=hc (j+1) (by simpa using hj);simp only[Tau]at this;rw[<- this];congr 2;omega
 |_::_,[],_,h,_=>by simp[aC]at h
def ct.of_range{S:GO}{b k:Nat}(f:Nat->we):∀(n i off:Nat),(∀j,j<n->(f (i+j)).length=k/\a8 w S b (off+j*k) (f (i+j)))->ct w S b off ((List.range' i n).map f)
 |0,_,_,_=>by simp[ct]
 |n+1,i,off,h=>by
  simp only[List.range'_succ,Tbv,ct];have h0:=h 0 om;simp only[Nat.add_zero,Nat.zero_mul]at h0;refine⟨h0.2,?_⟩;rw[h0.1];refine ct.of_range (k:=k) f n (i+1) (off+k) (λj hj=>?_);have:=h (j+1) om;have e1:i+(j+1)=i+1+j:=om;have e2:off+(j+1)*k=off+k+j*k:=by rw[Nat.add_mul];omega
  rw[e1,e2]at this;exact this
def bu.of_range{fs:List F}(f:Nat->we):∀(n i:Nat),(∀j,j<n->bd fs (f (i+j)))->bu fs ((List.range' i n).map f)
 |0,_,_=>by simp[bu]
 |n+1,i,h=>by
  simp only[List.range'_succ,Tbv,bu];refine⟨by simpa using h 0 om,bu.of_range f n (i+1) (λj hj=>?_)⟩;have:=h (j+1) om;have e1:i+(j+1)=i+1+j:=om;rw[e1]at this;exact this
def Zsr(tn:TN):0<(Zaf tn).length:=by cases tn<;>simp[Zaf,tX,vy]
def ZD1(a:Addr)(n:Nat)(h:∃v,w.cell? (a.add n)=some v)(h0:∃v,w.cell? (a.add 0)=some v):a=⟨a.block,a.off,none⟩:=by
 obtain⟨v,hv⟩:=h0;obtain⟨b,o,s⟩:=a;simp only[Addr.add,if_true]at hv
 cases s with
 |none=>rfl
 |some s =>
  simp only[World.cell?]at hv;split at hv<;>simp at hv
def Zrz{e:TypeId}{fuel:Nat}{cs:GK}{x:DataW H×List MemPlace}(ht:P.underlying t=some (.slice e))(h:DataW.trod enc P w base spare held (fuel+1) t cs=some x) :
  (cs=[.slice none 0 0]/\True)\/∃(a:Addr)(len cap:Nat),cs=[.slice (some a) len cap]/\len<=cap/\cap<=maxLen /\
   ∀i,i<len->∃iE y,w.cells? base (a.add (i*P.cellsOf e)) (P.cellsOf e)=some iE/\DataW.trod enc P w base spare held fuel e iE=some y:=by
 rcases DataW.trod_slice ht h with⟨h0,_⟩|⟨a,len,cap,elems,rest,n,hn,rfl,_,hb,hl,hm,bh,yP,_,_⟩
 ·exact .inl ⟨h0,trivial⟩
 ·obtain rfl:fuel=n:=by omega
  refine .inr ⟨a,len,cap,rfl,hl,hm,λi hi=>?_⟩;have hx:=yP i hi;rw[Taa om]at hx;obtain⟨iE,h1,h2⟩:=Option.bind_eq_some_iff.1 hx;exact⟨iE,_,h1,h2⟩
def Zqo{a:Addr}(h:a=⟨a.block,a.off,none⟩)(n:Nat):a.add n=⟨a.block,a.off+n,none⟩:=by
 obtain⟨b,o,s⟩:=a;simp only[Addr.mk.injEq,true_and]at h;subst h;unfold Addr.add;split
 ·rename_i h0;subst h0;rfl
 ·rfl
def Zno {T:TN->TypeId} {R:TN->Prop} (hT:∀tn,R tn->TyOk P T R (T tn) (Zaf tn)):∀(fuel:Nat)(t:TypeId)(fs:List F)(cs:GK)(x:DataW H×List MemPlace),
  TyOk P T R t fs->DataW.trod enc P w base spare held fuel t cs=some x->∃row,bd fs row/\aC w (λ_=>True) row cs:=by
 intro fuel
 induction fuel with
 |zero=>intro t fs cs x _ h;simp[DataW.trod]at h
 | succ fuel ih =>
  intro t fs cs x hty h
  cases hty with
  |int hu =>
   obtain⟨n,rfl,_,hwf⟩:=DataW.trod_int hu h;refine⟨[.A (.int .i64 n)],?_,by simp[aC,aR]⟩;simp only[bd,and_true];refine CR ?_;simp[Lit.wf,IntKind.min,IntKind.max,IntKind.signed,IntKind.bits]at hwf;exact⟨om,om⟩
  |str hu =>
   obtain⟨s,rfl,_,hs⟩:=DataW.trod_string hu h;exact⟨[.A (.string s)],by simp only[bd,and_true];exact Zn7 hs,by simp[aC,aR]⟩
  |bool hu =>
   obtain⟨b,rfl,_⟩:=DataW.trod_bool hu h;exact⟨[.A (.bool b)],by simp only[bd,and_true];exact ZHe,by simp[aC,aR]⟩
  | @sl _ tn hu hc hR =>
   rcases Zrz hu h with⟨rfl,_⟩|⟨a,len,cap,rfl,hl,hm,yP⟩
   ·refine⟨[.sl []],by simp only[bd,and_true];exact Br (by simp[bu]),?_⟩;simp only[aC,aR,and_true];exact⟨none,0,0,rfl,rfl,Tai _,by simp[maxLen],λh=>absurd h om⟩
   ·rw[hc]at yP;have hpos:=Zsr tn;have nv:∀i,i<len->∃row,bd (Zaf tn) row/\∃us:GK,aC w (λ_=>True) row us/\us.length=(Zaf tn).length/\∀j,j<us.length->w.cell? ((a.add (i*(Zaf tn).length)).add j)=us[j]?:=by
     intro i hi;obtain⟨iE,y,h1,h2⟩:=yP i hi;obtain⟨_,h3,h4⟩:=World.cells?_some h1;obtain⟨row,ho,hr⟩:=ih _ _ _ _ (hT tn hR) h2;exact⟨row,ho,iE,hr,h3,λj hj=>h4 j om⟩
    have nu:=λ(i:Fin len)=>nv i.1 i.2
    let f:Nat->we:=λi=>if h:i<len then Classical.choose (nv i h)else[]
    have hf:∀i(hi:i<len),bd (Zaf tn) (f i)/\∃us:GK,aC w (λ_=>True) (f i) us/\us.length=(Zaf tn).length/\∀j,j<us.length->w.cell? ((a.add (i*(Zaf tn).length)).add j)=us[j]?:=by
     intro i hi;have:=Classical.choose_spec (nv i hi);simp only[f,hi,dif_pos];exact this
    refine⟨[.sl ((List.range' 0 len).map f)],?_,?_⟩
    ·simp only[bd,and_true];exact Br (bu.of_range f len 0 (λj hj=>by simpa using(hf j hj).1))
    ·simp only[aC,aR,and_true];refine⟨some a,len,cap,rfl,by simp,hl,hm,λh0=>?_⟩;have iq:∀i,i<len->∀j,j<(Zaf tn).length->∃v,w.cell? ((a.add (i*(Zaf tn).length)).add j)=some v:=by
      intro i hi j hj;obtain⟨_,us,_,qD,d7⟩:=hf i hi;exact⟨_,(d7 j om).trans (Taa om)⟩
     have h00:=iq 0 h0 0 hpos;simp only[Nat.zero_mul]at h00;have qv:a.add 0=a:=by simp[Addr.add]
     rw[qv]at h00;have pQ:=ZD1 (w:=w) a 0 h00 h00;obtain⟨v00,hv00⟩:=h00;have eX:a.block<w.heap.size:=by
      rw[qv]at hv00;exact World.block_lt_of_cell? w a hv00
     refine⟨a.block,a.off,by rw[<- pQ],trivial,eX,?_⟩;refine ct.of_range (k:=(Zaf tn).length) f len 0 a.off (λj hj=>?_);simp only[Nat.zero_add];obtain⟨ho,us,hr,qD,d7⟩:=hf j hj;refine⟨ho.len,a8.of_cells (f j) us _ hr (λq hq=>?_)⟩;rw[<- d7 q hq];congr 1;rw[Zqo pQ,Zqo (a:=⟨a.block,a.off+j*(Zaf tn).length,none⟩) rfl]
  | @st _ flds fss hu bP iH nN htys =>
   obtain⟨xs,n,hn,_,bh,uu,hg⟩:=DataW.trod_struct hu h;obtain rfl:fuel=n:=by omega
   have:=Zqn (w:=w) (λ_=>True) fss cs 0 om (λj gs hj=>by
    have lJ:j<fss.length:=(Tad.1 hj).1;have hf:flds[j]?=some (flds[j]'om):=Array.getElem?_eq_getElem om;obtain⟨ho,hk⟩:=nN j _ gs hf hj;have hty:=htys j _ gs hf hj;have ht:=hg j _ hf;have hx:xs[j]?=some (xs[j]'om):=Taa om;rw[hx,ho,hk]at ht;simpa using ih _ _ _ _ hty ht)
   simpa using this
def ZkL(hl:laidOutB P){W W':World}{sp:Nat->Bool}:∀{ts:List TypeId}{vs:GK}{ds:List (DataW H)}{ps:List MemPlace},(∀t∈ts,P.readableRec t/\t<P.types.size) ->
  DataW.TrodAll enc P W 0 (λ_=>true) true ts vs ds ps->(∀p∈ps,W.sameAt W' p)->(∀p∈ps,sp p.block)->DataW.TrodAll enc P W' 0 sp true ts vs ds ps
 |[],[],[],ps,_,h,_,_=>h
 | t::ts,v::vs,d::ds,ps,ht,h,hs,hp=>by
  simp only[DataW.TrodAll]at h⊢;obtain⟨p,q,h1,h2,rfl⟩:=h
  exact⟨p,q,WideElems.Trod_stays hl (ht t (by simp)).1 (ht t (by simp)).2 h1 (λx hx=>hs x (by simp[hx])) (λx hx=>hp x (by simp[hx])),
   ZkL hl (λt' Gt=>ht t' (by simp[Gt])) h2 (λx hx=>hs x (by simp[hx])) (λx hx=>hp x (by simp[hx])),rfl⟩
 |[],_::_,_,_,_,h,_,_=>by simp[DataW.TrodAll]at h
 |[],[],_::_,_,_,h,_,_=>by simp[DataW.TrodAll]at h
 |_::_,[],_,_,_,h,_,_=>by simp[DataW.TrodAll]at h
 |_::_,_::_,[],_,_,h,_,_=>by simp[DataW.TrodAll]at h
def ZD2{f:Func}{s:ChangeSpec}{W W':World}{args:Array Value}{ds:List (DataW H)}{j6:List MemPlace}{tb:TypeId}(hl:laidOutB P)(BW:s.vars=[])
  (fK:f.resultTypes=#[tb]) (hb:P.underlying tb=some .bool) (yT:∀t∈f.params.toList,P.readableRec t/\t<P.types.size)
  (hW:DataW.Whole enc P f.params.toList s.vars false W args.toList ds [] j6) (Ad:s.fn H (ds++[])={ results:=[.lit (.bool true)],args:=ds }) (hbel:Below W.heap.size W W') :
  s.post enc P f false true false false W args (.bool true) W':=by
 have am:∀p∈j6,p.block<W.heap.size:=λp hp=>hW.lt p hp;obtain⟨p,q,hA,hV,rfl,hfz,mS⟩:=id hW;rw[BW]at hV;obtain⟨_,rfl⟩:=trodVars_none hV;simp only[List.append_nil]at am;refine⟨ds,[],p++[],[],p,[],hW,?_,?_,?_,World.keptBut_mono (λx hx=>⟨hx,.inr (.inl (by simpa using hx))⟩) (hbel.frame (·∈p++[])),λh=>by cases h⟩
 ·rw[Ad,fK];exact trodAll_cons_mk (shut_bool hb _) trodAll_mk0
 ·rw[Ad];exact ZkL hl yT hA (λx hx=>hbel.same (am x hx)) (λx hx=>by simpa using am x hx)
 ·rw[Ad,BW];rfl
end
def wT(P:Program)(T:TN->TypeId)(R:TN->Prop):List Field->List (List F)->Prop
 |[],[]=>True
 |f::fl,fs::fss=>TyOk P T R f.type fs/\wT P T R fl fss
 |_,_=>False
def Bg(P:Program):List Field->List (List F)->Nat->Bool
 |[],[],_=>true
 |f::fl,fs::fss,o=>f.offset==o&&P.cellsOf f.type==fs.length&&Bg P fl fss (o+fs.length)
 |_,_,_=>false
def wT.len{P:Program}{T:TN->TypeId}{R:TN->Prop}:∀{fl:List Field}{fss:List (List F)},wT P T R fl fss->fl.length=fss.length
 |[],[],_=>rfl
 |f::fl,fs::fss,h=>by simp only[wT]at h;simp[wT.len h.2]
 |[],_::_,h=>by simp[wT]at h
 |_::_,[],h=>by simp[wT]at h
def wT.get{P:Program}{T:TN->TypeId}{R:TN->Prop}:∀{fl:List Field}{fss:List (List F)}{j:Nat}{f:Field}{fs:List F},wT P T R fl fss->fl[j]?=some f->fss[j]?=some fs->TyOk P T R f.type fs
 |[],_,_,_,_,_,h,_=>by simp at h
 |f::fl,fs::fss,0,g,gs,h,h1,h2=>by
  simp at h1 h2;subst h1 h2;exact h.1
 |f::fl,fs::fss,j+1,g,gs,h,h1,h2=>wT.get (fl:=fl) (fss:=fss) (j:=j) h.2 (by simpa using h1) (by simpa using h2)
 |_::_,[],_,_,_,_,_,h=>by simp at h
def Bg.get{P:Program}:∀{fl:List Field}{fss:List (List F)}{o j:Nat}{f:Field}{fs:List F},Bg P fl fss o->fl[j]?=some f->fss[j]?=some fs->f.offset=o+(fss.take j).flatten.length/\P.cellsOf f.type=fs.length
 |[],_,_,_,_,_,_,h,_=>by simp at h
 |f::fl,fs::fss,o,0,g,gs,h,h1,h2=>by
  simp at h1 h2;subst h1 h2;simp only[Bg,Tar,beq_iff_eq]at h;simpa using h.1
 |f::fl,fs::fss,o,j+1,g,gs,h,h1,h2=>by
  simp only[Bg,Tar,beq_iff_eq]at h;have:=Bg.get (fl:=fl) (fss:=fss) (o:=o+fs.length) (j:=j) h.2 (by simpa using h1) (by simpa using h2);simp only[Tbc,List.flatten_cons,Tae];exact⟨om,this.2⟩
 |_::_,[],_,_,_,_,_,_,h=>by simp at h
def TyOk.st_of{P:Program}{T:TN->TypeId}{R:TN->Prop}{fl:List Field}(fss:List (List F))(hu:P.underlying t=some (.struct fl.toArray))(ho:Bg P fl fss 0)(hc:P.cellsOf t=fss.flatten.length)(h:wT P T R fl fss):TyOk P T R t fss.flatten:=by
 refine .st hu (by simpa using h.len) hc (λj f fs h1 h2=>?_) (λj f fs h1 h2=>h.get (by simpa using h1) h2);have:=ho;have:=Bg.get ho (by simpa using h1) h2;simpa using this
def own:ownKnob Tryz.prog.godebug=none:=by kernel_rfl
def ZHf:laidOutB Tryz.prog:=by kernel_rfl
end
def ry:TN->TypeId
 |.int=>3
 |.str=>9
 |.ints=>114
 |.sub=>155
 |.decl=>198
 |.op=>96
 |.term=>31
 |_=>0
def rz:TN->Prop
 |.int=>True
 |.str=>True
 |.ints=>True
 |.sub=>True
 |.decl=>True
 |.op=>True
 |.term=>True
 |_=>False
def CS:TyOk Tryz.prog ry rz 3 [.int]:=.int Tryz.underlying3
def Zss:TyOk Tryz.prog ry rz 9 [.str]:=.str Tryz.underlying9
def ZvW:TyOk Tryz.prog ry rz 4 [.bool]:=.bool Tryz.underlying4
def Zst:TyOk Tryz.prog ry rz 114 [.sl .int]:=.sl (tn:=.int) Tryz.underlying114 (by kernel_rfl) trivial
def ZD3:TyOk Tryz.prog ry rz 22 [.sl .str]:=.sl (tn:=.str) Tryz.underlying22 (by kernel_rfl) trivial
def ZD4:TyOk Tryz.prog ry rz 23 [.sl .sub]:=.sl (tn:=.sub) Tryz.underlying23 (by kernel_rfl) trivial
def Zzv:TyOk Tryz.prog ry rz 94 [.sl .decl]:=.sl (tn:=.decl) Tryz.underlying94 (by kernel_rfl) trivial
def ZHg:TyOk Tryz.prog ry rz 26 [.sl .op]:=.sl (tn:=.op) Tryz.underlying26 (by kernel_rfl) trivial
def Zzw:TyOk Tryz.prog ry rz 29 [.sl .term]:=.sl (tn:=.term) Tryz.underlying29 (by kernel_rfl) trivial
def ZIg:TyOk Tryz.prog ry rz 155 (Zaf .sub):=TyOk.st_of [[.int],[.int]] Tryz.underlying155 (by kernel_rfl) (by kernel_rfl) ⟨CS,CS,trivial⟩
def ZD5:TyOk Tryz.prog ry rz 25 (wI):=TyOk.st_of [[.sl .str],[.sl .sub]] Tryz.underlying25 (by kernel_rfl) (by kernel_rfl) ⟨ZD3,ZD4,trivial⟩
def ZHh:TyOk Tryz.prog ry rz 198 (Zaf .decl):=TyOk.st_of [[.sl .int],[.int]] Tryz.underlying198 (by kernel_rfl) (by kernel_rfl) ⟨Zst,CS,trivial⟩
def ZI0:TyOk Tryz.prog ry rz 96 (Zaf .op):=TyOk.st_of [[.str],[.sl .decl],[.bool],[.bool],[.int]] Tryz.underlying96 (by kernel_rfl) (by kernel_rfl) ⟨Zss,Zzv,ZvW,ZvW,CS,trivial⟩
def Zsu:TyOk Tryz.prog ry rz 28 (lZ):=TyOk.st_of [wI,[.sl .op]] Tryz.underlying28 (by kernel_rfl) (by kernel_rfl) ⟨ZD5,ZHg,trivial⟩
def ZpF:TyOk Tryz.prog ry rz 31 (Zaf .term):=TyOk.st_of [[.int],[.str],[.int],[.sl .term]] Tryz.underlying31 (by kernel_rfl) (by kernel_rfl) ⟨CS,Zss,CS,Zzw,trivial⟩
def Zsv:∀tn,rz tn->TyOk Tryz.prog ry rz (ry tn) (Zaf tn):=by
 intro tn h
 cases tn
 all_goals first
  |exact(h:False).elim
  |exact CS
  |exact Zss
  |exact Zst
  |exact ZIg
  |exact ZHh
  |exact ZI0
  |exact ZpF
section
variable{w w':World}{S:GO}
def ZpG{c:Array Value}{g i:Nat}{v:Value}(hg:g=w.heap.size)(h:c[i]?=some v):(w.alloc (.cells c t)).cell? ⟨g,i,none⟩=some v:=by
 subst hg;simp[h]
def yF(w:World)(o:Obj):Below w.heap.size w (w.alloc o):=(Below.refl _ _).alloc (Tai _) _
def Zzx(w:World):Below w.heap.size w w.drew:=ZmQ (Below.refl _ _) 1
def Zzy(w:World)(n:Nat):Below w.heap.size w (w.drewN n):=ZmQ (Below.refl _ _) n
def aC.alloc{cs:we}{us:GK}(o:Obj)(h:aC w S cs us):aC (w.alloc o) S cs us:=h.below (yF w o)
def aC.drew{cs:we}{us:GK}(h:aC w S cs us):aC w.drew S cs us:=h.below (Zzx w)
def aC.drewN{cs:we}{us:GK}{n:Nat}(h:aC w S cs us):aC (w.drewN n) S cs us:=h.below (Zzy w n)
def aC.later{cs:we}{us:GK}(hb:Below w.heap.size w w')(h:aC w S cs us):aC w' S cs us:=h.below hb
def aR.alloc{c:C}{v:Value}(o:Obj)(h:aR w S c v):aR (w.alloc o) S c v:=h.below (yF w o)
def aR.drew{c:C}{v:Value}(h:aR w S c v):aR w.drew S c v:=h.below (Zzx w)
def aR.drewN{c:C}{v:Value}{n:Nat}(h:aR w S c v):aR (w.drewN n) S c v:=h.below (Zzy w n)
def aR.later{c:C}{v:Value}(hb:Below w.heap.size w w')(h:aR w S c v):aR w' S c v:=h.below hb
def Below.later{B:Nat}{a:World}(hb:Below w.heap.size w w')(h:Below B a w)(hB:B<=a.heap.size):Below B a w':=h.trans (hb.mono (Tbe hB h.size))
end
def Put.below{w:World}{g B:Nat}{us:GK}(h:Put w w' g off us)(hB:B<=g):Below B w w':=⟨h.os,h.tape,h.output,by have:=h.size;omega,λx hx=>h.other x om⟩
def gives(P:Program)(o:Oper)(ρ:Operand->Value)(w:World)(R:Value->World->Prop):Prop :=
 match(execOp ρ o).run P w with
 |.ok (.value v) w'=>R v w'
 |.ok .skip w'=>R undef w'
 |.ok (.enter f args) w'=>Calls P f args w' (λe w''=>∃v,e=.returned v/\R v w'')
 |_=>False
def ym{P:Program}{o:Oper}{a:Act}{w:World}{R:Value->World->Prop}{K:Act->World->Prop}{Q:Exit->Act->World->Prop}(h:gives P o a.eval w R)(hK:∀v w',R v w'->K (a.put o.dst v) w'):o.wp P a w K Q:=by
 unfold gives at h;unfold Oper.wp;generalize (execOp a.eval o).run P w=r at *
 cases r with
 |ok n w' =>
  cases n<;>simp only at h<;>simp only[Oper.upon]
  case value u=>exact hK _ _ h
  case skip=>exact hK _ _ h
  case enter f args=>exact h.mono λe w''⟨v,he,hr⟩=>by subst he;exact hK _ _ hr
 |halt x w'=>simp only at h
def rx(o:Oper):GN:=o.op.operands.toList.filterMap λ|.tmp t=>some t|_=>none
abbrev Says:=Value->GK->Nat->Nat->World->Prop
def ti (ops:Array Oper) (n:Nat):Bool :=
 (List.range n).all λi=>match ops[i]? with
  |none=>false
  | some o=>o.guard.isNone&&o.dst.isSome&&o.after.all (λe=>!Region.binds .any e||decide (e.on<i)) &&
   (List.range n).all λj=>match ops[j]? with
    |none=>false
    |some p=>(j==i||p.dst != o.dst)&&(!(rx o).any (λt=>p.dst==some t)||Region.waitsFor .any ops i j)
structure Inv(P:Program)(ops:Array Oper)(n:Nat)(Gs:List Says)(C:World->Prop)(a0:Act)(w0:World)(aa:Array Bool)(a:Act)(w:World)(lo hi:Nat->Nat):Prop where
 head:HeadInv .any ops n aa
 size:a.tmps.size=a0.tmps.size
 defers:a.defers=a0.defers
 out:∀t,(∀(i:Nat)(o:Oper),i<n->ops[i]?=some o->o.dst≠some t)->a.tmps.getD t undef=a0.tmps.getD t undef
 Ξ:C w
 below:Below w0.heap.size w0 w
 done:∀(i:Nat)(o:Oper)(d:Nat)(g:Says),i<n->aa.getD i false->ops[i]?=some o->o.dst=some d->Gs[i]?=some g ->
  g (a.tmps.getD d undef) ((rx o).map (λt=>a.tmps.getD t undef)) (lo i) (hi i) w/\w0.heap.size<=lo i/\lo i<=hi i/\hi i<=w.heap.size
 apart:∀i j,i<n->j<n->i≠j->aa.getD i false->aa.getD j false->hi i<=lo j\/hi j<=lo i
def ZFB(P:Program)(ops:Array Oper)(n:Nat)(Gs:List Says)(C:World->Prop)(a0:Act)(o:Oper)(g:Says):Prop :=
 ∀(a:Act)(w:World),C w ->
  (∀t,(∀(i:Nat)(o':Oper),i<n->ops[i]?=some o'->o'.dst≠some t)->a.tmps.getD t undef=a0.tmps.getD t undef) ->
  (∀(i:Nat)(o':Oper)(d:Nat)(g':Says),i<n->ops[i]?=some o'->o'.dst=some d->d∈rx o->Gs[i]?=some g'->∃lo hi,g' (a.tmps.getD d undef) ((rx o').map (λt=>a.tmps.getD t undef)) lo hi w) ->
  gives P o a.eval w (λv w'=>C w'/\Below w.heap.size w w'/\g v ((rx o).map (λt=>a.tmps.getD t undef)) w.heap.size w'.heap.size w')
def ZkM{a:Act}{d:Nat}{v:Value}(h:d<a.tmps.size):(a.put (some d) v).tmps.getD d undef=v:=by simp[Act.put,h]
def ZgL{a:Act}{d t:Nat}{v:Value}(h:d≠t):(a.put (some d) v).tmps.getD t undef=a.tmps.getD t undef:=by simp[Act.put,Array.getElem?_setIfInBounds_ne h]
def nG{aa:Array Bool}{i:Nat}(h:i<aa.size):aa.getD i true=aa.getD i false:=by simp[h]
section
variable{P:Program}{ops:Array Oper}{n:Nat}{Gs:List Says}{C:World->Prop}{a0:Act}{w0:World}
def ti.get (h:ti ops n) {i:Nat} (hi:i<n):∃o d,ops[i]?=some o/\o.guard=none/\o.dst=some d/\(∀e∈o.after,Region.binds .any e->e.on<i) /\
  ∀(j:Nat)(p:Oper),j<n->ops[j]?=some p->(j≠i->p.dst≠some d)/\(∀t∈rx o,p.dst=some t->Region.waitsFor .any ops i j):=by
 have h1:=List.all_eq_true.1 h i (List.mem_range.2 hi)
 cases ho:ops[i]? with
 |none=>rw[ho]at h1;simp at h1
 | some o =>
  rw[ho]at h1;simp only[Tar]at h1;obtain⟨⟨⟨h1,h2⟩,h3⟩,h4⟩:=h1;obtain⟨d,hd⟩:=Option.isSome_iff_exists.1 h2;refine⟨o,d,rfl,by simpa using h1,hd,λe he hb=>?_,λj p hj hp=>?_⟩
  ·have:=Array.all_eq_true'.1 h3 e he;simpa[hb]using this
  ·have h5:=List.all_eq_true.1 h4 j (List.mem_range.2 hj);rw[hp]at h5;simp only[Tar,Bool.or_eq_true,beq_iff_eq,bne_iff_ne,ne_eq,Bool.not_eq_true']at h5;refine⟨λaP hpd=>?_,λt ht gn=>?_⟩
   ·rcases h5.1 with h|h
    ·exact aP h
    ·exact h (hpd.trans hd.symm)
   ·rcases h5.2 with h|h
    ·have:=List.any_eq_false.1 h t ht;simp[gn]at this
    ·exact h
def Inv.step(hD:ti ops n)(bh:Gs.length=n)(bP:∀(i:Nat)(o:Oper)(d:Nat),i<n->ops[i]?=some o->o.dst=some d->d<a0.tmps.size)
  (hG:∀(i:Nat)(g:Says),Gs[i]?=some g->∀v ds lo hi w w',Below w.heap.size w w'->g v ds lo hi w->g v ds lo hi w')
  {aa:Array Bool} {a:Act} {w w':World} {lo hi:Nat->Nat} {i:Nat} {o:Oper} {d:Nat} {g:Says} {v:Value} (hI:Inv P ops n Gs C a0 w0 aa a w lo hi) (dR:i<n) (ho:ops[i]?=some o) (hd:o.dst=some d) (hg:Gs[i]?=some g)
  (hr:i∈Region.ready .any ops aa) (hC:C w') (hb:Below w.heap.size w w') (hv:g v ((rx o).map (λt=>a.tmps.getD t undef)) w.heap.size w'.heap.size w') :
  Inv P ops n Gs C a0 w0 (aa.setIfInBounds i true) (a.put o.dst v) w' (λj=>if j=i then w.heap.size else lo j) (λj=>if j=i then w'.heap.size else hi j):=by
 obtain⟨iZ,_,_,hall⟩:=mem_ready.1 hr;obtain⟨o2,d2,nS,_,lH,_,ph⟩:=ti.get hD dR;rw[ho]at nS;injection nS with nS
 subst nS;rw[hd]at lH;injection lH with lH
 subst lH;have jX:d<a.tmps.size:=by rw[hI.size];exact bP i o d dR ho hd
 have iJ:i<aa.size:=by
  rw[hI.head.size];exact(Tbm.1 ho).1
 rw[hd];have old:∀j,j≠i->(aa.setIfInBounds i true).getD j false=aa.getD j false:=λj hj=>getD_set_ne false (Ne.symm hj)
 -- the operands of what is aa do not lie in the new place
 have safe:∀(j:Nat)(p:Oper),j<n->ops[j]?=some p->(aa.getD j false\/j=i)->∀t∈rx p,d≠t:=by
  intro j p hj hp hl t ht e;subst e;obtain⟨p2,_,nA,_,_,jp,hdep2⟩:=ti.get hD hj;rw[hp]at nA;injection nA with nA
  subst nA;have hw:=(hdep2 i o dR ho).2 d ht hd;obtain⟨p3,tH,e,he,mP,Gp⟩:=Region.waitsFor_spec hw;rw[hp]at tH;injection tH with tH
  subst tH;rcases hl with hl|rfl
  ·have:=hI.head.closed j p hp hl e he mP;rw[Gp,<- nG iJ,iZ]at this
   cases this
  ·have:=jp e he mP;omega
 have same:∀(j:Nat)(p:Oper),j<n->ops[j]?=some p->(aa.getD j false\/j=i)->(rx p).map (λt=>(a.put (some d) v).tmps.getD t undef)=(rx p).map (λt=>a.tmps.getD t undef):=λj p hj hp hl =>
  List.map_congr_left λt ht=>ZgL (safe j p hj hp hl t ht)
 have hwz:=hb.size;refine⟨hI.head.set hr dR,by simp[Act.put,hI.size],by simp[Act.put,hI.defers],λt ht=>?_,hC,hI.below.trans (hb.mono hI.below.size),λj p dj gj hj hl hp iI Gl=>?_,λj k hj hk aP pj mR=>?_⟩
 ·rw[ZgL (λe=>ht i o dR ho (by rw[hd,e]))];exact hI.out t ht
 ·by_cases fu:j=i
  ·subst fu;rw[ho]at hp;injection hp with hp
   subst hp;rw[hd]at iI;injection iI with iI
   subst iI;rw[hg]at Gl;injection Gl with Gl
   subst Gl;rw[same j o hj ho (.inr rfl),ZkM jX];simp only[if_true];exact⟨hv,hI.below.size,hwz,Tai _⟩
  ·rw[old j fu]at hl;simp only[fu,if_false];obtain⟨h1,h2,h3,h4⟩:=hI.done j p dj gj hj hl hp iI Gl;have aP:d≠dj:=λe=>(ph j p hj hp).1 fu (by rw[iI,e]);rw[same j p hj hp (.inl hl),ZgL aP];exact⟨hG j gj Gl _ _ _ _ w w' hb h1,h2,h3,om⟩
 ·by_cases fu:j=i
  ·by_cases qz:k=i
   ·omega
   ·rw[old k qz]at mR;simp only[fu,qz,if_true,if_false];obtain⟨p,dk,hp,_,rN,_,_⟩:=ti.get hD hk;have tC:Gs[k]?=some Gs[k]:=Taa om;have:=hI.done k p dk _ hk mR hp rN tC;omega
  ·rw[old j fu]at pj;by_cases qz:k=i
   ·simp only[fu,qz,if_true,if_false];obtain⟨p,dk,hp,_,rN,_,_⟩:=ti.get hD hj;have tC:Gs[j]?=some Gs[j]:=Taa om;have:=hI.done j p dk _ hj pj hp rN tC;omega
   ·rw[old k qz]at mR;simp only[fu,qz,if_false];exact hI.apart j k hj hk aP pj mR
def ni(m n:Nat):Array Bool:=(Array.range m).map λi=>decide (i<n)
def Zk1{aa:Array Bool}(hh:HeadInv .any ops n aa)(hn:n<=ops.size)(h:∀i,i<n->aa.getD i true):aa=ni ops.size n:=by
 apply Array.ext
 ·simp[ni,hh.size]
 ·intro i h1 h2;rw[(by simp[h1]:aa[i]=aa.getD i true)];by_cases hi:i<n
  ·rw[h i hi];simp[ni,hi]
  ·rw[hh.tail i om (by rw[<- hh.size];exact h1)];simp[ni,hi]
structure DoneD(ops:Array Oper)(n:Nat)(Gs:List Says)(w0:World)(f:Nat->Value)(w:World)(lo hi:Nat->Nat):Prop where
 done:∀(i:Nat)(o:Oper)(d:Nat)(g:Says),i<n->ops[i]?=some o->o.dst=some d->Gs[i]?=some g ->
  g (f d) ((rx o).map f) (lo i) (hi i) w/\w0.heap.size<=lo i/\lo i<=hi i/\hi i<=w.heap.size
 apart:∀i j,i<n->j<n->i≠j->hi i<=lo j\/hi j<=lo i
def Zn8(P:Program)(ops:Array Oper)(n:Nat)(Gs:List Says)(C:World->Prop)(a0:Act):GL->List Says->Prop
 |o::os,g::gs=>ZFB P ops n Gs C a0 o g/\Zn8 P ops n Gs C a0 os gs
 |_,_=>True
def Zn8.get:∀{os:GL}{gs:List Says},Zn8 P ops n Gs C a0 os gs->∀(i:Nat)(o:Oper)(g:Says),os[i]?=some o->gs[i]?=some g->ZFB P ops n Gs C a0 o g
 |[],_,_,_,_,_,h,_=>by simp at h
 |_::_,[],_,_,_,_,_,h=>by simp at h
 |o::os,g::gs,h,0,o',g',h1,h2=>by
  simp at h1 h2;subst h1 h2;exact h.1
 |o::os,g::gs,h,i+1,o',g',h1,h2=>Zn8.get h.2 i o' g' (by simpa using h1) (by simpa using h2)
def Fq(n:Nat)(w0:World)(f:Nat->Value)(w:World)(lo hi:Nat->Nat):Nat->GL->List Says->Prop
 |i,o::os,g::gs=>(g (f (o.dst.getD 0)) ((rx o).map f) (lo i) (hi i) w/\w0.heap.size<=lo i/\lo i<=hi i/\hi i<=w.heap.size)/\Fq n w0 f w lo hi (i+1) os gs
 |_,_,_=>True
def Fq.of{f:Nat->Value}{w:World}{lo hi:Nat->Nat}{l:GL}(h:DoneD l.toArray n Gs w0 f w lo hi)(bJ:(l.take n).all (λo=>o.dst.isSome)):∀(os:GL)(gs:List Says)(i:Nat),i+os.length<=n->(∀j,j<os.length->os[j]?=l[i+j]?)->(∀j,gs[j]?=Gs[i+j]?)->Fq n w0 f w lo hi i os gs
 |[],_,_,_,_,_=>by simp[Fq]
 |_::_,[],_,_,_,_=>by simp[Fq]
 |o::os,g::gs,i,hi,ho,hg=>by
  simp only[Tag]at hi;have h0:l[i]?=some o:=by simpa using(ho 0 (by simp)).symm
  have hd:o.dst.isSome:=List.all_eq_true.1 bJ o (Tac (i:=i) (by rw[List.getElem?_take];simp[h0];omega));obtain⟨d,hd⟩:=Option.isSome_iff_exists.1 hd;refine⟨?_,Fq.of h bJ os gs (i+1) om (λj hj=>by have:=ho (j+1) (by simp;omega);simpa[Tby,Nat.add_comm 1 j]using this) (λj=>by have:=hg (j+1);simpa[Tby,Nat.add_comm 1 j]using this)⟩;have:=h.done i o d g om (by simpa using h0) hd (by simpa using(hg 0).symm)
  rw[hd];exact this
end
structure Kept(D:Prop)(E:GO)(B:Nat)(w w':World):Prop where
 os:w'.os=w.os
 tape:w'.tape=w.tape
 output:w'.output=w.output
 drawn:D->w.drawn<=w'.drawn
 size:w.heap.size<=w'.heap.size
 block:∀k,k<B->¬E k->w'.heap[k]?=w.heap[k]?
def Kept.refl(D:Prop)(E:GO)(B:Nat)(w:World):Kept D E B w w:=⟨rfl,rfl,rfl,λ_=>Tai _,Tai _,λ_ _ _=>rfl⟩
def Kept.trans{D:Prop}{E:GO}{B:Nat}{a b c:World}(h:Kept D E B a b)(k:Kept D E B b c):Kept D E B a c :=
 ⟨k.os.trans h.os,k.tape.trans h.tape,k.output.trans h.output,λd=>Tbe (h.drawn d) (k.drawn d),Tbe h.size k.size,λi hi hE=>(k.block i hi hE).trans (h.block i hi hE)⟩
def Kept.mono{D:Prop}{E:GO}{B B':Nat}{w:World}(h:Kept D E B w w')(hB:B'<=B):Kept D E B' w w' :=
 ⟨h.os,h.tape,h.output,h.drawn,h.size,λk hk hE=>h.block k (Tbd hk hB) hE⟩
def Kept.of_below{D:Prop}{E:GO}{B:Nat}{w:World}(h:Below B w w')(hd:D->w.drawn<=w'.drawn):Kept D E B w w':=⟨h.os,h.tape,h.output,hd,h.size,λk hk _=>h.block k hk⟩
def Kept.below{D:Prop}{B:Nat}{w:World}(h:Kept D (λ_=>False) B w w'):Below B w w':=⟨h.os,h.tape,h.output,h.size,λk hk=>h.block k hk id⟩
structure Env where
 P:Program
 E:Nat->Prop
 G:World->Prop
 D:Prop
structure Env.Ok(e:Env):Prop where
 Ε:∀w w':World,w.heap.size<=w'.heap.size->(∀b,e.E b->w'.heap[b]?=w.heap[b]?)->e.G w->e.G w'
 mixed:e.P.follows .mixedOrders=true
inductive D where
 |I (c:C)
 |agg (cs:we)
 |Ζ (rows:sh)
abbrev AS:=List D
inductive Bk where
 |var (o:GM) (cs:we)
 |Υ (o:Option (BY×Nat)) (e sz:Nat) (rows:sh)
 |set (E:GO) (G:World->Prop)
abbrev it:=List (Nat×Bk)
abbrev GQ:=List Bk
def vO(E:GO)(G:World->Prop):Prop:=∀w w':World,w.heap.size<=w'.heap.size->(∀b,E b->w'.heap[b]?=w.heap[b]?)->G w->G w'
inductive A where
 |undef
 |no
 |d (x:D)
 |tup (xs:AS)
 |ref (k off:Nat)
 |Υ (k:Nat)
 |row (k j sz off:Nat)
abbrev d3:=List (Nat×A)
abbrev GS(n:Int):C:=.A (.int .i64 n)
abbrev GV(b:Bool):C:=.A (.bool b)
abbrev GT(n:Int):D:=.I (.A (.int .i64 n))
abbrev GW(b:Bool):D:=.I (.A (.bool b))
abbrev GU(n:Int):A:=.d (.I (.A (.int .i64 n)))
abbrev GX(b:Bool):A:=.d (.I (.A (.bool b)))
abbrev GY(c:C):A:=.d (.I c)
structure Lay where
 b:Nat->Nat
 v:Nat->Value
def aX(w:World)(S:GO):D->Value->Prop
 |.I c,v=>aR w S c v
 |.agg cs,v=>∃vs:GK,v=.agg vs.toArray/\aC w S cs vs
 |.Ζ rows,v=>aR w S (.sl rows) v/\∃a n,v=.slice a n n
def dt(w:World)(S:GO):AS->GK->Prop
 |[],[]=>True
 |x::xs,v::vs=>aX w S x v/\dt w S xs vs
 |_,_=>False
def aO:Value->GM
 |.slice (some a) _ cap=>if cap=0 then none else some a.block
 |_=>none
def aw(w:World)(S:GO)(L:Lay):A->Value->Prop
 |.undef,_=>True
 |.no,v=>v=Go.undef
 |.d x,v=>aX w S x v
 |.tup xs,v=>∃vs:GK,v=.tuple vs.toArray/\dt w S xs vs
 |.ref k off,v=>v=.pointer (some ⟨L.b k,off,none⟩)
 |.Υ k,v=>v=L.v k
 |.row k j sz off,v=>∃g,aO (L.v k)=some g/\v=.pointer (some ⟨g,j*sz+off,none⟩)
def aQ:AS->A
 |[x]=>.d x
 |xs=>.tup xs
def bQ:C->Bool
 |.A v=>v.oneCell'
 |.sl _=>true
 |.ptr _=>true
 |.fn _ _=>true
def rowsLen(n:Nat)(rows:sh):Prop:=∀r∈rows,r.length=n/\r.all bQ=true
def eO(w:World)(S:GO)(e sz:Nat)(rows:sh)(v:Value):Prop :=
 0<sz/\rowsLen sz rows/\((rows=[]/\∃a,v=.slice a 0 0) \/
  ∃g cap bf,v=.slice (some ⟨g,0,none⟩) rows.length cap/\0<cap/\g<w.heap.size/\¬S g/\w.heap[g]?=some (.cells bf e (0,0))/\rows.length<=cap/\cap<=maxLen/\bf.size=cap*sz/\ct w S g 0 rows)
def qN(P:Program)(f:FuncId):Bool :=
 match P.funcs[f]? with
 |some fn=>!(fn.name == "runtime.NumGoroutine")&&fn.body.isSome
 |none=>false
def aI(e:Env)(f:FuncId)(args r:AS):Prop:=qN e.P f=true /\
 ∀(w:World)(S:GO)(vs:GK),(∀b,S b->b<w.heap.size/\¬e.E b)->(∀b,e.E b->b<w.heap.size)->e.G w->dt w S args vs ->
  Calls e.P f vs.toArray w λen w'=>∃v,en=.returned v/\Kept e.D e.E w.heap.size w w'/\e.G w'/\aw w' (λb=>S b\/(w.heap.size<=b/\b<w'.heap.size)) ⟨λ_=>0,λ_=>Go.undef⟩ (aQ r) v
def fX(e:Env)(f:FuncId)(args:AS)(R:AS->Prop):Prop:=qN e.P f=true /\
 ∀(w:World)(S:GO)(vs:GK),(∀b,S b->b<w.heap.size/\¬e.E b)->(∀b,e.E b->b<w.heap.size)->e.G w->dt w S args vs ->
  Calls e.P f vs.toArray w λen w'=>∃v r,en=.returned v/\R r/\Kept e.D e.E w.heap.size w w'/\e.G w'/\aw w' (λb=>S b\/(w.heap.size<=b/\b<w'.heap.size)) ⟨λ_=>0,λ_=>Go.undef⟩ (aQ r) v
def eE:Bk->Nat->Prop
 |.var (some b) _,g=>b=g
 |.Υ (some (a,cap)) _ _ rows,g=>aO (.slice a rows.length cap)=some g
 |.set E _,g=>E g
 |_,_=>False
def oT(w:World)(S:GO):Bk->Prop
 |.var (some b) cs=>b<w.heap.size/\¬S b/\(∃oX ty,w.heap[b]?=some (.cells oX ty (0,0))/\oX.size=cs.length)/\a8 w S b 0 cs
 |.Υ (some (a,cap)) e sz rows=>eO w S e sz rows (.slice a rows.length cap)
 |.set E G=>(∀b,E b->b<w.heap.size/\¬S b)/\G w/\vO E G
 |_=>False
def oO:GQ->Prop
 |[]=>True
 |x::r=>(∀y∈r,∀g,eE x g->¬eE y g)/\oO r
def dP(pm:GQ)(g:Nat):Prop:=∃x∈pm,eE x g
def aT(e:Env)(f:FuncId)(args:AS)(pm:GQ)(R:AS->GQ->Prop):Prop:=qN e.P f=true /\
 ∀ (w:World) (S:GO) (vs:GK),(∀b,S b->b<w.heap.size/\¬e.E b)->(∀b,e.E b->b<w.heap.size)->e.G w->(∀x∈pm,oT w S x/\∀g,eE x g->¬e.E g)->oO pm->dt w S args vs ->
  Calls e.P f vs.toArray w λen w'=>∃v r bj,en=.returned v/\R r bj/\Kept e.D (λb=>e.E b\/dP pm b) w.heap.size w w'/\e.G w' /\
   (∀x∈bj,oT w' (λb=>(S b\/dP pm b\/(w.heap.size<=b/\b<w'.heap.size))/\¬dP bj b) x/\∀g,eE x g->dP pm g\/w.heap.size<=g)/\oO bj /\
   aw w' (λb=>(S b\/dP pm b\/(w.heap.size<=b/\b<w'.heap.size))/\¬dP bj b) ⟨λ_=>0,λ_=>Go.undef⟩ (aQ r) v
def sO(e:Env)(f:FuncId)(args:AS)(ty sz:Nat)(rows:sh):Prop:=qN e.P f=true /\
 ∀(w:World)(S:GO)(vs:GK),(∀b,S b->b<w.heap.size/\¬e.E b)->(∀b,e.E b->b<w.heap.size)->e.G w->dt w S args vs ->
  Calls e.P f vs.toArray w λen w'=>∃v,en=.returned v/\Kept e.D e.E w.heap.size w w'/\e.G w'/\(∀g,aO v=some g->w.heap.size<=g)/\eO w' (λb=>(S b\/(w.heap.size<=b/\b<w'.heap.size))/\aO v≠some b) ty sz rows v
def jH(e:Env)(f:FuncId)(ty sz:Nat)(rows:sh)(args:AS)(rows':sh)(r:AS):Prop:=qN e.P f=true /\
 ∀(w:World)(S:GO)(v0:Value)(vs:GK),(∀b,S b->b<w.heap.size/\¬e.E b)->(∀b,e.E b->b<w.heap.size)->(∀g,aO v0=some g->¬e.E g)->e.G w->eO w S ty sz rows v0->dt w S args vs ->
  Calls e.P f (v0::vs).toArray w λen w'=>∃v,en=.returned v/\Kept e.D (λb=>e.E b\/aO v0=some b) w.heap.size w w'/\e.G w'/\eO w' (λb=>S b\/(w.heap.size<=b/\b<w'.heap.size)) ty sz rows' v0/\aw w' (λb=>S b\/(w.heap.size<=b/\b<w'.heap.size)) ⟨λ_=>0,λ_=>Go.undef⟩ (aQ r) v
def sP(e:Env)(f:FuncId)(ty sz:Nat)(rows:sh)(args:AS)(rows':sh):Prop:=qN e.P f=true /\
 ∀(w:World)(S:GO)(v0:Value)(vs:GK),(∀b,S b->b<w.heap.size/\¬e.E b)->(∀b,e.E b->b<w.heap.size)->(∀g,aO v0=some g->¬e.E g)->e.G w->eO w S ty sz rows v0->dt w S args vs ->
  Calls e.P f (v0::vs).toArray w λen w'=>∃v,en=.returned v/\Kept e.D (λb=>e.E b\/aO v0=some b) w.heap.size w w'/\e.G w'/\(∀g,aO v=some g->aO v0=some g\/w.heap.size<=g)/\eO w' (λb=>(S b\/(w.heap.size<=b/\b<w'.heap.size))/\aO v≠some b) ty sz rows' v
def ux:Value->C
 |.slice none 0 0=>.sl []
 |v=>.A v
inductive TK where
 |I
 |agg (n:Nat)
def CQ:TypeDesc->Bool
 |.struct _=>true
 |.array _ _=>true
 |_=>false
def rm(P:Program)(t:TypeId):Option TK :=
 match P.underlying t,P.info? t with
 |some d,some i=>if CQ d then some (.agg i.size)else if i.size=1 then some .I else none
 |_,_=>none
def jQ(P:Program)(t:TypeId)(f:Nat):Option (Nat×TypeId) :=
 match P.underlying t with
 | some (.struct fs)=>match fs[f]? with
  |some g=>match P.info? g.type with
   |some i=>if i.size=0 then none else some (g.offset,g.type)
   |none=>none
  |none=>none
 |_=>none
def kK(P:Program)(t:TypeId):GM :=
 match P.underlying t with
 |some (.slice e)=>(P.info? e).map (·.size)
 |_=>none
def n7(P:Program)(ts:Array TypeId):Option Bool :=
 match ts[0]? with
 |some t=>match P.underlying t with
  |some (.slice _)=>some true
  |some .string=>some false
  |_=>none
 |none=>none
def jT(P:Program)(t:TypeId):Option (TypeId×Nat×Nat) :=
 match P.underlying t with
 | some (.slice e)=>match P.info? e with
  |some i=>match i.zero with
   |some z=>if z.cells.size=i.size/\0<i.size/\i.bytes<=4096 then some (e,i.size,i.bytes)else none
   |none=>none
  |none=>none
 |_=>none
def sR(P:Program)(t:TypeId):GM:=(P.info? t).map (·.size)
def jU(P:Program)(t:TypeId):Option (we):=((P.info? t).bind (·.zero)).map λv=>v.cells.toList.map ux
def jA:TK->we->Option A
 |.I,c::_=>some (GY c)
 |.agg n,cs=>if n<=cs.length then some (.d (.agg (cs.take n)))else none
 |_,_=>none
def gs:d3->Nat->A
 |[],_=>.undef
 |(k,a)::r,t=>if t=k then a else gs r t
def gm:it->Nat->Option Bk
 |[],_=>none
 |(k,a)::r,t=>if t=k then some a else gm r t
def aA(k:Nat):it->it
 |[]=>[]
 |(t,a)::r=>if t=k then aA k r else(t,a)::aA k r
structure St where
 s:d3
 m:it
abbrev GR:=St->Prop
def wO:Value->A
 |.slice none 0 0=>.d (.Ζ [])
 |.agg vs=>.d (.agg (vs.toList.map ux))
 |v=>GY (.A v)
def aL(s:d3):Operand->A
 |.tmp t=>gs s t
 |.const v=>wO v
 |.func f=>GY (.fn f [])
 |.global _=>.undef
def vC:Option Bk->Option (we)
 |some (.var _ cs)=>some cs
 |_=>none
def AP(j sz:Nat):Option Bk->Option (we)
 |some (.Υ _ _ lq rows)=>if lq=sz then rows[j]? else none
 |_=>none
def jz(m:it):A->Option (we)
 |.d (.I (.ptr cs))=>some cs
 |.ref k off=>(vC (gm m k)).map (·.drop off)
 |.row k j sz off=>(AP j sz (gm m k)).map (·.drop off)
 |_=>none
def rC:Option Bk->Option (sh)
 |some (.Υ _ _ _ rows)=>some rows
 |_=>none
def oI(m:it):A->Option (sh)
 |.d (.I (.sl rows))=>some rows
 |.d (.Ζ rows)=>some rows
 |.Υ k=>rC (gm m k)
 |_=>none
def mK:List A->Option (AS)
 |[]=>some []
 |.d x::r=>(mK r).map (x::·)
 |_::_=>none
def qt:List A->Option (we)
 |[]=>some []
 |.d (.I c)::r=>(qt r).map (c::·)
 |_::_=>none
def pG:A->Option (we)
 |.d (.I c)=>if bQ c then some [c]else none
 |.d (.agg cs)=>if cs.all bQ then some cs else none
 |.d (.Ζ rows)=>some [.sl rows]
 |_=>none
def C9:BinOp->Value->Value->Option Value
 |.add,.int .i64 a,.int .i64 b=>some (.int .i64 (IntKind.i64.wrap (a+b)))
 |.sub,.int .i64 a,.int .i64 b=>some (.int .i64 (IntKind.i64.wrap (a-b)))
 |.mul,.int .i64 a,.int .i64 b=>some (.int .i64 (IntKind.i64.wrap (a*b)))
 |.lss,.int .i64 a,.int .i64 b=>some (.bool (decide (a<b)))
 |.leq,.int .i64 a,.int .i64 b=>some (.bool (decide (a<=b)))
 |.gtr,.int .i64 a,.int .i64 b=>some (.bool (decide (b<a)))
 |.geq,.int .i64 a,.int .i64 b=>some (.bool (decide (b<=a)))
 |.eql,.int .i64 a,.int .i64 b=>some (.bool (decide (a=b)))
 |.neq,.int .i64 a,.int .i64 b=>some (.bool (!decide (a=b)))
 |.lss,.int .u8 a,.int .u8 b=>some (.bool (decide (a<b)))
 |.leq,.int .u8 a,.int .u8 b=>some (.bool (decide (a<=b)))
 |.gtr,.int .u8 a,.int .u8 b=>some (.bool (decide (b<a)))
 |.geq,.int .u8 a,.int .u8 b=>some (.bool (decide (b<=a)))
 |.eql,.int .u8 a,.int .u8 b=>some (.bool (decide (a=b)))
 |.neq,.int .u8 a,.int .u8 b=>some (.bool (!decide (a=b)))
 |.and,.int .i64 a,.int .i64 b=>some (.int .i64 (bits .and .i64 a b))
 |.or,.int .i64 a,.int .i64 b=>some (.int .i64 (bits .or .i64 a b))
 |.xor,.int .i64 a,.int .i64 b=>some (.int .i64 (bits .xor .i64 a b))
 |.andNot,.int .i64 a,.int .i64 b=>some (.int .i64 (bits .andNot .i64 a b))
 |.shl,.int .i64 a,.int _ b=>if 0<=b then some (.int .i64 (IntKind.i64.wrap (a*2 ^ (min b.toNat 64))))else none
 |.shr,.int .i64 a,.int _ b=>if 0<=b then some (.int .i64 (a.fdiv (2 ^ (min b.toNat 64))))else none
 |.shr,.int .u64 a,.int _ b=>if 0<=b then some (.int .u64 (a.fdiv (2 ^ (min b.toNat 64))))else none
 |.mul,.int .u64 a,.int .u64 b=>some (.int .u64 (IntKind.u64.wrap (a*b)))
 |.and,.int .u64 a,.int .u64 b=>some (.int .u64 (bits .and .u64 a b))
 |.eql,.int .u64 a,.int .u64 b=>some (.bool (decide (a=b)))
 |.lss,.int .u64 a,.int .u64 b=>some (.bool (decide (a<b)))
 |.quo,.int .i64 a,.int .i64 b=>if b=0 then none else some (.int .i64 (IntKind.i64.wrap (a.tdiv b)))
 |.rem,.int .i64 a,.int .i64 b=>if b=0 then none else some (.int .i64 (a.tmod b))
 |.add,.string a,.string b=>if a.size+b.size<=9223372036854775807 then some (.string (a++b))else none
 |.eql,.string a,.string b=>some (.bool (a.toList==b.toList))
 |.neq,.string a,.string b=>some (.bool (!(a.toList==b.toList)))
 |.lss,.string a,.string b=>some (.bool (Go.Op.bytesLess a.toList b.toList))
 |_,_,_=>none
def FB(t:Option TypeDesc)(v:Bool):Option Value :=
 match t with
 |some .bool=>some (.bool v)
 |_=>none
def dB(P:Program)(op:BinOp)(t:TypeId)(a b:Value):Option Value :=
 match op,a,b with
 |.eql,.bool a,.bool b=>FB (P.underlying t) (a==b)
 |.neq,.bool a,.bool b=>FB (P.underlying t) (!(a==b))
 |op,a,b=>C9 op a b
def B8:UnOp->Value->Option Value
 |.not,.bool b=>some (.bool (!b))
 |.neg,.int .i64 a=>some (.int .i64 (IntKind.i64.wrap (0-a)))
 |.neg,.int .u64 a=>some (.int .u64 (IntKind.u64.wrap (0-a)))
 |_,_=>none
def wM(sz:Nat):Nat->d3->Option (sh)
 |_,[]=>some []
 | i,(j,x)::r=>if i=j then match pG x with
   |some cs=>if cs.length=sz then(wM sz (i+1) r).map (cs::·)else none
   |none=>none
  else none
def sw(P:Program)(t:TypeId):we->d3->Option (we)
 |cs,[]=>some cs
 |cs,(f,x)::r=>match jQ P t f,pG x with
  |some (off,ft),some us=>if sR P ft=some us.length/\off+us.length<=cs.length then sw P t (cs.take off++us++cs.drop (off+us.length)) r else none
  |_,_=>none
def ju:A->Option Int
 |.d (.I (.A (.int .i64 j)))=>some j
 |_=>none
def sa:Option A->Option Int
 |none=>some 0
 |some x=>ju x
def rQ(n:Nat):Option A->Option Int
 |none=>some n
 |some x=>ju x
def C0(rows:sh)(lo hi:Option Int)(mx:Option (Option Int)):Option D :=
 match lo,hi,mx with
 |some l,some h,none=>if 0<=l/\l<=h/\h<=rows.length then some (.I (.sl ((rows.take h.toNat).drop l.toNat)))else none
 |some l,some h,some (some m)=>if 0<=l/\l<=h/\h<=rows.length/\m=h then some (.Ζ ((rows.take h.toNat).drop l.toNat))else none
 |_,_,_=>none
def Bj:A->Option (sh)
 |.d (.I (.sl rows))=>some rows
 |.d (.Ζ rows)=>some rows
 |_=>none
def Zn9:Option TypeDesc->Bool
 |some .string=>true
 |_=>false
def AQ:A->Option ByteArray
 |.d (.I (.A (.string s)))=>some s
 |_=>none
def Zmc(s:ByteArray)(lo hi:Option Int):Option D :=
 match lo,hi with
 |some l,some h=>if 0<=l/\l<=h/\h<=s.size then some (.I (.A (.string (s.extract l.toNat h.toNat))))else none
 |_,_=>none
def t8:A->Option (FuncId×we)
 |.d (.I (.fn f caps))=>some (f,caps)
 |_=>none
def zm(t:Option TypeDesc):Option IntKind :=
 match t with
 |some (.int k)=>some k
 |_=>none
def FN(P:Program)(src dst:TypeId):A->Option A
 |.d (.I (.A (.int _ n)))=>match P.underlying src,zm (P.underlying dst)with
  |some _,some k=>some (GY (.A (.int k (k.wrap n))))
  |_,_=>none
 |_=>none
def vv:List A->Option A
 |[.d (.I (.A (.int .i64 x))),.d (.I (.A (.int .i64 y)))]=>some (GU (if y>x then y else x))
 |_=>none
def vw:List A->Option A
 |[.d (.I (.A (.int .i64 x))),.d (.I (.A (.int .i64 y)))]=>some (GU (if y<x then y else x))
 |_=>none
def bX(k:Nat):d3->d3
 |[]=>[]
 |(t,.ref k' off)::r=>(t,if k'=k then .undef else .ref k' off)::bX k r
 |(t,.Υ k')::r=>(t,if k'=k then .undef else .Υ k')::bX k r
 |(t,.row k' j sz off)::r=>(t,if k'=k then .undef else .row k' j sz off)::bX k r
 |(t,a)::r=>(t,a)::bX k r
def aD(s:d3):GM->A->d3
 |some d,a=>(d,a)::s
 |none,_=>s
def im(k:Nat)(bk:Bk):A->A
 | .ref k' off=>if k'=k then match bk with
   |.var _ cs=>GY (.ptr (cs.drop off))
   |_=>.undef
  else .ref k' off
 | .Υ k'=>if k'=k then match bk with
   |.Υ _ _ _ rows=>GY (.sl rows)
   |_=>.undef
  else .Υ k'
 |.row k' j sz off=>if k'=k then .undef else .row k' j sz off
 |a=>a
def io(k:Nat)(bk:Bk):d3->d3
 |[]=>[]
 |(t,a)::r=>(t,im k bk a)::io k bk r
def xf(k:Nat)(σ:St):Option Bk->St
 |some bk=>⟨io k bk σ.s,aA k σ.m⟩
 |none=>σ
def frz(k:Nat)(σ:St):St:=xf k σ (gm σ.m k)
def frzs:GN->St->St
 |[],σ=>σ
 |k::ks,σ=>frzs ks (frz k σ)
def n6:A->GN
 |.ref k _=>[k]
 |.Υ k=>[k]
 |_=>[]
def s9:List A->GN
 |[]=>[]
 |a::r=>n6 a++s9 r
def Zr0(a b:A):A->Option A
 |.d (.I (.A (.bool t)))=>some (if t then a else b)
 |_=>none
def vV(k:Option TK)(p:Option (we)):Option A :=
 match k,p with
 |some k,some cs=>jA k cs
 |_,_=>none
def vN(x:A):Option (Nat×TypeId)->Option A
 |some (n,_)=>match x with
  |.d (.I (.ptr cs))=>some (GY (.ptr (cs.drop n)))
  |.ref k off=>some (.ref k (off+n))
  |.row k j sz off=>some (.row k j sz (off+n))
  |.d (.I (.A (.pointer (some ⟨b,off,none⟩))))=>some (GY (.A (.pointer (some ⟨b,off+n,none⟩))))
  |_=>none
 |none=>none
def FF(P:Program)(x:A):Option (Nat×TypeId)->Option A
 |some (n,ft)=>match x with
  |.d (.agg cs)=>vV (rm P ft) (some (cs.drop n))
  |_=>none
 |none=>none
def ZaD(n:Nat)(rows:sh):Bool:=rows.all (λr=>r.length==n&&r.all bQ)
def uT:Option (we)->Option A
 |some r=>some (GY (.ptr r))
 |none=>none
def Zoa(k n:Nat)(j:Int):Option Bk->Option A
 |some (.Υ _ _ sz rows)=>if sz=n then if 0<=j then if j.toNat<rows.length then some (.row k j.toNat sz 0)else none else none else none
 |_=>none
def yw(m:it)(n:GM)(x i:A):Option A :=
 match n,x,i with
 |some n,.Υ k,.d (.I (.A (.int _ j)))=>Zoa k n j (gm m k)
 |some n,.d (.I (.sl rows)),.d (.I (.A (.int _ j)))=>if 0<=j then if ZaD n rows=true then uT rows[j.toNat]? else none else none
 |some n,.d (.Ζ rows),.d (.I (.A (.int _ j)))=>if 0<=j then if ZaD n rows=true then uT rows[j.toNat]? else none else none
 |_,_,_=>none
def Zr1:Option UInt8->Option A
 |some b=>some (GY (.A (.int .u8 b.toNat)))
 |none=>none
def FG(t:Option TypeDesc)(x i:A):Option A :=
 match t,x,i with
 |some .string,.d (.I (.A (.string s))),.d (.I (.A (.int _ j)))=>if 0<=j then Zr1 s[j.toNat]? else none
 |_,_,_=>none
def vk:Option Value->Option A
 |some v=>some (GY (.A v))
 |none=>none
def uP(P:Program)(t:TypeId)(op:BinOp)(x y:A):Option A :=
 match x,y with
 |.d (.I (.A a)),.d (.I (.A b))=>vk (dB P op t a b)
 |_,_=>none
def GJ(op:UnOp)(x:A):Option A :=
 match x with
 |.d (.I (.A a))=>vk (B8 op a)
 |_=>none
def dA:Option D->Option A
 |some x=>some (.d x)
 |none=>none
def Fp(i:Nat):A->Option A
 |.tup xs=>dA xs[i]?
 |_=>none
def mZ:A->Option A
 |.d (.I (.ptr cs))=>some (GY (.ptr cs))
 |.d (.I (.fn f cs))=>some (GY (.fn f cs))
 |.ref k off=>some (.ref k off)
 |.d (.I (.A (.pointer (some p))))=>some (GY (.A (.pointer (some p))))
 |_=>none
def vj:Option (sh)->Option A
 |some rows=>some (GU rows.length)
 |none=>none
def kp(m:it)(t:Option Bool)(xs:List A):Option A :=
 match t,xs with
 |some true,[.d (.I (.A (.slice _ n _)))]=>some (GU n)
 |some true,[x]=>vj (oI m x)
 |some false,[.d (.I (.A (.string s)))]=>some (GU s.size)
 |_,_=>none
def Zr2:Option (sh)->Option A
 |some rows=>some (.d (.Ζ rows))
 |none=>none
def Fj(sz:Option (TypeId×Nat×Nat))(n:Nat)(parts:d3):Option A :=
 match sz with
 |some (_,s,_)=>if parts.length=n/\n*s<=16777216 then Zr2 (wM s 0 parts)else none
 |none=>none
def wY:Option (we)->Option A
 |some cs=>some (.d (.agg cs))
 |none=>none
def wG(P:Program)(t:TypeId):Bool :=
 match P.underlying t with
 |some (.struct fs)=>fs.toList.all λf=>(P.info? f.type).isSome
 |_=>false
def FC(P:Program)(t:TypeId)(parts:d3):Option A :=
 match wG P t,jU P t with
 |true,some cs=>if cs.all bQ=true then wY (sw P t cs parts)else none
 |_,_=>none
def Cz(P:Program)(t:TypeId)(x:A)(lo hi mx:Option A):Option A :=
 match kK P t with
 |some n=>match Bj x with
  |some rows=>if ZaD n rows=true/\(mx.isNone||hi.isSome)=true then dA (C0 rows (sa lo) (rQ rows.length hi) (mx.map ju))else none
  |none=>none
 | none=>if Zn9 (P.underlying t)/\mx=none then match AQ x with
   |some s=>dA (Zmc s (sa lo) (rQ s.size hi))
   |none=>none
  else none
def FX(f:FuncId):Option (we)->Option A
 |some cs=>some (GY (.fn f cs))
 |none=>none
def mi(b:Nat):it->GM
 |[]=>none
 |(k,.var (some b') _)::r=>if b=b' then some k else mi b r
 |_::r=>mi b r
def j8(a:BY)(n cap:Nat):it->GM
 |[]=>none
 |(k,.Υ (some (a',bF)) _ _ rows)::r=>if a=a'/\n=rows.length/\cap=bF then some k else j8 a n cap r
 |_::r=>j8 a n cap r
def AN(b off:Nat)(k:Nat):Option Bk->A
 |some (.var (some b') _)=>if b=b' then .ref k off else GY (.A (.pointer (some ⟨b,off,none⟩)))
 |_=>GY (.A (.pointer (some ⟨b,off,none⟩)))
def FS(m:it)(b off:Nat):GM->A
 |some k=>AN b off k (gm m k)
 |none=>GY (.A (.pointer (some ⟨b,off,none⟩)))
def vx(a:BY)(n cap k:Nat):Option Bk->A
 |some (.Υ (some (a',bF)) _ _ rows)=>if a=a'/\n=rows.length/\cap=bF then .Υ k else GY (.A (.slice a n cap))
 |_=>GY (.A (.slice a n cap))
def C7(m:it)(a:BY)(n cap:Nat):GM->A
 |some k=>vx a n cap k (gm m k)
 |none=>GY (.A (.slice a n cap))
def fz(m:it):A->A
 |.d (.I (.A (.pointer (some ⟨b,off,none⟩))))=>FS m b off (mi b m)
 |.d (.I (.A (.slice a n cap)))=>C7 m a n cap (j8 a n cap m)
 |x=>x
def zK(P:Program)(m:it)(ρ:Operand->A):Op->Option A
 |.move x=>some (ρ x)
 |.pick c a b=>Zr0 (ρ a) (ρ b) (ρ c)
 |.load t x=>vV (rm P t) (jz m (fz m (ρ x)))
 |.fieldAddr t x f=>vN (ρ x) (jQ P t f)
 |.field t x f=>FF P (ρ x) (jQ P t f)
 |.indexAddr t x i=>yw m (kK P t) (fz m (ρ x)) (ρ i)
 |.index t x i=>FG (P.underlying t) (ρ x) (ρ i)
 |.binOp op t x y _=>uP P t op (ρ x) (ρ y)
 |.unOp op _ x=>GJ op (ρ x)
 |.extract x i=>Fp i (ρ x)
 |.nilCheck x=>mZ (ρ x)
 |.convert s d x=>FN P s d (ρ x)
 |.slice t x lo hi mx=>Cz P t (ρ x) (lo.map ρ) (hi.map ρ) (mx.map ρ)
 |.build t parts=>FC P t (parts.toList.map λp=>(p.1,ρ p.2))
 |.buildSlice t n parts=>Fj (jT P t) n (parts.toList.map λp=>(p.1,ρ p.2))
 |.makeFunc (.func f) ⟨[]⟩ caps=>FX f (qt (caps.toList.map ρ))
 |.call ⟨.builtin .len,args,ts⟩=>kp m (n7 P ts) (args.toList.map λx=>fz m (ρ x))
 |.call ⟨.builtin .max,args,_⟩=>vv (args.toList.map ρ)
 |.call ⟨.builtin .min,args,_⟩=>vw (args.toList.map ρ)
 |_=>none
def oe(σ:St)(d:GM)(cs:Option (we)):Option St :=
 match d,cs with
 |some d,some cs=>some ⟨(d,.ref d 0)::bX d σ.s,(d,.var none cs)::aA d σ.m⟩
 |_,_=>none
def storeVar(σ:St)(k off n:Nat)(us:we):Option Bk->Option St
 |some (.var o cs)=>if us.length=n/\off+n<=cs.length then some ⟨σ.s,(k,.var o (cs.take off++us++cs.drop (off+n)))::aA k σ.m⟩else none
 |_=>none
def storeRow(σ:St)(k j sz off n:Nat)(us:we):Option Bk->Option St
 | some (.Υ o e lq rows)=>if lq=sz then match rows[j]? with
   |some r=>if us.length=n/\off+n<=r.length then some ⟨σ.s,(k,.Υ o e sz (rows.set j (r.take off++us++r.drop (off+n))))::aA k σ.m⟩else none
   |none=>none
  else none
 |_=>none
def FD(σ:St)(d:GM)(x:A)(us:Option (we))(n:GM):Option St :=
 match d,x,us,n with
 |none,.ref k off,some us,some n=>storeVar σ k off n us (gm σ.m k)
 |none,.row k j sz off,some us,some n=>storeRow σ k j sz off n us (gm σ.m k)
 |_,_,_,_=>none
def sc(σ:St)(d:GM):Option A->Option St
 |some α=>some ⟨aD σ.s d α,σ.m⟩
 |none=>none
def ownE(σ:St)(k d:Nat)(bk:Bk):St:=⟨(d,.Υ d)::bX d (bX k σ.s),(d,bk)::aA d (aA k σ.m)⟩
def Zmf(σ:St)(k d:Nat):Option Bk->Option St
 |some (.Υ o e sz rows)=>if k=d then some ⟨(d,.Υ d)::σ.s,σ.m⟩else some (ownE σ k d (.Υ o e sz rows))
 |_=>none
def xU(σ:St)(d:Nat):Option (TypeId×Nat×Nat)->Option St
 |some (e,sz,_)=>some ⟨(d,.Υ d)::bX d σ.s,(d,.Υ none e sz [])::aA d σ.m⟩
 |none=>some ⟨(d,.d (.Ζ []))::σ.s,σ.m⟩
def wP(P:Program)(σ:St)(d:GM)(ty:TypeId)(x:A):Option St :=
 match d,x with
 |some d,.Υ k=>Zmf σ k d (gm σ.m k)
 |some d,.d (.Ζ [])=>xU σ d (jT P ty)
 |d,x=>some ⟨aD σ.s d x,σ.m⟩
def Zoc(k:Nat):A->Bool
 |.Υ k'=>k'==k
 |_=>false
def al:Nat:=1073741824
def Zju(σ:St)(d k:Nat)(ety sz:Nat)(ys:sh):Option Bk->Option St
 |some (.Υ _ e lq rows)=>if e=ety/\lq=sz/\rows.length+ys.length<=al then some (ownE σ k d (.Υ none e sz (rows++ys)))else none
 |_=>none
def Fr (P:Program) (σ:St) (d:GM) (ts:Array TypeId) (args:List A):Option St :=
 match d,args,ts[0]? with
 | some d,[x,y],some t=>if ts[1]?=some t then match jT P t,oI σ.m y with
   | some (e,sz,_),some ys=>if ZaD sz ys=true then match x with
     |.Υ k=>if Zoc k y then none else Zju σ d k e sz ys (gm σ.m k)
     |.d (.Ζ rows)=>if ZaD sz rows=true/\rows.length+ys.length<=al/\(rows.isEmpty || !ys.isEmpty)=true then some ⟨(d,.Υ d)::bX d σ.s,(d,.Υ none e sz (rows++ys))::aA d σ.m⟩else none
     |_=>none
    else none
   |_,_=>none
  else none
 |_,_,_=>none
def CY(P:Program)(σ:St)(d:GM)(t:TypeId)(l c:A):Option St :=
 match d,ju l,ju c,jT P t with
 |some d,some n,some n',some (e,sz,_)=>match jU P e with
  |some z=>if n=n'/\0<=n/\n<=al/\z.all bQ=true then some ⟨(d,.Υ d)::bX d σ.s,(d,.Υ none e sz (List.replicate n.toNat z))::aA d σ.m⟩else none
  |none=>none
 |_,_,_,_=>none
def eJ(q:Bool)(ks:GN)(σ:St):Option St :=
 match ks with
 |[]=>some σ
 |_::_=>if q then none else some (frzs ks σ)
def Bs(P:Program)(d:GM)(op:Op):Option St->Option St
 |some σ=>sc σ d (zK P σ.m (aL σ.s) op)
 |none=>none
def Zmg(d:GM)(x:Operand):Option St->Option St
 |some σ=>oe σ d (pG (aL σ.s x))
 |none=>none
def ZiJ(P:Program)(d:GM)(t:TypeId)(x y:Operand):Option St->Option St
 |some σ=>FD σ d (fz σ.m (aL σ.s x)) (pG (aL σ.s y)) (sR P t)
 |none=>none
def yH(P:Program)(q:Bool)(σ:St)(d:GM)(ty:TypeId):Op->Option St
 |.alloc t=>if q then none else oe σ d (jU P t)
 |.box _ x=>if q then none else Zmg d x (eJ q (n6 (aL σ.s x)) σ)
 |.store t x y=>if q then none else ZiJ P d t x y (eJ q (n6 (aL σ.s y)) σ)
 |.assign x=>if q then none else wP P σ d ty (aL σ.s x)
 |.makeSlice t l c=>if q then none else CY P σ d t (aL σ.s l) (aL σ.s c)
 |.call ⟨.builtin .append,args,ts⟩=>if q then none else Fr P σ d ts (args.toList.map λx=>fz σ.m (aL σ.s x))
 |.build t parts=>Bs P d (.build t parts) (eJ q (s9 (parts.toList.map λp=>aL σ.s p.2)) σ)
 |.buildSlice t n parts=>Bs P d (.buildSlice t n parts) (eJ q (s9 (parts.toList.map λp=>aL σ.s p.2)) σ)
 |.makeFunc f fs caps=>Bs P d (.makeFunc f fs caps) (eJ q (s9 (caps.toList.map (aL σ.s))) σ)
 |op=>sc σ d (zK P σ.m (aL σ.s) op)
def sA(ay:Nat):d3->d3
 |[]=>[]
 |(k,a)::r=>if ay.testBit k then(k,a)::sA ay r else sA ay r
def pH(s:d3):d3->Prop
 |[]=>True
 |(k,a)::r=>gs s k=a/\pH s r
def pI(m:it):it->Prop
 |[]=>True
 |(k,a)::r=>gm m k=some a/\pI m r
inductive PX where
 |normal
 |exit (id:Nat)
 |ret
def nj (ops:Array Oper) (n:Nat):Bool :=
 (List.range n).all λi=>match ops[i]? with
  |none=>false
  | some o=>o.dst.isSome&&o.after.all (λe=>!Region.binds .any e||decide (e.on<i)) &&
   (match o.guard with
    |none=>true
    |some (j,_)=>decide (j<n)&&Region.waitsFor .any ops i j) &&
   (List.range n).all λj=>match ops[j]? with
    |none=>false
    |some p=>(j==i||p.dst != o.dst)&&(!(rx o).any (λt=>p.dst==some t)||Region.waitsFor .any ops i j)
def eZ(ops:Array Oper)(n:Nat):Bool :=
 nj ops n&&decide (n<=ops.size)&&(decide (n=ops.size)||(Region.sinkB .any ops n&&Region.chainB .any ops n))&&Region.seqB .any ops (ops.size-n) n (ni ops.size n)
def jO:Oper->Bool
 |⟨some _,.alloc _,_,_,_,none⟩=>true
 |_=>false
def CA(ops:Array Oper)(n:Nat):Bool :=
 match ops[n]? with
 |some o=>jO o
 |none=>false
def xY(ops:Array Oper)(n:Nat):Bool:=eZ ops n
def Wk(σ G7:St):Prop:=(∀t,gs G7.s t=gs σ.s t\/gs G7.s t=.undef)/\∀t x,gm G7.m t=some x->gm σ.m t=some x
section
variable{w w':World}{S S':GO}
def a8.keep2(hz:w.heap.size<=w'.heap.size)(hk:∀b o,S b->w'.cell? ⟨b,o,none⟩=w.cell? ⟨b,o,none⟩)(hS:∀b,S b->S' b)(b:Nat)(hb:∀o,w'.cell? ⟨b,o,none⟩=w.cell? ⟨b,o,none⟩) :
  ∀(off:Nat)(cs:we),a8 w S b off cs->a8 w' S' b off cs
 |_,[],_=>by simp[a8]
 |off,c::cs,h=>by
  simp only[a8]at h⊢;obtain⟨⟨u,hu,hr⟩,h2⟩:=h;exact⟨⟨u,by rw[hb off];exact hu,aR.Ε hz hk hS c u hr⟩,a8.keep2 hz hk hS b hb _ cs h2⟩
def aC.keep2(hz:w.heap.size<=w'.heap.size)(hk:∀b o,S b->w'.cell? ⟨b,o,none⟩=w.cell? ⟨b,o,none⟩)(hS:∀b,S b->S' b) :
  ∀{cs:we}{us:GK},aC w S cs us->aC w' S' cs us
 |[],[],_=>by simp[aC]
 |c::cs,u::us,h=>by
  simp only[aC]at h⊢;exact⟨aR.Ε hz hk hS c u h.1,aC.keep2 hz hk hS h.2⟩
 |[],_::_,h=>by simp[aC]at h
 |_::_,[],h=>by simp[aC]at h
def a8.keepAt(hz:w.heap.size<=w'.heap.size)(hk:∀b o,S b->w'.cell? ⟨b,o,none⟩=w.cell? ⟨b,o,none⟩)(hS:∀b,S b->S' b)(b:Nat) :
  ∀(off:Nat)(cs:we),(∀j,j<cs.length->w'.cell? ⟨b,off+j,none⟩=w.cell? ⟨b,off+j,none⟩)->a8 w S b off cs->a8 w' S' b off cs
 |_,[],_,_=>by simp[a8]
 | off,c::cs,hb,h=>by
  simp only[a8]at h⊢;obtain⟨⟨u,hu,hr⟩,h2⟩:=h
  exact⟨⟨u,by have:=hb 0 (by simp);rw[Nat.add_zero]at this;rw[this];exact hu,aR.Ε hz hk hS c u hr⟩,
   a8.keepAt hz hk hS b _ cs (λj hj=>by have:=hb (j+1) (by simp;omega);rw[show off+1+j=off+(j+1) by omega];exact this) h2⟩
def a8.of_vals{b:Nat}:∀(cs:we)(vs:GK)(off:Nat),aC w S cs vs->(∀j u,vs[j]?=some u->w.cell? ⟨b,off+j,none⟩=some u)->a8 w S b off cs
 |[],_,_,_,_=>by simp[a8]
 |c::cs,[],_,h,_=>by simp[aC]at h
 |c::cs,v::vs,off,h1,h2=>by
  simp only[aC,a8]at h1⊢;exact⟨⟨v,by simpa using h2 0 v (by simp),h1.1⟩,a8.of_vals cs vs (off+1) h1.2 (λj u hj=>by have:=h2 (j+1) u (by simpa using hj);rw[show off+1+j=off+(j+1) by omega];exact this)⟩
def a8.append{b:Nat}:∀(xs ys:we)(off:Nat),a8 w S b off xs->a8 w S b (off+xs.length) ys->a8 w S b off (xs++ys)
 |[],ys,off,_,h2=>by simpa using h2
 |x::xs,ys,off,h1,h2=>by
  simp only[a8,Taf]at h1⊢;refine⟨h1.1,a8.append xs ys (off+1) h1.2 ?_⟩;rw[show off+1+xs.length=off+(x::xs).length by simp;omega];exact h2
def aX.Ε(hz:w.heap.size<=w'.heap.size)(hk:∀b o,S b->w'.cell? ⟨b,o,none⟩=w.cell? ⟨b,o,none⟩)(hS:∀b,S b->S' b){x:D}{v:Value}(h:aX w S x v):aX w' S' x v:=by
 cases x with
 |I c=>exact aR.Ε hz hk hS c v h
 |agg cs=>obtain⟨vs,hv,hr⟩:=h;exact⟨vs,hv,aC.keep2 hz hk hS hr⟩
 |Ζ rows=>exact⟨aR.Ε hz hk hS _ v h.1,h.2⟩
def dt.Ε(hz:w.heap.size<=w'.heap.size)(hk:∀b o,S b->w'.cell? ⟨b,o,none⟩=w.cell? ⟨b,o,none⟩)(hS:∀b,S b->S' b):∀{xs:AS}{vs:GK},dt w S xs vs->dt w' S' xs vs
 |[],[],_=>by simp[dt]
 |x::xs,v::vs,h=>by
  simp only[dt]at h⊢;exact⟨aX.Ε hz hk hS h.1,dt.Ε hz hk hS h.2⟩
 |[],_::_,h=>by simp[dt]at h
 |_::_,[],h=>by simp[dt]at h
def aw.Ε{L:Lay}(hz:w.heap.size<=w'.heap.size)(hk:∀b o,S b->w'.cell? ⟨b,o,none⟩=w.cell? ⟨b,o,none⟩)(hS:∀b,S b->S' b){x:A}{v:Value}(h:aw w S L x v):aw w' S' L x v:=by
 cases x with
 |undef=>trivial
 |no=>exact h
 |d x=>exact aX.Ε hz hk hS h
 |tup xs=>obtain⟨vs,hv,hr⟩:=h;exact⟨vs,hv,dt.Ε hz hk hS hr⟩
 |ref m off=>exact h
 |Υ k=>exact h
 |row k j sz off=>exact h
def dt.append:∀{xs ys:AS}{vs us:GK},dt w S xs vs->dt w S ys us->dt w S (xs++ys) (vs++us)
 |[],ys,[],us,_,h2=>by simpa using h2
 |x::xs,ys,v::vs,us,h1,h2=>by
  simp only[dt,Taf]at h1⊢;exact⟨h1.1,dt.append h1.2 h2⟩
 |[],_,_::_,_,h,_=>by simp[dt]at h
 |_::_,_,[],_,h,_=>by simp[dt]at h
def dt.caps:∀{cs:we}{us:GK},aC w S cs us->dt w S (cs.map .I) us
 |[],[],_=>by simp[dt]
 |c::cs,u::us,h=>by
  simp only[aC,Tbv,dt]at h⊢;exact⟨h.1,dt.caps h.2⟩
 |[],_::_,h=>by simp[aC]at h
 |_::_,[],h=>by simp[aC]at h
def dt.len:∀{xs:AS}{vs:GK},dt w S xs vs->vs.length=xs.length
 |[],[],_=>rfl
 |x::xs,v::vs,h=>by simp only[dt]at h;simp[dt.len h.2]
 |[],_::_,h=>by simp[dt]at h
 |_::_,[],h=>by simp[dt]at h
def dt.get:∀{xs:AS}{vs:GK}{i:Nat}{x:D},dt w S xs vs->xs[i]?=some x->∃v,vs[i]?=some v/\aX w S x v
 |[],_,_,_,_,hi=>by simp at hi
 |x::xs,v::vs,0,y,h,hi=>by simp only[dt]at h;simp at hi;subst hi;exact⟨v,by simp,h.1⟩
 |x::xs,v::vs,i+1,y,h,hi=>by simp only[dt]at h;have:=dt.get h.2 (by simpa using hi);simpa using this
 |_::_,[],_,_,h,_=>by simp[dt]at h
end
section
variable{w w':World}{S S':GO}
def a8.drop{w:World}{S:GO}{b:Nat}:∀{cs:we}{off:Nat}(n:Nat),a8 w S b off cs->a8 w S b (off+n) (cs.drop n)
 |cs,off,0,h=>by simpa using h
 |[],off,n+1,h=>by simp[a8]
 |c::cs,off,n+1,h=>by
  simp only[a8]at h;have:=a8.drop (cs:=cs) (off:=off+1) n h.2;rw[show off+(n+1)=off+1+n by omega];simpa using this
def a8.vals{w:World}{S:GO}{b:Nat}:∀{cs:we}{off:Nat},a8 w S b off cs->∃vs:GK,aC w S cs vs/\∀j u,vs[j]?=some u->w.cell? ⟨b,off+j,none⟩=some u
 |[],off,_=>⟨[],by simp[aC],by simp⟩
 |c::cs,off,h=>by
  simp only[a8]at h;obtain⟨⟨u,hu,hr⟩,h2⟩:=h;obtain⟨vs,h3,h4⟩:=a8.vals h2;refine⟨u::vs,by simp only[aC];exact⟨hr,h3⟩,λj v hj=>?_⟩
  cases j with
  |zero=>simp at hj;subst hj;simpa using hu
  |succ j=>have:=h4 j v (by simpa using hj);rw[show off+(j+1)=off+1+j by omega];exact this
def a8.take{w:World}{S:GO}{b:Nat}:∀{cs:we}{off:Nat}(n:Nat),a8 w S b off cs->a8 w S b off (cs.take n)
 |cs,off,0,h=>by simp[a8]
 |[],off,n+1,h=>by simp[a8]
 |c::cs,off,n+1,h=>by
  simp only[a8,Tbc]at h⊢;exact⟨h.1,a8.take n h.2⟩
def aC.drop{w:World}{S:GO}:∀{cs:we}{vs:GK}(n:Nat),aC w S cs vs->aC w S (cs.drop n) (vs.drop n)
 |cs,vs,0,h=>by simpa using h
 |[],[],n+1,h=>by simp[aC]
 |c::cs,v::vs,n+1,h=>by
  simp only[aC]at h;simpa using aC.drop n h.2
 |[],_::_,_+1,h=>by simp[aC]at h
 |_::_,[],_+1,h=>by simp[aC]at h
def aC.take{w:World}{S:GO}:∀{cs:we}{vs:GK}(n:Nat),aC w S cs vs->aC w S (cs.take n) (vs.take n)
 |cs,vs,0,h=>by simp[aC]
 |[],[],n+1,h=>by simp[aC]
 |c::cs,v::vs,n+1,h=>by
  simp only[aC,Tbc]at h⊢;exact⟨h.1,aC.take n h.2⟩
 |[],_::_,_+1,h=>by simp[aC]at h
 |_::_,[],_+1,h=>by simp[aC]at h
def Addr.add_at(b off n:Nat):(⟨b,off,none⟩:Addr).add n=⟨b,off+n,none⟩:=by unfold Addr.add;split<;>simp_all
def rq{w w':World}{b:Nat}(h:w'.heap[b]?=w.heap[b]?)(o:Nat):w'.cell? ⟨b,o,none⟩=w.cell? ⟨b,o,none⟩:=World.cell?_of_block h
def aC.app:∀{cs ds:we}{us vs:GK},aC w S cs us->aC w S ds vs->aC w S (cs++ds) (us++vs)
 |[],_,[],_,_,h2=>by simpa using h2
 |c::cs,ds,u::us,vs,h1,h2=>by
  simp only[aC,Taf]at h1⊢;exact⟨h1.1,aC.app h1.2 h2⟩
 |[],_,_::_,_,h,_=>by simp[aC]at h
 |_::_,_,[],_,h,_=>by simp[aC]at h
def Zhs{c:C}{v:Value}(h:bQ c)(hr:aR w S c v):v.oneCell':=by
 cases c with
 |A x=>simp only[aR]at hr;subst hr;exact h
 |sl rows=>simp only[aR]at hr;obtain⟨A,n,cap,rfl,_⟩:=hr;rfl
 |ptr cs=>simp only[aR]at hr;obtain⟨b,off,rfl,_⟩:=hr;rfl
 |fn f caps=>simp only[aR]at hr;obtain⟨us,rfl,_⟩:=hr;rfl
def Ff:∀{cs:we}{vs:GK},cs.all bQ->aC w S cs vs->∀v∈vs,v.oneCell'=true
 |[],[],_,_=>by simp
 |c::cs,v::vs,h,hr=>by
  simp only[List.all_cons,Tar,aC]at h hr;intro u hu;rcases Tbh.1 hu with rfl|hu
  ·exact Zhs h.1 hr.1
  ·exact Ff h.2 hr.2 u hu
 |[],_::_,_,h=>by simp[aC]at h
 |_::_,[],_,h=>by simp[aC]at h
def ct.flat{b:Nat}:∀{rows:sh}{off:Nat},ct w S b off rows->a8 w S b off rows.flatten
 |[],_,_=>by simp[a8]
 |r::rs,off,h=>by
  simp only[ct,List.flatten_cons]at h⊢;exact a8.append _ _ _ h.1 (ct.flat h.2)
def a8.left{b:Nat}:∀{xs ys:we}{off:Nat},a8 w S b off (xs++ys)->a8 w S b off xs/\a8 w S b (off+xs.length) ys
 |[],ys,off,h=>by simpa[a8]using h
 |x::xs,ys,off,h=>by
  simp only[a8,Taf]at h⊢;have:=a8.left h.2;rw[show off+(x::xs).length=off+1+xs.length by simp;omega];exact⟨⟨h.1,this.1⟩,this.2⟩
def ct.of_flat{b:Nat}:∀{rows:sh}{off:Nat},a8 w S b off rows.flatten->ct w S b off rows
 |[],_,_=>by simp[ct]
 |r::rs,off,h=>by
  simp only[ct,List.flatten_cons]at h⊢;have:=a8.left h;exact⟨this.1,ct.of_flat this.2⟩
def qL{n:Nat}:∀{rows:sh},rowsLen n rows->rows.flatten.length=rows.length*n
 |[],_=>by simp
 |r::rs,h=>by
  have h2:=qL (n:=n) (rows:=rs) (λx hx=>h x (by simp[hx]));simp only[List.flatten_cons,Tae,Tag,((h r (by simp)).1),h2,Nat.add_mul];omega
def Zmh{n:Nat}:∀{rows:sh},rowsLen n rows->rows.flatten.all bQ=true
 |[],_=>by simp
 |r::rs,h=>by
  have h2:=Zmh (n:=n) (rows:=rs) (λx hx=>h x (by simp[hx]));simp only[List.flatten_cons,List.all_append,((h r (by simp)).2),h2,Bool.and_self]
def rowsLen.append{n:Nat}{xs ys:sh}(h1:rowsLen n xs)(h2:rowsLen n ys):rowsLen n (xs++ys):=λr hr=>by
 rcases Tbi.1 hr with h|h
 ·exact h1 r h
 ·exact h2 r h
def rowsLen.nil{n:Nat}:rowsLen n []:=λr hr=>by simp at hr
def ov{n:Nat}{rows:sh}:ZaD n rows=true↔rowsLen n rows:=by
 unfold ZaD rowsLen;rw[List.all_eq_true];simp only[Tar,beq_iff_eq]
end
def dh(L:Lay)(k:Nat):Bk->Nat->Prop
 |.var _ _,g=>L.b k=g
 |.Υ _ _ _ _,g=>aO (L.v k)=some g
 |.set E _,g=>E g
def b6(w:World)(S:GO)(L:Lay)(k:Nat):Bk->Prop
 |.var o cs=>(∀b,o=some b->L.b k=b)/\L.b k<w.heap.size/\¬S (L.b k)/\(∃oX ty,w.heap[L.b k]?=some (.cells oX ty (0,0))/\oX.size=cs.length)/\a8 w S (L.b k) 0 cs
 |.Υ o e sz rows=>(∀a,o=some a->L.v k=.slice a.1 rows.length a.2)/\eO w S e sz rows (L.v k)
 |.set E G=>(∀b,E b->b<w.heap.size/\¬S b)/\G w/\vO E G
def eO.Ε{w:World}{S:GO}{e:Nat}{rows:sh}{v:Value}(h:eO w S e sz rows v)(hz:w.heap.size<=w'.heap.size)(hk:∀b o,S b->w'.cell? ⟨b,o,none⟩=w.cell? ⟨b,o,none⟩)(hS:∀b,S b->S' b)
  (hb:∀g,aO v=some g->w'.heap[g]?=w.heap[g]?/\¬S' g):eO w' S' e sz rows v:=by
 obtain⟨h1,h2,h3⟩:=h;refine⟨h1,h2,?_⟩;rcases h3 with h3|⟨g,cap,bf,hv,hc,hg,hs,hh,hl,hm,gc,hr⟩
 ·exact .inl h3
 ·have gW:aO v=some g:=by rw[hv];simp[aO];omega
  obtain⟨k1,k2⟩:=hb g gW;refine .inr ⟨g,cap,bf,hv,hc,om,k2,by rw[k1];exact hh,hl,hm,gc,?_⟩;exact ct.of_flat (a8.keep2 hz hk hS g (λo=>rq k1 o) 0 _ hr.flat)
def b6.Ε{w:World}{S:GO}{L:Lay}{bk:Bk}(h:b6 w S L k bk)(hz:w.heap.size<=w'.heap.size)(hk:∀b o,S b->w'.cell? ⟨b,o,none⟩=w.cell? ⟨b,o,none⟩)(hS:∀b,S b->S' b)
  (hb:∀g,dh L k bk g->w'.heap[g]?=w.heap[g]?/\¬S' g):b6 w' S' L k bk:=by
 cases bk with
 |var o cs =>
  obtain⟨h0,h1,h2,⟨oX,ty,h3,h4⟩,h5⟩:=h;obtain⟨k1,k2⟩:=hb (L.b k) rfl;exact⟨h0,om,k2,⟨oX,ty,by rw[k1];exact h3,h4⟩,a8.keep2 hz hk hS _ (λo=>rq k1 o) 0 cs h5⟩
 |Υ o e sz rows=>exact⟨h.1,eO.Ε h.2 hz hk hS hb⟩
 |set E G =>
  obtain⟨h1,h2,h3⟩:=h;exact⟨λb hE=>⟨by have:=(h1 b hE).1;omega,(hb b hE).2⟩,h3 w w' hz (λb hE=>(hb b hE).1) h2,h3⟩
def b6.lt{w:World}{S:GO}{L:Lay}{bk:Bk}(h:b6 w S L k bk){g:Nat}(hg:dh L k bk g):g<w.heap.size/\¬S g:=by
 cases bk with
 |var o cs=>simp only[dh]at hg;subst hg;exact⟨h.2.1,h.2.2.1⟩
 |set E G=>exact h.1 g hg
 | Υ o e sz rows =>
  obtain⟨_,_,_,h3⟩:=h;simp only[dh]at hg;rcases h3 with⟨_,a,hv⟩|⟨g',cap,bf,hv,hc,gh,hs,_⟩
  ·rw[hv]at hg;cases a<;>simp[aO]at hg
  ·rw[hv]at hg;simp only[aO]at hg;rw[if_neg om]at hg;injection hg with hg
   subst hg;exact⟨gh,hs⟩
def b6.lay{w:World}{S:GO}{L L':Lay}{bk:Bk}(h:b6 w S L k bk)(h1:L'.b k=L.b k)(h2:L'.v k=L.v k):b6 w S L' k bk:=by
 cases bk with
 |var o cs=>simpa[b6,h1]using h
 |Υ o e sz rows=>simpa[b6,h2]using h
 |set E G=>exact h
def Zqp{L L':Lay}{bk:Bk}(h1:L'.b k=L.b k)(h2:L'.v k=L.v k):dh L' k bk=dh L k bk:=by
 funext g
 cases bk<;>simp[dh,h1,h2]
structure Cls(e:Env)(U:GO)(base:Nat)(S0:GO)(m:it)(w:World)(S:GO)(L:Lay):Prop where
 sin:∀b,S b->b<w.heap.size/\¬e.E b
 sfr:∀b,S b->S0 b\/base<=b\/U b
 ein:∀b,e.E b->b<base
 uin:∀b,U b->¬e.E b
 bsz:base<=w.heap.size
 mine:∀k bk g,gm m k=some bk->dh L k bk g->base<=g\/U g
 own:∀k bk,gm m k=some bk->b6 w S L k bk
 inj:∀k k' x x' g,gm m k=some x->gm m k'=some x'->dh L k x g->dh L k' x' g->k=k'
 g:e.G w
section
variable{e:Env}{U:GO}{base:Nat}{S0:GO}{m:it}{w w':World}{S S':GO}{L:Lay}
def Cls.notE(h:Cls e U base S0 m w S L){g:Nat}{bk:Bk}(hk:gm m k=some bk)(hg:dh L k bk g):¬e.E g:=λhE=>by
 rcases h.mine k bk g hk hg with h1|h1
 ·have:=h.ein g hE;omega
 ·exact h.uin g h1 hE
def Cls.later(h:Cls e U base S0 m w S L)(hk:Kept e.D e.E w.heap.size w w')(hg:e.G w')
  (hS:∀b,S b->S' b) (ky:∀b,S' b->S b\/(w.heap.size<=b/\b<w'.heap.size)):Cls e U base S0 m w' S' L:=by
 have hz:=hk.size;have lM:∀b o,S b->w'.cell? ⟨b,o,none⟩=w.cell? ⟨b,o,none⟩:=λb o hs=>rq (hk.block b (h.sin b hs).1 (h.sin b hs).2) o;refine⟨λb hb=>?_,λb hb=>?_,h.ein,h.uin,Tbe h.bsz hz,h.mine,λk bk hm=>?_,h.inj,hg⟩
 ·rcases ky b hb with h1|⟨h1,h2⟩
  ·exact⟨Tbd (h.sin b h1).1 hz,(h.sin b h1).2⟩
  ·exact⟨h2,λhE=>by have:=h.ein b hE;have:=h.bsz;omega⟩
 ·rcases ky b hb with h1|⟨h1,h2⟩
  ·exact h.sfr b h1
  ·exact .inr (.inl (Tbe h.bsz h1))
 ·have ho:=h.own k bk hm;refine ho.Ε hz lM hS λg DG=>?_;obtain⟨l1,l2⟩:=ho.lt DG;refine⟨hk.block g l1 (h.notE hm DG),λhs=>?_⟩;rcases ky g hs with h7|⟨h7,_⟩
  ·exact l2 h7
  ·omega
def Cls.cell(h:Cls e U base S0 m w S L)(hk:Kept e.D e.E w.heap.size w w'):∀b o,S b->w'.cell? ⟨b,o,none⟩=w.cell? ⟨b,o,none⟩ :=
 λb o hs=>rq (hk.block b (h.sin b hs).1 (h.sin b hs).2) o
def iC(e:Env)(U:GO)(base:Nat)(S0:GO)(m:it)(o:Oper)(ρ:Operand->A)(α:A):Prop :=
 ∀(w:World)(S:GO)(L:Lay)(C':Operand->Value),Cls e U base S0 m w S L->(∀x,x∈o.op.operands->aw w S L (ρ x) (C' x)) ->
  gives e.P o C' w λv w'=>∃S':GO,((∀b,S b->S' b)/\∀b,S' b->S b\/w.heap.size<=b)/\Cls e U base S0 m w' S' L/\Kept e.D e.E w.heap.size w w'/\aw w' S' L α v
def oN{o:Oper}{ρ:Operand->A}{α:A}(h:∀(w:World)(S:GO)(L:Lay)(C':Operand->Value),Cls e U base S0 m w S L->(∀x,x∈o.op.operands->aw w S L (ρ x) (C' x))->∃v,(execOp C' o).run e.P w=.ok (.value v) w/\aw w S L α v) :
  iC e U base S0 m o ρ α:=by
 intro w S L C' hC hr;obtain⟨v,hv,ha⟩:=h w S L C' hC hr;unfold gives;rw[hv];exact⟨S,⟨λ_ h=>h,λ_ h=>.inl h⟩,hC,Kept.refl _ _ _ _,ha⟩
end
def ZpH {P:Program} {w:World} {S:GO} {Bm:Lay} {k:TK} {b:Nat} {cs:we} {α:A} (hk:rm P t=some k) (hr:a8 w S b off cs) (hv:jA k cs=some α) :
  ∃v,(Instr.loadAt t (.pointer (some ⟨b,off,none⟩))).run P w=.ok v w/\aw w S Bm α v:=by
 unfold rm at hk
 cases hu:P.underlying t with
 |none=>rw[hu]at hk;simp at hk
 | some d =>
  cases hi:P.info? t with
  |none=>rw[hu,hi]at hk;simp at hk
  | some i =>
   rw[hu,hi]at hk;simp only at hk
   cases hd:CQ d with
   | true =>
    rw[hd]at hk;simp only[if_true,Taq]at hk;subst hk;simp only[jA]at hv;split at hv
    ·rename_i cw;injection hv with hv
     subst hv;obtain⟨vs,h1,h2⟩:=(hr.take i.size).vals;have hl:vs.length=i.size:=by rw[h1.len,Taw];omega
     have u6:=run_loadCells_list (P:=P) w ⟨b,off,none⟩ vs (λj u hj=>by rw[Addr.add_at];exact h2 j u hj);rw[hl]at u6;refine⟨.agg vs.toArray,?_,vs,rfl,h1⟩
     cases d<;>simp[CQ]at hd<;>simp[Instr.loadAt,Instr.sureAddr,loadVar,isAgg,underlying,hu,sizeOf,typeInfo,hi,u6,Result.andThen]
    ·cases hv
   | false =>
    rw[hd]at hk;simp only[Tam,if_false]at hk;split at hk
    ·injection hk with hk
     subst hk
     cases cs with
     |nil=>simp[jA]at hv
     |cons c cs =>
      simp only[jA,Taq]at hv;subst hv;simp only[a8]at hr;obtain⟨⟨u,pY,rT⟩,_⟩:=hr;refine⟨u,?_,rT⟩
      cases d<;>simp[CQ]at hd<;>simp[Instr.loadAt,Instr.sureAddr,loadVar,isAgg,underlying,hu,pY,Result.andThen]
    ·cases hk
def m43(h:G3:=by
 simp only[Tba,Tav]at h1 h2;obtain⟨p,hp,rfl⟩:=h1;obtain⟨q,hq,rfl⟩:=h2;rw[hp]at hq;injection hq with hq;subst hq;exact hr p (Tac hp)):G3:=h
def ZD6{P:Program}{op:BinOp}{a b v:Value}(h:C9 op a b=some v)(w:World) :
  ((do eqGuard op t x y a b;binOp op t a b:Sem Value)).run P w=.ok v w:=by
 unfold C9 at h
 split at h<;>first
  |(cases h;done)
  |(injection h with h;subst h;simp[eqGuard,binOp,Go.Op.intArith,Go.Op.intCmp,Go.Op.stringOp,intBits_and,intBits_or,intBits_xor,Result.andThen,bne];done)
  |(injection h with h;subst h;simp[eqGuard,binOp,Go.Op.intArith,Go.Op.intCmp,Go.Op.stringOp,Result.andThen,bne];rfl)
  |(injection h with h;subst h;simp[eqGuard,binOp,Result.andThen,bne];rfl)
  | (split at h
     ·rename_i hb;injection h with h;subst h
      have cu:¬(_<(0:Int)):=Int.not_lt.2 hb;simp[eqGuard,binOp,Go.Op.shift,cu,Result.andThen,IntKind.bits]
     ·cases h)
  | (split at h
     ·cases h
     ·rename_i hb;injection h with h;subst h
      simp[eqGuard,binOp,Go.Op.intDiv,hb,Result.andThen])
  | (rename_i a b
     split at h
     ·rename_i hb;injection h with h;subst h
      have cu:¬(((a.size+b.size:Nat):Int)>IntKind.i64.max):=by simp[IntKind.max,IntKind.signed,IntKind.bits];omega
      simp only[eqGuard,binOp,Go.Op.stringOp,Sem.run_bind,Sem.run_pure,Result.andThen_ok,cu,if_false];simp[Result.andThen]
     ·cases h)
def Zsw{P:Program}{op:BinOp}{a b v:Value}(h:dB P op t a b=some v)(w:World) :
  ((do eqGuard op t x y a b;binOp op t a b:Sem Value)).run P w=.ok v w:=by
 unfold dB at h;split at h
 ·unfold FB at h;split at h
  ·rename_i hu;injection h with h;subst h
   simp[eqGuard,binOp,run_equal_bool _ _ _ _ hu,Result.andThen]
  ·cases h
 ·unfold FB at h;split at h
  ·rename_i hu;injection h with h;subst h
   simp[eqGuard,binOp,run_equal_bool _ _ _ _ hu,Result.andThen]
  ·cases h
 ·exact ZD6 h w
def ZHi{P:Program}{op:UnOp}{a v:Value}(h:B8 op a=some v)(w:World):(Go.Op.unary op a).run P w=.ok v w:=by
 unfold B8 at h
 split at h<;>first
  |(cases h;done)
  |(injection h with h;subst h;simp[Go.Op.unary,Go.Op.intArith])
def ZgN {P:Program} {f n:Nat} {ft:TypeId} (h:jQ P t f=some (n,ft)) (b off:Nat) (w:World):(Instr.fieldAt t (.pointer (some ⟨b,off,none⟩)) f).run P w=.ok (.pointer (some ⟨b,off+n,none⟩)) w:=by
 unfold jQ at h;split at h
 ·rename_i fs hu;split at h
  ·rename_i g hg;split at h
   ·rename_i i hi;split at h
    ·cases h
    ·rename_i hz;injection h with h
     injection h with h1 h2
     subst h1 h2;simp[Instr.fieldAt,underlying,hu,hg,Instr.sureAddr,fieldPlace,sizeOf,typeInfo,hi,hz,Addr.add_at,Result.andThen]
   ·cases h
  ·cases h
 ·cases h
def ZD7 {P:Program} {w:World} {S:GO} {Bm:Lay} {k:TK} {n:Nat} {cs:we} {vs:GK} {α:A} (hk:rm P t=some k) (hr:aC w S cs vs) (hv:jA k (cs.drop n)=some α) :
  ∃v,(part t vs.toArray n).run P w=.ok v w/\aw w S Bm α v:=by
 unfold rm at hk
 cases hu:P.underlying t with
 |none=>rw[hu]at hk;simp at hk
 | some d =>
  cases hi:P.info? t with
  |none=>rw[hu,hi]at hk;simp at hk
  | some i =>
   rw[hu,hi]at hk;simp only at hk;have As:=hr.drop n
   cases hd:CQ d with
   | true =>
    rw[hd]at hk;simp only[if_true,Taq]at hk;subst hk;simp only[jA]at hv;split at hv
    ·injection hv with hv
     subst hv;refine⟨.agg ((vs.drop n).take i.size).toArray,?_,_,rfl,As.take i.size⟩;have e1:vs.toArray.extract n (n+i.size)=((vs.drop n).take i.size).toArray:=by
      simp[List.extract_toArray,List.extract_eq_take_drop]
     cases d<;>simp[CQ]at hd<;>simp[part,isAgg,underlying,hu,sizeOf,typeInfo,hi,e1,Result.andThen]
    ·cases hv
   | false =>
    rw[hd]at hk;simp only[Tam,if_false]at hk;split at hk
    ·injection hk with hk
     subst hk
     cases gc:cs.drop n with
     |nil=>rw[gc]at hv;simp[jA]at hv
     | cons c iE =>
      rw[gc]at hv As;simp only[jA,Taq]at hv;subst hv
      cases d8:vs.drop n with
      |nil=>rw[d8]at As;simp[aC]at As
      | cons u us =>
       rw[d8]at As;simp only[aC]at As;have pY:vs[n]?=some u:=by
        have:(vs.drop n)[0]?=some u:=by rw[d8];rfl
        simpa using this
       refine⟨u,?_,As.1⟩
       cases d<;>simp[CQ]at hd<;>simp[part,isAgg,underlying,hu,pY,Result.andThen]
    ·cases hk
def ZuO{P:Program}{w:World}{S:GO}{Bm:Lay}{n:Nat}{rows:sh}{k:IntKind}{j:Int}{r:we}(h:kK P t=some n)(hj:0<=j)(hl:rowsLen n rows)(hr:rows[j.toNat]?=some r)(hv:aR w S (.sl rows) u) :
  ∃v,(Instr.indexAt t u (.int k j)).run P w=.ok v w/\aw w S Bm (GY (.ptr r)) v:=by
 unfold kK at h;split at h
 ·rename_i el hu;simp only[Tav]at h;obtain⟨i,hi,hn⟩:=h;simp only[aR]at hv;obtain⟨A,len,cap,rfl,bh,_,_,h4⟩:=hv;have lJ:j.toNat<rows.length:=(Tad.1 hr).1;obtain⟨b,off,rfl,hs,hb,cn⟩:=h4 om;have fw:=ct.get rows off j.toNat r (λx hx=>(hl x hx).1) cn hr;refine⟨.pointer (some ⟨b,off+j.toNat*n,none⟩),?_,?_⟩
  ·have am:j<(len:Int):=om;simp[Instr.indexAt,asIntOf,underlying,hu,sizeOf,typeInfo,hi,hn,Addr.add_at,hj,am,Result.andThen]
  ·simp only[aw,aX,aR];exact⟨b,_,rfl,hs,hb,fw⟩
 ·cases h
def Zk4{P:Program}{w:World}{n g len:Nat}{k:IntKind}{j:Int}(h:kK P t=some n)(hj:0<=j)(hl:j.toNat<len) :
  (Instr.indexAt t (.slice (some ⟨g,0,none⟩) len cap) (.int k j)).run P w=.ok (.pointer (some ⟨g,j.toNat*n,none⟩)) w:=by
 unfold kK at h;split at h
 ·rename_i el hu;simp only[Tav]at h;obtain⟨i,hi,hn⟩:=h;have am:j<(len:Int):=om;simp[Instr.indexAt,asIntOf,underlying,hu,sizeOf,typeInfo,hi,hn,Addr.add_at,hj,am,Result.andThen]
 ·cases h
section
variable{e:Env}{U:GO}{base:Nat}{S0:GO}{m:it}{w:World}{S:GO}{L:Lay}
def lf{x:Value}{v:Value}(h:aw w S L (GY (.A x)) v):v=x:=by simpa[aw,aX,aR]using h
def CB:∀{xs:List A}{vs:GK}{ds:AS},mK xs=some ds->vs.length=xs.length->(∀(i:Nat)(x:A)(v:Value),xs[i]?=some x->vs[i]?=some v->aw w S L x v)->dt w S ds vs
 |[],[],ds,h,_,_=>by simp[mK]at h;subst h;simp[dt]
 |[],_::_,_,_,hl,_=>by simp at hl
 |_::_,[],_,_,hl,_=>by simp at hl
 | x::xs,v::vs,ds,h,hl,hr=>by
  have h0:=hr 0 x v (by simp) (by simp)
  cases x with
  |d y =>
   simp only[mK,Tav]at h;obtain⟨ys,h1,h2⟩:=h;subst h2;simp only[dt];exact⟨h0,CB h1 (by simpa using hl) (λi y v hy hv=>hr (i+1) y v (by simpa using hy) (by simpa using hv))⟩
  |undef=>simp[mK]at h
  |no=>simp[mK]at h
  |tup ys=>simp[mK]at h
  |ref k off=>simp[mK]at h
  |Υ k=>simp[mK]at h
  |row k j sz off=>simp[mK]at h
def Zod:∀{xs:List A}{vs:GK}{cs:we},qt xs=some cs->vs.length=xs.length->(∀(i:Nat)(x:A)(v:Value),xs[i]?=some x->vs[i]?=some v->aw w S L x v)->aC w S cs vs
 |[],[],ds,h,_,_=>by simp[qt]at h;subst h;simp[aC]
 |[],_::_,_,_,hl,_=>by simp at hl
 |_::_,[],_,_,hl,_=>by simp at hl
 | x::xs,v::vs,ds,h,hl,hr=>by
  have h0:=hr 0 x v (by simp) (by simp)
  cases x with
  | d y =>
   cases y with
   |I c =>
    simp only[qt,Tav]at h;obtain⟨ys,h1,h2⟩:=h;subst h2;simp only[aC];exact⟨h0,Zod h1 (by simpa using hl) (λi y v hy hv=>hr (i+1) y v (by simpa using hy) (by simpa using hv))⟩
   |agg cs=>simp[qt]at h
   |Ζ rows=>simp[qt]at h
  |undef=>simp[qt]at h
  |no=>simp[qt]at h
  |tup ys=>simp[qt]at h
  |ref k off=>simp[qt]at h
  |Υ k=>simp[qt]at h
  |row k j sz off=>simp[qt]at h
def ZrA{v:Value}(h:v.oneCell'):v.cells=#[v]:=by
 cases v<;>simp[Value.oneCell',Value.cells]at h⊢
def Zfz{x:A}{v:Value}{cs:we}(h:pG x=some cs)(hr:aw w S L x v):aC w S cs v.cells.toList/\cs.all bQ:=by
 unfold pG at h;split at h
 ·rename_i c;split at h
  ·rename_i aq;injection h with h
   subst h;rw[ZrA (Zhs aq hr)];exact⟨by simp only[aC];exact⟨hr,trivial⟩,by simpa using aq⟩
  ·cases h
 ·rename_i iE;split at h
  ·rename_i aq;injection h with h
   subst h;obtain⟨vs,rfl,hv⟩:=hr;exact⟨by simpa[Value.cells]using hv,aq⟩
  ·cases h
 ·rename_i rows;injection h with h
  subst h;obtain⟨h1,a,n,rfl⟩:=hr;exact⟨by simp only[Value.cells,aC];exact⟨h1,trivial⟩,rfl⟩
 ·cases h
def sv (hC:Cls e U base S0 m w S L) {x:A} {v:Value} (hr:aw w S L x v):aw w S L (fz m x) v:=by
 unfold fz;split
 ·rename_i b off;have hv:v=.pointer (some ⟨b,off,none⟩):=by simpa[aw,aX,aR]using hr
  unfold FS;split
  ·rename_i k hk;unfold AN;split
   ·rename_i b' cs hm;split
    ·rename_i hb;have:=(hC.own k _ hm).1 b' rfl;show v=_;rw[hv,this,hb]
    ·exact hr
   ·exact hr
  ·exact hr
 ·rename_i a n cap;have hv:v=.slice a n cap:=by simpa[aw,aX,aR]using hr
  unfold C7;split
  ·rename_i k hk;unfold vx;split
   ·rename_i a' bF e' lq rows hm;split
    ·rename_i hb;obtain⟨rfl,rfl,rfl⟩:=hb;have:=(hC.own k _ hm).1 (a,cap) rfl;show v=_;rw[hv,this]
    ·exact hr
   ·exact hr
  ·exact hr
 ·exact hr
def ZD8(hC:Cls e U base S0 m w S L){x:A}{v:Value}{rows:sh}(h:oI m x=some rows)(hr:aw w S L x v):∃a cap,v=.slice a rows.length cap/\rows.length<=cap/\cap<=maxLen:=by
 unfold oI at h;split at h
 ·injection h with h;subst h
  obtain⟨A,n,cap,hv,hn,hc,hm⟩:=aR.Η hr;exact⟨A,cap,by rw[hv,hn],om,om⟩
 ·injection h with h;subst h
  obtain⟨A,n,cap,hv,hn,hc,hm⟩:=aR.Η hr.1;exact⟨A,cap,by rw[hv,hn],om,om⟩
 ·rename_i k;unfold rC at h;split at h
  ·rename_i o' e' sz rows' hm;injection h with h;subst h
   have hr:v=L.v k:=hr;obtain⟨_,_,_,h3⟩:=hC.own k _ hm;rcases h3 with⟨h4,a,hv⟩|⟨g,cap,bf,hv,_,_,_,_,hl,hc,_⟩
   ·exact⟨a,0,by rw[hr,hv,h4];rfl,by simp[h4],by simp[maxLen]⟩
   ·exact⟨_,cap,by rw[hr,hv],hl,hc⟩
  ·cases h
 ·cases h
def Zqq (hC:Cls e U base S0 m w S L) {x:A} {v:Value} {cs:we} {k:TK} {α:A} (hp:jz m x=some cs) (hr:aw w S L x v) (hk:rm e.P t=some k) (hv:jA k cs=some α) :
  ∃u,(Instr.loadAt t v).run e.P w=.ok u w/\aw w S L α u:=by
 unfold jz at hp;split at hp
 ·injection hp with hp;subst hp
  simp only[aw,aX,aR]at hr;obtain⟨b,off,rfl,hs,hb,fw⟩:=hr;exact ZpH hk fw hv
 ·rename_i k' off;simp only[Tav]at hp;obtain⟨iE,h2,h3⟩:=hp;unfold vC at h2;split at h2
  ·rename_i o2 cs2 hm;injection h2 with h2;subst h2
   obtain⟨_,_,_,_,h7⟩:=hC.own k' _ hm;have h8:=h7.drop off;rw[h3,Nat.zero_add]at h8;have hr:v=.pointer (some ⟨L.b k',off,none⟩):=hr;rw[hr];exact ZpH hk h8 hv
  ·cases h2
 ·rename_i k' j sz off;simp only[Tav]at hp;obtain⟨iE,h2,h3⟩:=hp;unfold AP at h2;split at h2
  ·rename_i o' e' lq rows hm;split at h2
   ·rename_i bP;subst bP;obtain⟨g,hg,rfl⟩:=hr;obtain⟨_,_,hl,h4⟩:=hC.own k' _ hm;rcases h4 with⟨h4,_⟩|⟨g',cap,bf,Aw,Gi,_,_,_,_,_,_,cn⟩
    ·rw[h4]at h2;simp at h2
    ·have hgg:g'=g:=by rw[Aw]at hg;simp only[aO]at hg;rw[if_neg om]at hg;injection hg
     subst hgg;have h8:=(ct.get rows 0 j iE (λx hx=>(hl x hx).1) cn h2).drop off;rw[h3,Nat.zero_add]at h8;exact ZpH hk h8 hv
   ·cases h2
  ·cases h2
 ·cases hp
def Zi9:∀{sz i:Nat}{ps:d3}{rows:sh}{vs:GK},wM sz i ps=some rows->vs.length=ps.length->(∀(i:Nat)(x:Nat×A)(v:Value),ps[i]?=some x->vs[i]?=some v->aw w S L x.2 v) ->
  rows.length=ps.length/\rowsLen sz rows/\(ps.map (·.1))=(List.range' i ps.length)/\(∀v∈vs,v.cells.size=sz)/\aC w S rows.flatten (vs.flatMap λv=>v.cells.toList)
 |sz,i,[],rows,vs,h,hl,_=>by
  simp[wM]at h;subst h;have:vs=[]:=Tao (by simpa using hl);subst this;exact⟨rfl,rowsLen.nil,rfl,by simp,by simp[aC]⟩
 |sz,i,(j,x)::ps,rows,[],h,hl,_=>by simp at hl
 | sz,i,(j,x)::ps,rows,v::vs,h,hl,hr=>by
  simp only[wM]at h;split at h
  ·rename_i qW;split at h
   ·rename_i cs gc;split at h
    ·rename_i bh;simp only[Tav]at h;obtain⟨rs,h1,h2⟩:=h;subst h2;obtain⟨q1,q2,q3,q4,q5⟩:=Zi9 (sz:=sz) (i:=i+1) (ps:=ps) (rows:=rs) (vs:=vs) h1 (by simpa using hl) (λk y u hy hu=>hr (k+1) y u (by simpa using hy) (by simpa using hu));obtain⟨c1,c2⟩:=Zfz gc (hr 0 (j,x) v (by simp) (by simp));have d8:v.cells.size=sz:=by rw[<- bh,<- c1.len,Array.length_toList]
     refine⟨by simp[q1],λr rT=>?_,by simp[q3,List.range'_succ,qW],λu hu=>?_,?_⟩
     ·rcases Tbh.1 rT with rfl|h5
      ·exact⟨bh,c2⟩
      ·exact q2 r h5
     ·rcases Tbh.1 hu with rfl|h5
      ·exact d8
      ·exact q4 u h5
     ·simp only[List.flatten_cons,List.flatMap_cons];exact aC.app c1 q5
    ·cases h
   ·cases h
  ·cases h
def Zzz{place:Nat->Option (Nat×Nat)}{cells:Array Value}{i:Nat}{v:Value}{rest:List (Nat×Value)}(hp:place i=some (off,v.cells.size))(hl:off+v.cells.size<=cells.size) :
  Instr.fill place cells ((i,v)::rest)=Instr.fill place (cells.toList.take off++v.cells.toList++cells.toList.drop (off+v.cells.size)).toArray rest:=by
 obtain⟨g1,g2⟩:=Go.Great.foldl_set off v.cells.toList 0 cells;have e:(v.cells.toList.zipIdx 0).foldl (λcs(x:Value×Nat)=>cs.setIfInBounds (off+x.2) x.1) cells=(cells.toList.take off++v.cells.toList++cells.toList.drop (off+v.cells.size)).toArray:=by
  apply Array.ext_getElem?;intro k;rw[g2 k];simp only[Nat.add_zero,Array.length_toList,List.getElem?_toArray];by_cases h1:k<off
  ·rw[if_neg om,Tbg,Tbq (by simp;omega),List.getElem?_take,if_pos h1];simp
  ·by_cases h2:k<off+v.cells.size
   ·rw[if_pos om,Tbg,Tbr (by simp;omega),Tbq (by simp;omega)];simp only[Taw,Array.length_toList];congr 1;omega
   ·rw[if_neg om,Tbr (by simp;omega),Tbb];simp only[Tae,Taw,Array.length_toList,Array.getElem?_toList];congr 1;omega
 rw[<- e]
 conv=>lhs;unfold Instr.fill
 simp only[hp];rw[if_neg (by simp;omega)];congr 1;rw[<- Array.foldl_toList];congr 1;simp
def Zoe {P:Program} {t:TypeId} {place:Nat->Option (Nat×Nat)} (kA:∀f off ft n,jQ P t f=some (off,ft)->sR P ft=some n->place f=some (off,n)):∀{ps:d3}{cs iE:we}{vs:List (Nat×Value)}{cells:Array Value},sw P t cs ps=some iE ->
  aC w S cs cells.toList->cs.all bQ->vs.map (·.1)=ps.map (·.1)->(∀(i:Nat)(x:Nat×A)(v:Nat×Value),ps[i]?=some x->vs[i]?=some v->aw w S L x.2 v.2) ->
  ∃j9:Array Value,Instr.fill place cells vs=some j9/\aC w S iE j9.toList/\iE.all bQ=true
 |[],cs,iE,vs,cells,h,hr,aq,hv,_=>by
  simp[sw]at h;subst h;have:vs=[]:=by simpa using hv
  subst this;exact⟨cells,rfl,hr,aq⟩
 |(f,x)::ps,cs,iE,[],cells,h,hr,aq,hv,_=>by simp at hv
 | (f,x)::ps,cs,iE,(f',v)::vs,cells,h,hr,aq,hv,ha=>by
  simp only[Tbv,List.cons.injEq]at hv;obtain⟨rfl,hv⟩:=hv;simp only[sw]at h;split at h
  ·rename_i off ft us ho gc;split at h
   ·rename_i bP;obtain⟨c1,c2⟩:=Zfz gc (ha 0 (f',x) (f',v) (by simp) (by simp));have jN:v.cells.size=us.length:=by rw[<- c1.len,Array.length_toList]
    have iH:=hr.len;simp only[Array.length_toList]at iH;have hp:=kA f' off ft us.length ho bP.1;rw[<- jN]at hp;rw[Zzz hp om];refine Zoe kA h ?_ ?_ hv (λi y u hy hu=>ha (i+1) y u (by simpa using hy) (by simpa using hu))
    ·simp only;rw[jN];exact aC.app (aC.app (hr.take off) c1) (hr.drop (off+us.length))
    ·simp only[List.all_append,c2,Tar,and_true];exact⟨List.all_eq_true.2 λy hy=>List.all_eq_true.1 aq y (List.mem_of_mem_take hy),List.all_eq_true.2 λy hy=>List.all_eq_true.1 aq y (List.mem_of_mem_drop hy)⟩
   ·cases h
  ·cases h
def AY:∀(l:GK),aC w S (l.map ux) l
 |[]=>by simp[aC]
 |v::l=>by
  simp only[Tbv,aC];refine⟨?_,AY l⟩;unfold ux;split
  ·simp only[aR];exact⟨none,0,0,rfl,rfl,Tai _,by decide,λh=>absurd h (by decide)⟩
  ·simp[aR]
def A3 {P:Program} {il:Nat} (h:jT P t=some (ety,sz,il)):∃i z,P.underlying t=some (.slice ety)/\P.info? ety=some i/\i.zero=some z/\i.size=sz/\i.bytes=il/\z.cells.size=sz/\0<sz/\il<=4096:=by
 unfold jT at h;split at h
 ·rename_i e' hu;split at h
  ·rename_i i hi;split at h
   ·rename_i z hz;split at h
    ·rename_i hc;simp only[Taq,Prod.mk.injEq]at h;obtain⟨rfl,rfl,rfl⟩:=h;exact⟨i,z,hu,hi,hz,rfl,rfl,hc.1,hc.2.1,hc.2.2⟩
    ·cases h
   ·cases h
  ·cases h
 ·cases h
def mapv{ps:List (Nat×Operand)}{ρ:Operand->A}{C':Operand->Value}(hr:∀p∈ps,aw w S L (ρ p.2) (C' p.2))(i:Nat)(x:Nat×A)(v:Value)(h1:(ps.map λp=>(p.1,ρ p.2))[i]?=some x)(h2:(ps.map λp=>C' p.2)[i]?=some v):aw w S L x.2 v:=by
 exact m43
def ZI1{ps:List (Nat×Operand)}{ρ:Operand->A}{C':Operand->Value}(hr:∀p∈ps,aw w S L (ρ p.2) (C' p.2))(i:Nat)(x:Nat×A)(v:Nat×Value)(h1:(ps.map λp=>(p.1,ρ p.2))[i]?=some x)(h2:(ps.map λp=>(p.1,C' p.2))[i]?=some v):aw w S L x.2 v.2:=by
 exact m43
def tR{ps:List Operand}{ρ:Operand->A}{C':Operand->Value}(hr:∀p∈ps,aw w S L (ρ p) (C' p))(i:Nat)(x:A)(v:Value)(h1:(ps.map ρ)[i]?=some x)(h2:(ps.map C')[i]?=some v):aw w S L x v:=by
 exact m43
end
def m184(h:G3:=by
 simp[execOp,ho,resolve,invoke,builtin,Builtin.len_,ha,ht,underlying,hu,hv,goInt,Result.andThen]):G3:=h
def Ek(h:G3:=by
 simp[Instr.sliceBounds,e2,Result.andThen,run_sliceBound,b1,b2]):G3:=h
def Ee(h:G3:=by
 simp[Instr.sliceBounds,e1,e2,Result.andThen,run_sliceBound,b1,b2,b3,b4,eh]):G3:=h
def m121(h:G3:=by
 unfold ju at h;split at h
 ·rename_i j hj;injection h with h;subst h
  have:=hr y rfl;rw[hj]at this;exact .inr (by simp[lf this])
 ·cases h):G3:=h
def m85(b:G5)(h:Bx G5->G4:=by
 intro B0
 have hp:=hr p (by simp[ho,Op.operands,Call.operands];rw[<- Array.mem_toList_iff,ha];simp);have hq:=hr q (by simp[ho,Op.operands,Call.operands];rw[<- Array.mem_toList_iff,ha];simp);rw[mB.1]at hp;rw[mB.2]at hq;have eU:args.map C'=#[C' p,C' q]:=by
  apply Array.toList_inj.1;simp[ha]
 exact B0.o hp hq eU):G4:=h ⟨b⟩
def m76(h:G3:=by
 have hfill:=Go.Great.fill_whole gv vs ((Array.range (n*i.size)).map (z.cells[· % z.cells.size]!)) q4 (by simp[jN,bP]);refine run_buildSlice w t ety n _ _ i z hu hi hz (by rw[bP];omega) h0 ?_;rw[tJ,bP]at *;exact hfill):G3:=h
def m74(b:G5)(h:Bx G5->G4:=by
 intro B0
 refine oN λw S L C' hC hr=>?_;obtain⟨x,oG,tN⟩:=List.map_eq_singleton_iff.1 mB;have aW:=sv hC (hr x (by simp[ho,Op.operands,Call.operands];rw[<- Array.mem_toList_iff,oG];simp));rw[tN]at aW;exact B0.o w S L C' hC hr x oG tN aW):G4:=h ⟨b⟩
def AJ(b:G5)(h:Bx G5->G4:=by
 intro B0
 refine oN λw S L C' hC hr=>?_;have aW:=hr x (by simp[ho,Op.operands]);exact B0.o w S L C' hC hr aW):G4:=h ⟨b⟩
section
variable{e:Env}{U:GO}{base:Nat}{S0:GO}{m:it}{o:Oper}{ρ:Operand->A}{α:A}
def Zx4(ho:o.op=.load t x)(h:vV (rm e.P t) (jz m (fz m (ρ x)))=some α):iC e U base S0 m o ρ α:=by
 unfold vV at h;split at h
 ·rename_i k cs hk hp;refine oN λw S L C' hC hr=>?_;obtain⟨v,h1,h2⟩:=Zqq hC hp (sv hC (hr x (by simp[ho,Op.operands]))) hk h;exact⟨v,by simp[execOp,ho,h1],h2⟩
 ·cases h
def Zof{f:Nat}(ho:o.op=.fieldAddr t x f)(h:vN (ρ x) (jQ e.P t f)=some α):iC e U base S0 m o ρ α:=by
 unfold vN at h;split at h
 ·rename_i n ft hk;refine oN λw S L C' hC hr=>?_;have h1:=hr x (by simp[ho,Op.operands]);split at h
  ·rename_i cs hx;injection h with h;subst h
   rw[hx]at h1;simp only[aw,aX,aR]at h1;obtain⟨b,off,Aw,hs,hb,fw⟩:=h1;refine⟨.pointer (some ⟨b,off+n,none⟩),by simp[execOp,ho,Aw,ZgN hk],?_⟩;simp only[aw,aX,aR];exact⟨b,off+n,rfl,hs,hb,fw.drop n⟩
  ·rename_i k off hx;injection h with h;subst h
   rw[hx]at h1;have h1:C' x=.pointer (some ⟨L.b k,off,none⟩):=h1;exact⟨_,by simp[execOp,ho,h1,ZgN hk],rfl⟩
  ·rename_i k j sz off hx;injection h with h;subst h
   rw[hx]at h1;obtain⟨g,hg,h1⟩:=h1;exact⟨.pointer (some ⟨g,j*sz+(off+n),none⟩),by simp[execOp,ho,h1,ZgN hk,Tby],g,hg,rfl⟩
  ·rename_i b off hx;injection h with h;subst h
   rw[hx]at h1;have h1:=lf h1;exact⟨.pointer (some ⟨b,off+n,none⟩),by simp[execOp,ho,h1,ZgN hk],by simp[aw,aX,aR]⟩
  ·cases h
 ·cases h
def ZuP {f:Nat} (ho:o.op=.field t x f) (h:FF e.P (ρ x) (jQ e.P t f)=some α):iC e U base S0 m o ρ α:=by
 unfold FF at h;split at h
 ·rename_i n ft hk;split at h
  ·rename_i cs hx;unfold vV at h;split at h
   ·rename_i k iE eK hp;injection hp with hp;subst hp
    refine oN λw S L C' hC hr=>?_;have h1:=hr x (by simp[ho,Op.operands]);rw[hx]at h1;obtain⟨vs,Aw,fw⟩:=h1;obtain⟨v,h2,h3⟩:=ZD7 (Bm:=L) eK fw h;unfold jQ at hk;split at hk
    ·rename_i fs hu;split at hk
     ·rename_i g hg;split at hk
      ·split at hk
       ·cases hk
       ·injection hk with hk
        injection hk with e1 e2
        subst e1 e2;exact⟨v,by simp[execOp,ho,Aw,Instr.field,underlying,hu,hg,asAgg,h2,Result.andThen],h3⟩
      ·cases hk
     ·cases hk
    ·cases hk
   ·cases h
  ·cases h
 ·cases h
def Zog {i:Operand} (ho:o.op=.indexAddr t x i) (h:yw m (kK e.P t) (fz m (ρ x)) (ρ i)=some α):iC e U base S0 m o ρ α:=by
 have data:∀(rows:sh)(n:Nat)(k:IntKind)(j:Int),kK e.P t=some n->ρ i=GY (.A (.int k j))->(if 0<=j then if ZaD n rows=true then uT rows[j.toNat]? else none else none)=some α ->
   ∀(w:World)(S:GO)(L:Lay)(C':Operand->Value),aR w S (.sl rows) (C' x)->aw w S L (ρ i) (C' i)->∃v,(execOp C' o).run e.P w=.ok (.value v) w/\aw w S L α v:=by
  intro rows n k j hn hi h w S L C' hx dR;split at h
  ·rename_i hj;split at h
   ·rename_i ez;unfold uT at h;split at h
    ·rename_i r fw;injection h with h;subst h
     rw[hi]at dR;have dR:=lf dR;obtain⟨v,h5,h6⟩:=ZuO (Bm:=L) (k:=k) hn hj (ov.1 ez) fw hx;exact⟨v,by simp[execOp,ho,dR,h5],h6⟩
    ·cases h
   ·cases h
  ·cases h
 unfold yw at h;split at h
 ·rename_i n k kk j hn hx hi;unfold Zoa at h;split at h
  ·rename_i o' e' sz rows hm;split at h
   ·rename_i bP;split at h
    ·rename_i hj;split at h
     ·rename_i am;injection h with h;subst h
      refine oN λw S L C' hC hr=>?_;have aW:=sv hC (hr x (by simp[ho,Op.operands]));have dR:=hr i (by simp[ho,Op.operands]);rw[hx]at aW;rw[hi]at dR;have dR:=lf dR;have aW:C' x=L.v k:=aW;obtain⟨_,_,_,h4⟩:=hC.own k _ hm;rcases h4 with⟨h4,_⟩|⟨g,cap,bf,hv,Gi,_⟩
      ·rw[h4]at am;simp at am
      ·refine⟨.pointer (some ⟨g,j.toNat*n,none⟩),?_,g,?_,by rw[bP];rfl⟩
       ·simp[execOp,ho,dR,aW,hv,Zk4 hn hj am]
       ·rw[hv];simp only[aO];rw[if_neg om]
     ·cases h
    ·cases h
   ·cases h
  ·cases h
 ·rename_i n rows kk j hn hx hi;refine oN λw S L C' hC hr=>?_;have aW:=sv hC (hr x (by simp[ho,Op.operands]));rw[hx]at aW;exact data rows n kk j hn hi h w S L C' aW (hr i (by simp[ho,Op.operands]))
 ·rename_i n rows kk j hn hx hi;refine oN λw S L C' hC hr=>?_;have aW:=sv hC (hr x (by simp[ho,Op.operands]));rw[hx]at aW;exact data rows n kk j hn hi h w S L C' aW.1 (hr i (by simp[ho,Op.operands]))
 ·cases h
def ZuQ {i:Operand} (ho:o.op=.index t x i) (h:FG (e.P.underlying t) (ρ x) (ρ i)=some α):iC e U base S0 m o ρ α:=by
 unfold FG at h;split at h
 ·rename_i s k j hk hx hi;split at h
  ·rename_i h1;unfold Zr1 at h;split at h
   ·rename_i b h3;injection h with h;subst h
    refine AJ λw S L C' hC hr aW=>?_;have dR:=hr i (by simp[ho,Op.operands]);rw[hx]at aW;rw[hi]at dR;have dR:=lf dR;have aW:=lf aW;exact⟨.int .u8 b.toNat,by simp[execOp,ho,dR,aW,Instr.index,asIntOf,underlying,hk,h1,h3,Result.andThen],by simp[aw,aX,aR]⟩
   ·cases h
  ·cases h
 ·cases h
def ZuR{op:BinOp}{t':TypeId}(ho:o.op=.binOp op t x y t')(h:uP e.P t op (ρ x) (ρ y)=some α):iC e U base S0 m o ρ α:=by
 unfold uP at h;split at h
 ·rename_i a b hx hy;unfold vk at h;split at h
  ·rename_i v hv;injection h with h;subst h
   refine AJ λw S L C' hC hr aW=>?_;have km:=hr y (by simp[ho,Op.operands]);rw[hx]at aW;rw[hy]at km;have aW:=lf aW;have km:=lf km;have hb:=Zsw (P:=e.P) (t:=t) (x:=x) (y:=y) hv w;exact⟨v,by simp only[execOp,ho,aW,km];rw[Sem.run_bind,hb];rfl,by simp[aw,aX,aR]⟩
  ·cases h
 ·cases h
def Zx5{op:UnOp}(ho:o.op=.unOp op t x)(h:GJ op (ρ x)=some α):iC e U base S0 m o ρ α:=by
 unfold GJ at h;split at h
 ·rename_i a hx;unfold vk at h;split at h
  ·rename_i v hv;injection h with h;subst h
   refine AJ λw S L C' hC hr aW=>?_;rw[hx]at aW;have aW:=lf aW;exact⟨v,by simp only[execOp,ho,aW];rw[Sem.run_bind,ZHi hv];rfl,by simp[aw,aX,aR]⟩
  ·cases h
 ·cases h
def ZrB{i:Nat}(ho:o.op=.extract x i)(h:Fp i (ρ x)=some α):iC e U base S0 m o ρ α:=by
 unfold Fp at h;split at h
 ·rename_i xs hx;unfold dA at h;split at h
  ·rename_i r hi;injection h with h;subst h
   refine AJ λw S L C' hC hr aW=>?_;rw[hx]at aW;obtain⟨vs,hv,hd⟩:=aW;obtain⟨v,h1,h2⟩:=hd.get hi;exact⟨v,by simp[execOp,ho,hv,Instr.extract,h1,Result.andThen],h2⟩
  ·cases h
 ·cases h
def ZpI(ho:o.op=.nilCheck x)(h:mZ (ρ x)=some α):iC e U base S0 m o ρ α:=by
 unfold mZ at h;split at h
 ·rename_i cs hx;injection h with h;subst h
  refine AJ λw S L C' hC hr aW=>?_;rw[hx]at aW;have tN:=aW;simp only[aw,aX,aR]at tN;obtain⟨b,off,hv,rT⟩:=tN;exact⟨C' x,by simp[execOp,ho,hv],aW⟩
 ·rename_i f cs hx;injection h with h;subst h
  refine AJ λw S L C' hC hr aW=>?_;rw[hx]at aW;have tN:=aW;simp only[aw,aX,aR]at tN;obtain⟨us,hv,rT⟩:=tN;exact⟨C' x,by simp[execOp,ho,hv],aW⟩
 ·rename_i k off hx;injection h with h;subst h
  refine AJ λw S L C' hC hr aW=>?_;rw[hx]at aW;have tN:C' x=.pointer (some ⟨L.b k,off,none⟩):=aW;exact⟨C' x,by simp[execOp,ho,tN],aW⟩
 ·rename_i p hx;injection h with h;subst h
  refine AJ λw S L C' hC hr aW=>?_;rw[hx]at aW;have tN:=lf aW;exact⟨C' x,by simp[execOp,ho,tN],aW⟩
 ·cases h
def ZrC {s d:TypeId} (ho:o.op=.convert s d x) (h:FN e.P s d (ρ x)=some α):iC e U base S0 m o ρ α:=by
 unfold FN at h;split at h
 ·rename_i k0 n hx;split at h
  ·rename_i d1 k h1 h2;injection h with h;subst h
   refine AJ λw S L C' hC hr aW=>?_;rw[hx]at aW;have aW:=lf aW;unfold zm at h2;split at h2
   ·rename_i k' hk;injection h2 with h2;subst h2
    refine⟨.int k' (k'.wrap n),?_,by simp[aw,aX,aR]⟩;simp[execOp,ho,aW,convert,underlying,h1,hk,Conv.intToInt,Result.andThen]
   ·cases h2
  ·cases h
 ·cases h
def Zoh{P:Program}{w:World}:∀(l:List Field),(∀f∈l,(P.info? f.type).isSome)->∃ps:List (Nat×Nat),(l.mapM (m:=Sem) λ(f:Field)=>do pure (f.offset,<- sizeOf f.type)).run P w=.ok ps w/\∀(i:Nat)(f:Field)(n:Nat),l[i]?=some f->sR P f.type=some n->ps[i]?=some (f.offset,n)
 |[],_=>⟨[],by simp,by simp⟩
 | f::l,h=>by
  obtain⟨ps,h1,h2⟩:=Zoh l (λg hg=>h g (by simp[hg]));obtain⟨i0,sH⟩:=Option.isSome_iff_exists.1 (h f (by simp));refine⟨(f.offset,i0.size)::ps,?_,?_⟩
  ·rw[List.mapM_cons];simp only[Sem.run_bind,(by simp[sizeOf,typeInfo,sH,Result.andThen]:(sizeOf f.type).run P w=.ok i0.size w),Result.andThen_ok,Sem.run_pure];rw[h1];simp
  ·intro i g n hg hn
   cases i with
   |zero=>simp at hg;subst hg;simp[sR,sH]at hn;simp[hn]
   |succ i=>simpa using h2 i g n (by simpa using hg) hn
def Zk5 (ho:o.op=.build t parts) {i:TypeInfo} {v:Value} {cs iE:we} (hi:e.P.info? t=some i) (hv:i.zero=some v) (aZ:wG e.P t) (aq:cs.all bQ) (kY:∀(w:World)(S:GO),aC w S cs v.cells.toList)
  (hf:sw e.P t cs (parts.toList.map λp=>(p.1,ρ p.2))=some iE):iC e U base S0 m o ρ (.d (.agg iE)):=by
 refine oN λw S L C' hC hr=>?_;unfold wG at aZ;split at aZ
 ·rename_i fs hu;obtain⟨ps,lP,nA⟩:=Zoh (P:=e.P) (w:=w) fs.toList (λf hf=>List.all_eq_true.1 aZ f hf);have kA:∀f off ft n,jQ e.P t f=some (off,ft)->sR e.P ft=some n->(λi=>ps.toArray[i]?) f=some (off,n):=by
   intro f off ft n ho hn;unfold jQ at ho;rw[hu]at ho;simp only at ho;split at ho
   ·rename_i g hg;split at ho
    ·split at ho
     ·cases ho
     ·simp only[Taq,Prod.mk.injEq]at ho;obtain⟨rfl,rfl⟩:=ho;simpa using nA f g n (by simpa using hg) hn
    ·cases ho
   ·cases ho
  obtain⟨j9,np,rM,hc3⟩:=Zoe (w:=w) (S:=S) (L:=L) (place:=λi=>ps.toArray[i]?) kA (vs:=parts.toList.map λp=>(p.1,C' p.2)) (cells:=v.cells) hf (kY w S) aq (by simp) (ZI1 (λp hp=>hr p.2 (by simp[ho,Op.operands];exact⟨p.1,by simpa using hp⟩)));refine⟨.agg j9,?_,j9.toList,by simp,rM⟩;have hm:(fs.mapM (m:=Sem) λ(f:Field)=>do pure (f.offset,<- sizeOf f.type)).run e.P w=.ok ps.toArray w:=by
   rw[Array.mapM_eq_mapM_toList];simp only[Sem.run_map,lP,Result.andThen_ok]
  have hc1':Instr.fill (λx=>ps.toArray[x]?) v.cells (parts.map λ(p:Nat×Operand)=>(p.1,C' p.2)).toList=some j9:=by
   rw[Array.toList_map];exact np
  have hb:(Instr.build t (parts.map λ(p:Nat×Operand)=>(p.1,C' p.2))).run e.P w=.ok (.agg j9) w:=by
   unfold Instr.build;simp only[Sem.run_bind,zeroValue,typeInfo,Sem.run_pure,Result.andThen_ok,run_program,hi,hv,underlying,hu];rw[hm];simp only[Result.andThen_ok,hc1',Sem.run_pure]
  simp only[execOp,ho,Sem.run_bind];have e1:(parts.map λx=>match x with|(i,x)=>(i,C' x))=parts.map λ(p:Nat×Operand)=>(p.1,C' p.2):=rfl;rw[e1,hb];rfl
 ·cases aZ
def ZuS (ho:o.op=.build t parts) (h:FC e.P t (parts.toList.map λp=>(p.1,ρ p.2))=some α):iC e U base S0 m o ρ α:=by
 unfold FC at h;split at h
 ·rename_i cs aZ hz;split at h
  ·rename_i aq;unfold wY at h;split at h
   ·rename_i iE hf;injection h with h;subst h
    unfold jU at hz;simp only[Tav,Option.bind_eq_some_iff]at hz;obtain⟨v,⟨i,hi,hv⟩,rfl⟩:=hz;exact Zk5 ho hi hv aZ aq (λw S=>AY v.cells.toList) hf
   ·cases h
  ·cases h
 ·cases h
def qm(P:Program)(t:TypeId):Option (we):=((P.info? t).bind (·.zero)).map λv=>v.cells.toList.map .A
def Zh3{w:World}{S:GO}:∀(l:GK),aC w S (l.map .A) l
 |[]=>by simp[aC]
 |v::vs=>by simp only[Tbv,aC,aR];exact⟨trivial,Zh3 vs⟩
def Zk6:∀(l:List (Nat×Value))(i:Nat),l.map (·.1)=List.range' i l.length->l=((l.map (·.2)).zipIdx i).map λx=>(x.2,x.1)
 |[],i,_=>rfl
 |(j,v)::l,i,h=>by
  simp only[Tbv,Tag,List.range'_succ,List.cons.injEq]at h;obtain⟨rfl,h2⟩:=h;simp only[Tbv,List.zipIdx_cons];rw[<- Zk6 l (j+1) h2]
def Znp {n:Nat} (ho:o.op=.buildSlice t n parts) (h:Fj (jT e.P t) n (parts.toList.map λp=>(p.1,ρ p.2))=some α) (he:e.Ok):iC e U base S0 m o ρ α:=by
 unfold Fj at h;split at h
 ·rename_i ety sz il hb;split at h
  ·rename_i hn;unfold Zr2 at h;split at h
   ·rename_i rows hp;injection h with h;subst h
    intro w S L C' hC hr;obtain⟨i,z,hu,hi,hz,bP,tw,sK,gv,_⟩:=A3 hb;simp only[Tay,Array.length_toList]at hn;obtain⟨q1,q2,q3,q4,q5⟩:=Zi9 (w:=w) (S:=S) (L:=L) (vs:=parts.toList.map λp=>C' p.2) hp (by simp) (mapv (λp hp=>hr p.2 (by simp[ho,Op.operands];exact⟨p.1,by simpa using hp⟩)));simp only[Tay,Array.length_toList,List.map_map]at q1 q3;generalize d8:(parts.toList.map λp=>C' p.2)=vs at q4 q5
    have jN:vs.length=n:=by rw[<- d8];simp[hn.1]
    have tJ:(parts.map λ(p:Nat×Operand)=>(p.1,C' p.2)).toList=(vs.zipIdx 0).map λx=>(x.2,x.1):=by
     have:=Zk6 (parts.map λ(p:Nat×Operand)=>(p.1,C' p.2)).toList 0 (by simpa[Function.comp_def]using q3);rw[this,<- d8];simp[Function.comp_def]
    have sE:(Instr.buildSlice t n (parts.map λ(p:Nat×Operand)=>(p.1,C' p.2))).run e.P w=.ok (.slice (some ⟨w.heap.size,0,none⟩) n n) (w.alloc (.cells (vs.flatMap λv=>v.cells.toList).toArray ety)):=by
     by_cases h0:n*i.size=0
     ·have qA:n=0:=by rw[bP]at h0;rcases Nat.mul_eq_zero.1 h0 with h|h<;>omega
      have hvn:vs=[]:=Tao om;have BT:¬(16777216<n*i.size):=om;simp only[Instr.buildSlice,Sem.run_bind,underlying,run_program,Result.andThen_ok,hu,Sem.run_pure,sizeOf,typeInfo,hi,(by rw[tJ,hvn];rfl:(parts.map λ(p:Nat×Operand)=>(p.1,C' p.2)).toList=[])];subst qA;simp[Instr.fill,newRow,hvn,Result.andThen,Array.range_zero']
     ·exact m76
    have iq:∀j u,(vs.flatMap λv=>v.cells.toList)[j]?=some u->(w.alloc (.cells (vs.flatMap λv=>v.cells.toList).toArray ety)).cell? ⟨w.heap.size,0+j,none⟩=some u:=λj u hj=>by
     rw[Nat.zero_add];exact ZpG rfl (by simpa using hj)
    have pO:Below w.heap.size w (w.alloc (.cells (vs.flatMap λv=>v.cells.toList).toArray ety)):=yF w _;generalize hW:w.alloc (.cells (vs.flatMap λv=>v.cells.toList).toArray ety)=W at sE iq pO;have hzW:W.heap.size=w.heap.size+1:=by rw[<- hW];simp
    have hg:e.G W:=he.Ε _ _ pO.size (λb hE=>pO.block b (Tbd (hC.ein b hE) hC.bsz)) hC.g;have u5:Kept e.D e.E w.heap.size w W:=Kept.of_below pO (λ_=>by rw[<- hW];exact Tai _);have zY:Cls e U base S0 m W (λb=>S b\/(w.heap.size<=b/\b<W.heap.size)) L:=hC.later u5 hg (λ_ h=>.inl h) (λ_ h=>h);have hq5:aC W (λb=>S b\/(w.heap.size<=b/\b<W.heap.size)) rows.flatten (vs.flatMap λv=>v.cells.toList):=aC.keep2 u5.size (hC.cell u5) (λ_ h=>.inl h) q5
    have aF:(execOp C' o).run e.P w=.ok (.value (.slice (some ⟨w.heap.size,0,none⟩) n n)) W:=by
     simp only[execOp,ho,Sem.run_bind];have e1:(parts.map λx=>match x with|(i,x)=>(i,C' x))=parts.map λ(p:Nat×Operand)=>(p.1,C' p.2):=rfl;rw[e1,sE];rfl
    unfold gives;rw[aF];refine⟨_,⟨λ_ h=>.inl h,λ_ h=>h.elim .inl (λq=>.inr q.1)⟩,zY,u5,?_⟩;simp only[aw,aX,aR];refine⟨⟨some ⟨w.heap.size,0,none⟩,n,n,rfl,om,Tai _,?_,λh0=>⟨w.heap.size,0,rfl,.inr ⟨Tai _,om⟩,om,?_⟩⟩,_,_,rfl⟩
    ·have:n*1<=n*sz:=Nat.mul_le_mul_left n gv;unfold maxLen;omega
    ·exact ct.of_flat (a8.of_vals _ _ 0 hq5 iq)
   ·cases h
  ·cases h
 ·cases h
def ZjQ{w:World}{S:GO}{L:Lay}{C':Operand->Value}{x:Option Operand}{l:Int}(h:sa (x.map ρ)=some l)(hr:∀y,x=some y->aw w S L (ρ y) (C' y)):(x=none/\l=0)\/(x.map C'=some (.int .i64 l)):=by
 cases x with
 |none=>simp[sa]at h;exact .inl ⟨rfl,h.symm⟩
 |some y =>
  simp only[Option.map_some,sa]at h;exact m121
def ZjR{w:World}{S:GO}{L:Lay}{C':Operand->Value}{x:Option Operand}{l:Int}{n:Nat}(h:rQ n (x.map ρ)=some l)(hr:∀y,x=some y->aw w S L (ρ y) (C' y)):(x=none/\l=n)\/(x.map C'=some (.int .i64 l)):=by
 cases x with
 |none=>simp[rQ]at h;exact .inl ⟨rfl,h.symm⟩
 |some y =>
  simp only[Option.map_some,rQ]at h;exact m121
def ct.sub {w:World} {S:GO} {b n:Nat} {rows:sh} (hl:rowsLen n rows) (h:ct w S b off rows) (l k:Nat):ct w S b (off+l*n) ((rows.take k).drop l):=by
 by_cases mR:l<rows.length
 ·have e1:=qL hl;have h1:=h.flat;have e2:rows.flatten.drop (l*n)=(rows.drop l).flatten:=by
   have:rows.flatten=(rows.take l).flatten++(rows.drop l).flatten:=by rw[<- List.flatten_append,Tbn]
   have tG:(rows.take l).flatten.length=l*n:=by rw[qL (n:=n) (λx hx=>hl x (List.mem_of_mem_take hx)),Taw];congr 1;omega
   rw[this,<- tG,List.drop_left]
  have h2:=h1.drop (l*n);rw[e2]at h2;have h3:ct w S b (off+l*n) (rows.drop l):=ct.of_flat h2;rw[List.drop_take];have:∀(rs:sh)(o k:Nat),ct w S b o rs->ct w S b o (rs.take k):=by
   intro rs
   induction rs with
   |nil=>intro o k h;simp[ct]
   |cons r rs ih =>
    intro o k h
    cases k with
    |zero=>simp[ct]
    |succ k=>simp only[ct,Tbc]at h⊢;exact⟨h.1,ih _ k h.2⟩
  exact this _ _ _ h3
 ·have:(rows.take k).drop l=[]:=by apply List.drop_eq_nil_of_le;simp;omega
  rw[this];simp[ct]
def ZuT {lo hi mx:Option Operand} (ho:o.op=.slice t x lo hi mx) (h:Cz e.P t (ρ x) (lo.map ρ) (hi.map ρ) (mx.map ρ)=some α):iC e U base S0 m o ρ α:=by
 have iw:x∈o.op.operands:=by simp[ho,Op.operands]
 have hlo0:∀y,lo=some y->y∈o.op.operands:=λy hy=>by simp[ho,Op.operands,hy]
 have hhi0:∀y,hi=some y->y∈o.op.operands:=λy hy=>by simp[ho,Op.operands,hy]
 have hmx0:∀y,mx=some y->y∈o.op.operands:=λy hy=>by simp[ho,Op.operands,hy]
 unfold Cz at h;split at h
 ·rename_i n hn;split at h
  ·rename_i rows hx;split at h
   ·rename_i ez;unfold dA at h;split at h
    ·rename_i D hD;injection h with h;subst h
     refine oN λw S L C' hC hr=>?_;have aW:=hr x iw;have kY:aR w S (.sl rows) (C' x):=by
      unfold Bj at hx;split at hx
      ·rename_i r hq;injection hx with hx;subst hx;rw[hq]at aW;exact aW
      ·rename_i r hq;injection hx with hx;subst hx;rw[hq]at aW;exact aW.1
      ·cases hx
     have yP:∃ety i,e.P.underlying t=some (.slice ety)/\e.P.info? ety=some i/\i.size=n:=by
      unfold kK at hn;split at hn
      ·rename_i ety hu;simp only[Tav]at hn;obtain⟨i,hi,hs⟩:=hn;exact⟨ety,i,hu,hi,hs⟩
      ·cases hn
     obtain⟨ety,i,hu,dR,bP⟩:=yP;simp only[aR]at kY;obtain⟨a,len,cap,hv,bh,hc,hm,h4⟩:=kY;have c9:=ov.1 ez.1;have key:∀(l hh mm:Nat),l<=hh->hh<=rows.length->hh<=mm->mm<=cap->aR w S (.sl ((rows.take hh).drop l)) (sliced a l hh mm n):=by
      intro l hh mm k1 k2 k3 k4;simp only[aR,sliced];refine⟨_,_,_,rfl,by simp;omega,om,om,λh0=>?_⟩;obtain⟨b,off,rfl,hs,hb,cn⟩:=h4 om;refine⟨b,off+l*n,?_,hs,hb,cn.sub c9 l hh⟩;rw[if_neg om];simp[Addr.add_at]
     have d4:=λl(hq:sa (lo.map ρ)=some l)=>ZjQ (w:=w) (S:=S) (L:=L) (C':=C') hq (λy hy=>hr y (hlo0 y hy));have lm:=λl(hq:rQ rows.length (hi.map ρ)=some l)=>ZjR (w:=w) (S:=S) (L:=L) (C':=C') hq (λy hy=>hr y (hhi0 y hy));unfold C0 at hD;split at hD
     ·rename_i l hh q1 q2 q3;split at hD
      ·rename_i hb;injection hD with hD;subst hD
       have hmn:mx=none:=by simpa using q3
       refine⟨sliced a l.toNat hh.toNat cap n,?_,key l.toNat hh.toNat cap om om om (Tai _)⟩;have qw:(Instr.sliceBounds true len cap (lo.map C') (hi.map C') (mx.map C')).run e.P w=.ok (l.toNat,hh.toNat,cap) w:=by
        subst hmn;have eh:(hh.toNat:Int)=hh:=Int.toNat_of_nonneg om;have b1:0<=hh:=om;have b2:hh<=(cap:Int):=om;have b3:0<=l:=hb.1;have b4:l<=hh:=hb.2.1;rcases d4 l q1 with⟨rfl,rfl⟩|e1<;>rcases lm hh q2 with⟨rfl,e2⟩|e2
        ·simp[Instr.sliceBounds,e2,Result.andThen,bh]
        ·exact Ek
        ·simp[Instr.sliceBounds,e1,e2,Result.andThen,run_sliceBound,b3,(om:l<=(len:Int)),bh]
        ·exact Ee
       simp only[execOp,ho,Sem.run_bind,hv,Instr.sliceAt,Instr.slice,underlying,run_program,Result.andThen_ok,hu,Sem.run_pure,qw,sizeOf,typeInfo,dR,bP,sliced]
      ·cases hD
     ·rename_i l hh mm q1 q2 q3;split at hD
      ·rename_i hb;injection hD with hD;subst hD
       have hmh:mm=hh:=hb.2.2.2;subst hmh;rename_i mm;refine⟨sliced a l.toNat mm.toNat mm.toNat n,?_,key l.toNat mm.toNat mm.toNat om om (Tai _) om,_,_,rfl⟩;have q3':∃y,mx=some y/\ju (ρ y)=some mm:=by
        cases mx with
        |none=>simp at q3
        |some y=>exact⟨y,rfl,by simpa using q3⟩
       obtain⟨y,rfl,q4⟩:=q3';have hy:=hr y (hmx0 y rfl);unfold ju at q4;split at q4
       ·rename_i j hj;injection q4 with q4;subst q4
        rw[hj]at hy;have hy:=lf hy;have eh:(j.toNat:Int)=j:=Int.toNat_of_nonneg om;have b1:0<=j:=om;have b2:j<=(cap:Int):=om;have b3:0<=l:=hb.1;have b4:l<=j:=hb.2.1;have qw:(Instr.sliceBounds true len cap (lo.map C') (hi.map C') (some (C' y))).run e.P w=.ok (l.toNat,j.toNat,j.toNat) w:=by
         rcases d4 l q1 with⟨rfl,rfl⟩|e1<;>rcases lm j q2 with⟨rfl,e2⟩|e2
         ·simp at ez
         ·simp[Instr.sliceBounds,hy,e2,Result.andThen,run_sliceBound,b1,b2,eh]
         ·simp at ez
         ·simp[Instr.sliceBounds,hy,e1,e2,Result.andThen,run_sliceBound,b1,b2,b3,b4,eh]
        simp only[execOp,ho,Sem.run_bind,hv,Instr.sliceAt,Instr.slice,underlying,run_program,Result.andThen_ok,hu,Sem.run_pure,Option.map_some,qw,sizeOf,typeInfo,dR,bP,sliced]
       ·cases q4
      ·cases hD
     ·cases hD
    ·cases h
   ·cases h
  ·cases h
 ·rename_i hn;split at h
  ·rename_i aZ;split at h
   ·rename_i s hs;unfold dA at h;split at h
    ·rename_i D hD;injection h with h;subst h
     refine oN λw S L C' hC hr=>?_;have aW:=hr x iw;unfold AQ at hs;split at hs
     ·rename_i s' mz;injection hs with hs;subst hs
      rw[mz]at aW;have aW:=lf aW;have hmn:mx=none:=by simpa using aZ.2
      subst hmn;have hu:e.P.underlying t=some .string:=by
       have:=aZ.1;unfold Zn9 at this;split at this
       ·rename_i h;exact h
       ·cases this
      unfold Zmc at hD;split at hD
      ·rename_i l hh q1 q2;split at hD
       ·rename_i hb;injection hD with hD;subst hD
        have d4:=ZjQ (w:=w) (S:=S) (L:=L) (C':=C') q1 (λy hy=>hr y (hlo0 y hy));have lm:=ZjR (w:=w) (S:=S) (L:=L) (C':=C') q2 (λy hy=>hr y (hhi0 y hy));refine⟨.string (s'.extract l.toNat hh.toNat),?_,by simp[aw,aX,aR]⟩;have eh:(hh.toNat:Int)=hh:=Int.toNat_of_nonneg om;have b1:0<=hh:=om;have b2:hh<=(s'.size:Int):=om;have b3:0<=l:=hb.1;have b4:l<=hh:=hb.2.1;have qw:(Instr.sliceBounds false s'.size s'.size (lo.map C') (hi.map C') none).run e.P w=.ok (l.toNat,hh.toNat,s'.size) w:=by
         rcases d4 with⟨rfl,rfl⟩|e1<;>rcases lm with⟨rfl,e2⟩|e2
         ·simp[Instr.sliceBounds,e2,Result.andThen]
         ·exact Ek
         ·simp[Instr.sliceBounds,e1,e2,Result.andThen,run_sliceBound,b3,(om:l<=(s'.size:Int))]
         ·exact Ee
        simp only[execOp,ho,Sem.run_bind,aW,Instr.sliceAt,Instr.slice,underlying,run_program,Result.andThen_ok,hu,Sem.run_pure,Option.map_none,Option.isSome_none,Tam,if_false,qw]
       ·cases hD
      ·cases hD
     ·cases hs
    ·cases h
   ·cases h
  ·cases h
def ZpJ{f:FuncId}{caps:Array Operand}(ho:o.op=.makeFunc (.func f) #[] caps)(h:FX f (qt (caps.toList.map ρ))=some α):iC e U base S0 m o ρ α:=by
 unfold FX at h;split at h
 ·rename_i cs gc;injection h with h;subst h
  refine oN λw S L C' hC hr=>?_;have h1:=Zod (w:=w) (S:=S) (L:=L) (vs:=caps.toList.map C') gc (by simp) (tR (λp hp=>hr p (by simp[ho,Op.operands];simpa using hp)));refine⟨.func (.func f) #[] (caps.toList.map C').toArray,?_,?_⟩
  ·simp[execOp,ho,Instr.makeFunc,Result.andThen,(by apply Array.toList_inj.1;simp:caps.map C'=(caps.toList.map C').toArray)]
  ·simp only[aw,aX,aR];exact⟨_,rfl,h1⟩
 ·cases h
def ZzA (ho:o.op=.call ⟨.builtin .len,args,ts⟩) (h:kp m (n7 e.P ts) (args.toList.map λx=>fz m (ρ x))=some α):iC e U base S0 m o ρ α:=by
 unfold kp at h;split at h
 ·rename_i p n cap am mB;injection h with h;subst h
  refine m74 λw S L C' hC hr x oG tN aW=>?_;have hv:=lf aW;have ha:args.map C'=#[C' x]:=by
   apply Array.toList_inj.1;simp[oG]
  unfold n7 at am;split at am
  ·rename_i t ht;split at am
   ·rename_i el hu;refine⟨.int .i64 n,?_,by simp[aw,aX,aR]⟩;exact m184
   ·cases am
   ·cases am
  ·cases am
 ·rename_i y aP am mB;unfold vj at h;split at h
  ·rename_i rows lS;injection h with h;subst h
   refine m74 λw S L C' hC hr x oG tN aW=>?_;obtain⟨a,cap,hv,_,_⟩:=ZD8 hC lS aW;have ha:args.map C'=#[C' x]:=by
    apply Array.toList_inj.1;simp[oG]
   unfold n7 at am;split at am
   ·rename_i t ht;split at am
    ·rename_i el hu;refine⟨.int .i64 rows.length,?_,by simp[aw,aX,aR]⟩;exact m184
    ·cases am
    ·cases am
   ·cases am
  ·cases h
 ·rename_i s am mB;injection h with h;subst h
  refine m74 λw S L C' hC hr x oG tN aW=>?_;have aW:=lf aW;have ha:args.map C'=#[C' x]:=by
   apply Array.toList_inj.1;simp[oG]
  unfold n7 at am;split at am
  ·rename_i t ht;split at am
   ·cases am
   ·rename_i hu;refine⟨.int .i64 s.size,?_,by simp[aw,aX,aR]⟩;simp[execOp,ho,resolve,invoke,builtin,Builtin.len_,ha,ht,underlying,hu,aW,goInt,Result.andThen]
   ·cases am
  ·cases am
 ·cases h
def ZpK{α β:Type}{f:α->β}{l:List α}{x y:β}(h:l.map f=[x,y]):∃p q,l=[p,q]/\f p=x/\f q=y:=by
 match l,h with
 |[p,q],h=>simp at h;exact⟨p,q,rfl,h.1,h.2⟩
def ZzB(ho:o.op=.call ⟨.builtin .max,args,ts⟩)(h:vv (args.toList.map ρ)=some α):iC e U base S0 m o ρ α:=by
 unfold vv at h;split at h
 ·rename_i x y mB;injection h with h;subst h
  refine oN λw S L C' hC hr=>?_;obtain⟨p,q,ha,mB⟩:=ZpK mB
  ·refine m85 λhp hq eU=>?_
   refine⟨.int .i64 (if y>x then y else x),?_,by simp[aw,aX,aR]⟩;simp[execOp,ho,resolve,invoke,builtin,Builtin.max_,Builtin.max2,eU,(lf hp),(lf hq),Result.andThen]
 ·cases h
def ZzC(ho:o.op=.call ⟨.builtin .min,args,ts⟩)(h:vw (args.toList.map ρ)=some α):iC e U base S0 m o ρ α:=by
 unfold vw at h;split at h
 ·rename_i x y mB;injection h with h;subst h
  refine oN λw S L C' hC hr=>?_;obtain⟨p,q,ha,mB⟩:=ZpK mB
  ·refine m85 λhp hq eU=>?_
   refine⟨.int .i64 (if y<x then y else x),?_,by simp[aw,aX,aR]⟩;simp[execOp,ho,resolve,invoke,builtin,Builtin.min_,Builtin.min2,eU,(lf hp),(lf hq),Result.andThen]
 ·cases h
def ZmR(he:e.Ok)(h:zK e.P m ρ o.op=some α):iC e U base S0 m o ρ α:=by
 unfold zK at h;split at h
 ·rename_i x ho;injection h with h;subst h
  exact oN λw S L C' hC hr=>⟨C' x,by simp[execOp,ho],hr x (by simp[ho,Op.operands])⟩
 ·rename_i c a b ho;unfold Zr0 at h;split at h
  ·rename_i t hc;injection h with h;subst h
   refine oN λw S L C' hC hr=>?_;have h1:=hr c (by simp[ho,Op.operands]);rw[hc]at h1;have h1:=lf h1
   cases t
   ·exact⟨C' b,by simp[execOp,ho,h1,asBool],by simpa using hr b (by simp[ho,Op.operands])⟩
   ·exact⟨C' a,by simp[execOp,ho,h1,asBool],by simpa using hr a (by simp[ho,Op.operands])⟩
  ·cases h
 ·rename_i ho;exact Zx4 ho h
 ·rename_i ho;exact Zof ho h
 ·rename_i ho;exact ZuP ho h
 ·rename_i ho;exact Zog ho h
 ·rename_i ho;exact ZuQ ho h
 ·rename_i ho;exact ZuR ho h
 ·rename_i ho;exact Zx5 ho h
 ·rename_i ho;exact ZrB ho h
 ·rename_i ho;exact ZpI ho h
 ·rename_i ho;exact ZrC ho h
 ·rename_i ho;exact ZuT ho h
 ·rename_i ho;exact ZuS ho h
 ·rename_i ho;exact Znp ho h he
 ·rename_i ho;exact ZpJ ho h
 ·rename_i ho;exact ZzA ho h
 ·rename_i ho;exact ZzB ho h
 ·rename_i ho;exact ZzC ho h
 ·cases h
end
def m228(h:G3:=by
 simp only[aL,Act.eval,aw,aX,aR];exact⟨[],rfl,by simp[aC]⟩):G3:=h
def m73(h:G3:=by
 simp only[aL,Act.eval];unfold wO;split
 ·simp only[aw,aX,aR];exact⟨⟨none,0,0,rfl,rfl,Tai _,by decide,λh=>absurd h (by decide)⟩,none,0,rfl⟩
 ·rename_i vs;exact⟨vs.toList,rfl,AY _⟩
 ·simp[aw,aX,aR]):G3:=h
def Ze7(w:World)(b:Nat)(cells:Array Value):(w.setRow b cells).drawn=w.drawn:=rfl
structure Sim(e:Env)(U:GO)(w0:World)(S0:GO)(nt:Nat)(σ:St)(a:Act)(w:World)(S:GO)(L:Lay):Prop where
 Ξ:Cls e U w0.heap.size S0 σ.m w S L
 rel:∀t,aw w S L (gs σ.s t) (a.tmps.getD t undef)
 size:a.tmps.size=nt
 defers:a.defers=[]
 kept:Kept e.D (λb=>e.E b\/U b) w0.heap.size w0 w
def aS(e:Env)(U:GO)(w0:World)(S0:GO)(nt:Nat)(σ:St)(a:Act)(w:World):Prop:=∃S L,Sim e U w0 S0 nt σ a w S L
def vQ(k:Nat):A->Prop
 |.ref k' _=>k'=k
 |.Υ k'=>k'=k
 |.row k' _ _ _=>k'=k
 |_=>False
def Bb(k t:Nat):∀(s:d3),(gs (bX k s) t=gs s t/\¬vQ k (gs s t))\/gs (bX k s) t=.undef
 |[]=>by simp[bX,gs]
 | (t',x)::r=>by
  have ih:=Bb k t r
  cases x<;>simp only[bX,gs]<;>by_cases ht:t=t'<;>simp only[ht,if_true,if_false,vQ,not_false_eq_true,and_true,true_or]
  all_goals first
   |exact ih
   |(rename_i k' j sz off;by_cases hm:k'=k<;>(simp[hm];done))
   |(rename_i k' off;by_cases hm:k'=k<;>(simp[hm];done))
   |(rename_i k';by_cases hm:k'=k<;>(simp[hm];done))
def gq(k t:Nat):∀(m:it),gm (aA k m) t=if t=k then none else gm m t
 |[]=>by simp[aA,gm]
 | (t',x)::r=>by
  have ih:=gq k t r;simp only[aA];by_cases h1:t'=k
  ·simp only[h1,if_true,ih,gm];by_cases h2:t=k
   ·simp[h2]
   ·simp[h2]
  ·simp only[h1,if_false,gm,ih];by_cases h2:t=t'
   ·simp only[h2,if_true];rw[if_neg h1]
   ·simp only[h2,if_false]
def tY{a:Act}{d t:Nat}{v:Value}(h:d<a.tmps.size):(a.put (some d) v).tmps.getD t undef=if t=d then v else a.tmps.getD t undef:=by
 by_cases ht:t=d
 ·subst ht;rw[ZkM h];simp
 ·rw[ZgL (Ne.symm ht)];simp[ht]
section
variable{e:Env}{U:GO}{w0:World}{S0:GO}{nt:Nat}{σ:St}{a:Act}{w:World}{S:GO}{L:Lay}{o:Oper}
def Sim.eval(h:Sim e U w0 S0 nt σ a w S L)(x:Operand):aw w S L (aL σ.s x) (a.eval x):=by
 cases x with
 |tmp t=>exact h.rel t
 |const v =>
  exact m73
 |func f =>
  exact m228
 |global g=>trivial
def Sim.touchM(h:Sim e U w0 S0 nt σ a w S L){p:GO}{m':it}{L':Lay}{τ:GO}(hS:∀b,S b->S' b)(ky:∀b,S' b->S b\/(τ b/\b<w.heap.size)\/(w.heap.size<=b/\b<w'.heap.size))(mw:∀k x,¬p k->gm m' k=some x->gm σ.m k=some x)
  (hL:∀k,¬p k->L'.b k=L.b k/\L'.v k=L.v k) (G9:∀g,τ g->¬S g/\¬e.E g/\(w0.heap.size<=g\/U g)) (lO:∀k x g,¬p k->gm m' k=some x->τ g->¬dh L k x g)
  (hk:Kept e.D (λb=>e.E b\/τ b) w.heap.size w w') (hg:e.G w') (fc:∀k x,p k->gm m' k=some x->b6 w' S' L' k x/\∀g,dh L' k x g->τ g\/w.heap.size<=g)
  (Ae:∀k k' x x' g,p k->p k'->gm m' k=some x->gm m' k'=some x'->dh L' k x g->dh L' k' x' g->k=k') :
  Cls e U w0.heap.size S0 m' w' S' L'/\Kept e.D (λb=>e.E b\/U b) w0.heap.size w0 w'/\(∀x v,(∀k,p k->vQ k x->L'.b k=L.b k/\L'.v k=L.v k)->aw w S L x v->aw w' S' L' x v):=by
 have hz:=hk.size;have Du:∀b,S b->w'.heap[b]?=w.heap[b]?:=λb hs=>hk.block b (h.Ξ.sin b hs).1 (λht=>ht.elim (h.Ξ.sin b hs).2 (λht=>(G9 b ht).1 hs));have lM:∀b o,S b->w'.cell? ⟨b,o,none⟩=w.cell? ⟨b,o,none⟩:=λb o hs=>rq (Du b hs) o;have sE:=h.Ξ.bsz;have other:∀k x,¬p k->gm m' k=some x->b6 w' S' L' k x/\dh L' k x=dh L k x:=λk x cl hx=>by
  have iw:=mw k x cl hx;have ho:=h.Ξ.own k x iw;obtain⟨l1,l2⟩:=hL k cl;refine⟨(ho.Ε hz lM hS (λg DG=>?_)).lay l1 l2,Zqp l1 l2⟩;obtain⟨q1,q2⟩:=ho.lt DG;refine⟨hk.block g q1 (λht=>ht.elim (h.Ξ.notE iw DG) (λht=>lO k x g cl hx ht DG)),λhs=>?_⟩;rcases ky g hs with h1|⟨h1,_⟩|⟨h1,_⟩
  ·exact q2 h1
  ·exact lO k x g cl hx h1 DG
  ·omega
 have Bv:∀k x k' x' g,¬p k->gm m' k=some x->dh L' k x g->p k'->gm m' k'=some x'->dh L' k' x' g->False:=λk x k' x' g cl hx hb hp aW cu=>by
  rw[(other k x cl hx).2]at hb;rcases(fc k' x' hp aW).2 g cu with h1|h1
  ·exact lO k x g cl hx h1 hb
  ·have:=((h.Ξ.own k x (mw k x cl hx)).lt hb).1;omega
 refine⟨⟨λb hs=>?_,λb hs=>?_,h.Ξ.ein,h.Ξ.uin,Tbe sE hz,λk x g hx hb=>?_,λk x hx=>?_,λk k' x x' g hx aW hb cu=>?_,hg⟩,
  h.kept.trans ⟨hk.os,hk.tape,hk.output,hk.drawn,hk.size,λb hb hE=>hk.block b om (λht=>?_)⟩,λx v hx hr=>?_⟩
 ·rcases ky b hs with h1|⟨h1,h2⟩|⟨h1,h2⟩
  ·exact⟨Tbd (h.Ξ.sin b h1).1 hz,(h.Ξ.sin b h1).2⟩
  ·exact⟨Tbd h2 hz,(G9 b h1).2.1⟩
  ·exact⟨h2,λhE=>by have:=h.Ξ.ein b hE;omega⟩
 ·rcases ky b hs with h1|⟨h1,h2⟩|⟨h1,h2⟩
  ·exact h.Ξ.sfr b h1
  ·rcases(G9 b h1).2.2 with q|q
   ·exact .inr (.inl q)
   ·exact .inr (.inr q)
  ·exact .inr (.inl om)
 ·by_cases cl:p k
  ·rcases(fc k x cl hx).2 g hb with h1|h1
   ·exact(G9 g h1).2.2
   ·exact .inl om
  ·rw[(other k x cl hx).2]at hb;exact h.Ξ.mine k x g (mw k x cl hx) hb
 ·by_cases cl:p k
  ·exact(fc k x cl hx).1
  ·exact(other k x cl hx).1
 ·by_cases h1:p k
  ·by_cases h2:p k'
   ·exact Ae k k' x x' g h1 h2 hx aW hb cu
   ·exact(Bv k' x' k x g h2 aW cu h1 hx hb).elim
  ·by_cases h2:p k'
   ·exact(Bv k x k' x' g h1 hx hb h2 aW cu).elim
   ·rw[(other k x h1 hx).2]at hb;rw[(other k' x' h2 aW).2]at cu;exact h.Ξ.inj k k' x x' g (mw k x h1 hx) (mw k' x' h2 aW) hb cu
 ·rcases ht with ht|ht
  ·exact hE (.inl ht)
  ·rcases(G9 b ht).2.2 with h1|h1
   ·omega
   ·exact hE (.inr h1)
 ·have lay:∀k,vQ k x->L'.b k=L.b k/\L'.v k=L.v k:=λk jG=>by
   by_cases cl:p k
   ·exact hx k cl jG
   ·exact hL k cl
  have h1:=hr.Ε hz lM hS
  cases x with
  |undef=>trivial
  |no=>exact h1
  |d x=>exact h1
  |tup xs=>exact h1
  |ref k off=>have:=(lay k rfl).1;simp only[aw]at h1⊢;rw[this];exact h1
  |Υ k=>have:=(lay k rfl).2;simp only[aw]at h1⊢;rw[this];exact h1
  |row k j sz off=>have:=(lay k rfl).2;simp only[aw]at h1⊢;rw[this];exact h1
def Sim.touchT(h:Sim e U w0 S0 nt σ a w S L){d:Nat}{bk:Bk}{m':it}{L':Lay}{τ:GO}(hS:∀b,S b->S' b)(ky:∀b,S' b->S b\/(τ b/\b<w.heap.size)\/(w.heap.size<=b/\b<w'.heap.size))(mw:∀k x,k≠d->gm m' k=some x->gm σ.m k=some x)(va:gm m' d=some bk)
  (hL:∀k,k≠d->L'.b k=L.b k/\L'.v k=L.v k) (G9:∀g,τ g->¬S g/\¬e.E g/\(w0.heap.size<=g\/U g)) (lO:∀k x g,k≠d->gm m' k=some x->τ g->¬dh L k x g)
  (hk:Kept e.D (λb=>e.E b\/τ b) w.heap.size w w') (hg:e.G w') (fc:b6 w' S' L' d bk) (eX:∀g,dh L' d bk g->τ g\/w.heap.size<=g) :
  Cls e U w0.heap.size S0 m' w' S' L'/\Kept e.D (λb=>e.E b\/U b) w0.heap.size w0 w'/\(∀x v,(vQ d x->L'.b d=L.b d/\L'.v d=L.v d)->aw w S L x v->aw w' S' L' x v):=by
 obtain⟨t1,t2,t3⟩:=h.touchM (p:=λk=>k=d) hS ky mw hL G9 lO hk hg (λk x hp hx=>by
  subst hp;rw[va]at hx;injection hx with hx;subst hx;exact⟨fc,eX⟩) (λk k' x x' g hp et _ _ _ _=>hp.trans et.symm)
 exact⟨t1,t2,λx v hx=>t3 x v (λk hp hk=>by subst hp;exact hx hk)⟩
def Sim.touchE(h:Sim e U w0 S0 nt σ a w S L){d:Nat}{bk:Bk}{m':it}{L':Lay}(hS:∀b,S b->S' b)(ky:∀b,S' b->S b\/(w.heap.size<=b/\b<w'.heap.size))(mw:∀k x,k≠d->gm m' k=some x->gm σ.m k=some x)(va:gm m' d=some bk)
  (hL:∀k,k≠d->L'.b k=L.b k/\L'.v k=L.v k) (G9:∀g,τ=some g->¬S g/\¬e.E g/\(w0.heap.size<=g\/U g)) (lO:∀k x g,k≠d->gm m' k=some x->τ=some g->¬dh L k x g)
  (hk:Kept e.D (λb=>e.E b\/τ=some b) w.heap.size w w') (hg:e.G w') (fc:b6 w' S' L' d bk) (eX:∀g,dh L' d bk g->τ=some g\/w.heap.size<=g) :
  Cls e U w0.heap.size S0 m' w' S' L'/\Kept e.D (λb=>e.E b\/U b) w0.heap.size w0 w'/\(∀x v,(vQ d x->L'.b d=L.b d/\L'.v d=L.v d)->aw w S L x v->aw w' S' L' x v):=h.touchT (τ:=λg=>τ=some g) hS (λb hb=>(ky b hb).elim .inl (λq=>.inr (.inr q))) mw va hL G9 lO hk hg fc eX
def Sim.touch(h:Sim e U w0 S0 nt σ a w S L)(he:e.Ok){d:Nat}{bk:Bk}{m':it}{L':Lay}(hS:∀b,S b->S' b)(ky:∀b,S' b->S b\/(w.heap.size<=b/\b<w'.heap.size))(mw:∀k x,k≠d->gm m' k=some x->gm σ.m k=some x)(va:gm m' d=some bk)
  (hL:∀k,k≠d->L'.b k=L.b k/\L'.v k=L.v k) (G9:∀g,τ=some g->¬S g/\¬e.E g/\(w0.heap.size<=g\/U g)) (lO:∀k x g,k≠d->gm m' k=some x->τ=some g->¬dh L k x g)
  (hk:Kept e.D (λb=>τ=some b) w.heap.size w w') (fc:b6 w' S' L' d bk) (eX:∀g,dh L' d bk g->τ=some g\/w.heap.size<=g) :
  Cls e U w0.heap.size S0 m' w' S' L'/\Kept e.D (λb=>e.E b\/U b) w0.heap.size w0 w'/\(∀x v,(vQ d x->L'.b d=L.b d/\L'.v d=L.v d)->aw w S L x v->aw w' S' L' x v):=by
 have sE:=h.Ξ.bsz;exact h.touchE hS ky mw va hL G9 lO ⟨hk.os,hk.tape,hk.output,hk.drawn,hk.size,λb hb hE=>hk.block b hb (λht=>hE (.inr ht))⟩ (he.Ε _ _ hk.size (λb hE=>hk.block b (Tbd (h.Ξ.ein b hE) sE) (λht=>(G9 b ht).2.1 hE)) h.Ξ.g) fc eX
def Sim.put(h:Sim e U w0 S0 nt σ a w S L){α:A}{v:Value}(hv:aw w S L α v){dst:GM}(hd:∀d,dst=some d->d<nt):Sim e U w0 S0 nt ⟨aD σ.s dst α,σ.m⟩ (a.put dst v) w S L:=by
 cases dst with
 |none=>exact h
 |some d =>
  refine⟨h.Ξ,λt=>?_,by simp[Act.put,h.size],by simp[Act.put,h.defers],h.kept⟩;rw[tY (by rw[h.size];exact hd d rfl:d<a.tmps.size)];simp only[aD,gs];split
  ·exact hv
  ·exact h.rel t
def Sim.later(h:Sim e U w0 S0 nt σ a w S L)(hC:Cls e U w0.heap.size S0 σ.m w' S' L)(hk:Kept e.D e.E w.heap.size w w')(hS:∀b,S b->S' b):Sim e U w0 S0 nt σ a w' S' L :=
 ⟨hC,λt=>(h.rel t).Ε hk.size (h.Ξ.cell hk) hS,h.size,h.defers,h.kept.trans ⟨hk.os,hk.tape,hk.output,hk.drawn,hk.size,λb hb hE=>hk.block b (by have:=h.Ξ.bsz;omega) (λh1=>hE (.inl h1))⟩⟩
def Sim.bornE(h:Sim e U w0 S0 nt σ a w S L){d:Nat}(hd:d<nt){bk:Bk}{b':Nat}{v':Value}{s1:d3}{m1:it}{α:A}(hS:∀b,S b->S' b)(ky:∀b,S' b->S b\/(w.heap.size<=b/\b<w'.heap.size))
  (mV:∀t,(gs s1 t=gs σ.s t)\/gs s1 t=.undef) (mw:∀k x,gm m1 k=some x->gm σ.m k=some x)
  (G9:∀g,τ=some g->¬S g/\¬e.E g/\(w0.heap.size<=g\/U g)) (lO:∀k x g,k≠d->gm m1 k=some x->τ=some g->¬dh L k x g)
  (hk:Kept e.D (λb=>e.E b\/τ=some b) w.heap.size w w') (hg:e.G w') (fc:b6 w' S' ⟨λt=>if t=d then b' else L.b t,λt=>if t=d then v' else L.v t⟩ d bk)
  (eX:∀g,dh ⟨λt=>if t=d then b' else L.b t,λt=>if t=d then v' else L.v t⟩ d bk g->τ=some g\/w.heap.size<=g)
  (G8:aw w' S' ⟨λt=>if t=d then b' else L.b t,λt=>if t=d then v' else L.v t⟩ α u) :
  aS e U w0 S0 nt ⟨(d,α)::bX d s1,(d,bk)::aA d m1⟩ (a.put (some d) u) w':=by
 have am:d<a.tmps.size:=by rw[h.size];exact hd
 obtain⟨t1,t2,t3⟩:=h.touchE (d:=d) (bk:=bk) (m':=(d,bk)::aA d m1) (w':=w') (L':=⟨λt=>if t=d then b' else L.b t,λt=>if t=d then v' else L.v t⟩) (τ:=τ) hS ky
  (λk x cl hx=>by simp only[gm,cl,if_false,gq]at hx;exact mw k x hx) (by simp[gm]) (λk cl=>by simp[cl]) G9
  (λk x g cl hx=>lO k x g cl (by simpa only[gm,cl,if_false,gq]using hx)) hk hg fc eX
 refine⟨S',_,t1,λt=>?_,by simp[Act.put,h.size],by simp[Act.put,h.defers],t2⟩;rw[tY am];simp only[gs];by_cases ht:t=d
 ·simp only[ht,if_true];exact G8
 ·simp only[ht,if_false];rcases Bb d t s1 with⟨h1,h2⟩|h1
  ·rw[h1];rcases mV t with h3|h3
   ·rw[h3];rw[h3]at h2;exact t3 _ _ (λh=>absurd h h2) (h.rel t)
   ·rw[h3];trivial
  ·rw[h1];trivial
def Sim.born(h:Sim e U w0 S0 nt σ a w S L)(he:e.Ok){d:Nat}(hd:d<nt){bk:Bk}{b':Nat}{v':Value}{s1:d3}{m1:it}{α:A}(hS:∀b,S b->S' b)(ky:∀b,S' b->S b\/(w.heap.size<=b/\b<w'.heap.size))
  (mV:∀t,(gs s1 t=gs σ.s t)\/gs s1 t=.undef) (mw:∀k x,gm m1 k=some x->gm σ.m k=some x)
  (G9:∀g,τ=some g->¬S g/\¬e.E g/\(w0.heap.size<=g\/U g)) (lO:∀k x g,k≠d->gm m1 k=some x->τ=some g->¬dh L k x g)
  (hk:Kept e.D (λb=>τ=some b) w.heap.size w w') (fc:b6 w' S' ⟨λt=>if t=d then b' else L.b t,λt=>if t=d then v' else L.v t⟩ d bk)
  (eX:∀g,dh ⟨λt=>if t=d then b' else L.b t,λt=>if t=d then v' else L.v t⟩ d bk g->τ=some g\/w.heap.size<=g)
  (G8:aw w' S' ⟨λt=>if t=d then b' else L.b t,λt=>if t=d then v' else L.v t⟩ α u) :
  aS e U w0 S0 nt ⟨(d,α)::bX d s1,(d,bk)::aA d m1⟩ (a.put (some d) u) w':=by
 have sE:=h.Ξ.bsz;exact h.bornE hd hS ky mV mw G9 lO ⟨hk.os,hk.tape,hk.output,hk.drawn,hk.size,λb hb hE=>hk.block b hb (λht=>hE (.inr ht))⟩ (he.Ε _ _ hk.size (λb hE=>hk.block b (Tbd (h.Ξ.ein b hE) sE) (λht=>(G9 b ht).2.1 hE)) h.Ξ.g) fc eX G8
def Sim.new(h:Sim e U w0 S0 nt σ a w S L)(he:e.Ok){d:Nat}(hd:d<nt){us:Array Value}{cs:we}{ty:TypeId}(hu:aC w S cs us.toList) :
  aS e U w0 S0 nt ⟨(d,.ref d 0)::bX d σ.s,(d,.var none cs)::aA d σ.m⟩ (a.put (some d) (.pointer (some ⟨w.heap.size,0,none⟩))) (w.alloc (.cells us ty)):=by
 have hb:Below w.heap.size w (w.alloc (.cells us ty)):=yF w _;have lM:∀b o,S b->(w.alloc (.cells us ty)).cell? ⟨b,o,none⟩=w.cell? ⟨b,o,none⟩:=λb o hs=>rq (hb.block b (h.Ξ.sin b hs).1) o;refine h.born he hd (τ:=none) (b':=w.heap.size) (v':=undef) (λ_ h=>h) (λ_ h=>.inl h) (λt=>.inl rfl) (λk x h=>h) (by simp) (by simp) (Kept.of_below hb (λ_=>Tai _)) ?_ ?_ ?_
 ·simp only[b6,if_true];refine⟨by simp,by simp,λhs=>by have:=(h.Ξ.sin _ hs).1;omega,⟨us,ty,heap_alloc_new w _,by have:=hu.len;simpa using this⟩,?_⟩;have hv:=aC.keep2 hb.size lM (λ_ h=>h) hu;exact a8.of_vals cs us.toList 0 hv (λj u hj=>by rw[Nat.zero_add];exact ZpG rfl (by simpa using hj))
 ·intro g hg;simp only[dh,if_true]at hg;exact .inr om
 ·simp[aw]
def Sim.store(h:Sim e U w0 S0 nt σ a w S L)(he:e.Ok){o:GM}{cs us:we}{vs:GK}(hm:gm σ.m k=some (.var o cs))(hl:off+us.length<=cs.length)(hu:aC w S us vs)(h1:∀v∈vs,v.oneCell') :
  ∃w',(storeCells ⟨L.b k,off,none⟩ vs).run e.P w=.ok () w'/\aS e U w0 S0 nt ⟨σ.s,(k,.var o (cs.take off++us++cs.drop (off+us.length)))::aA k σ.m⟩ a w':=by
 have ho:=h.Ξ.own k _ hm;obtain⟨pO,iG,uX,⟨oX,ty,tu,hb5⟩,hb6⟩:=ho;have jN:=hu.len;have aZ:=run_storeCells_at e.P (L.b k) off ty vs 0 oX w tu (by rw[hb5];omega) h1;simp only[Nat.add_zero]at aZ;have bn:=Zgc w (L.b k) off ty vs oX tu (by rw[hb5];omega);refine⟨_,aZ,?_⟩;have dl:=setRow_heap w (L.b k) oX (oX.toList.take off++vs++oX.toList.drop (off+vs.length)).toArray ty _ tu
 have ev:(w.setRow (L.b k) (oX.toList.take off++vs++oX.toList.drop (off+vs.length)).toArray).drawn=w.drawn:=Ze7 _ _ _;generalize hW:w.setRow (L.b k) (oX.toList.take off++vs++oX.toList.drop (off+vs.length)).toArray=W at bn dl ev⊢;have bP:W.heap.size=w.heap.size:=bn.size;have lM:∀b o,S b->W.cell? ⟨b,o,none⟩=w.cell? ⟨b,o,none⟩:=λb o hs=>rq (bn.other b (λe=>uX (e▸hs))) o;have fc:b6 W S L k (.var o (cs.take off++us++cs.drop (off+us.length))):=by
  simp only[b6];refine⟨pO,om,uX,⟨_,ty,dl,by simp;omega⟩,?_⟩;have hz:w.heap.size<=W.heap.size:=om;have r1:=a8.keepAt (S':=S) hz lM (λ_ h=>h) (L.b k) 0 (cs.take off) (λj hj=>bn.old _ (.inl (by simp at hj;omega))) (hb6.take off);have r2:a8 W S (L.b k) off us:=a8.of_vals us vs off (aC.keep2 hz lM (λ_ h=>h) hu) bn.new;have r3:=a8.keepAt (S':=S) hz lM (λ_ h=>h) (L.b k) _ (cs.drop (off+us.length)) (λj hj=>bn.old _ (.inr om)) (hb6.drop (off+us.length))
  have d4:(cs.take off).length=off:=by simp;omega
  refine a8.append _ _ 0 (a8.append _ _ 0 r1 (by rw[d4,Nat.zero_add];exact r2)) ?_;rw[Tae,d4];exact r3
 obtain⟨t1,t2,t3⟩:=h.touch he (d:=k) (bk:=.var o (cs.take off++us++cs.drop (off+us.length))) (m':=(k,.var o (cs.take off++us++cs.drop (off+us.length)))::aA k σ.m) (w':=W) (L':=L) (τ:=some (L.b k)) (λ_ h=>h) (λ_ h=>.inl h)
  (λk' x cl hx=>by simp only[gm,cl,if_false,gq]at hx;exact hx) (by simp[gm]) (λ_ _=>⟨rfl,rfl⟩)
  (λg hg=>by injection hg with hg;subst hg;exact⟨uX,h.Ξ.notE hm rfl,h.Ξ.mine k _ _ hm rfl⟩)
  (λk' x g cl hx hg hb=>by
   injection hg with hg;subst hg
   simp only[gm,cl,if_false,gq]at hx;exact cl (h.Ξ.inj k' k x _ _ hx hm hb rfl))
  ⟨bn.os,bn.tape,bn.output,λ_=>Nat.le_of_eq ev.symm,om,λb hb hE=>bn.other b (λeq=>hE (by rw[eq]))⟩ fc (λg hg=>.inl (by simpa[dh]using hg))
 exact⟨S,L,t1,λt=>t3 _ _ (λ_=>⟨rfl,rfl⟩) (h.rel t),h.size,h.defers,t2⟩
def Zsx{n:Nat}:∀{rows:sh}{j:Nat}{r r':we},rowsLen n rows->rows[j]?=some r->r'.length=n->(rows.set j r').flatten=rows.flatten.take (j*n)++r'++rows.flatten.drop (j*n+n)
 |[],_,_,_,_,h,_=>by simp at h
 |x::xs,0,r,r',hl,h,hr=>by
  simp only[List.set_cons_zero,List.flatten_cons,Nat.zero_mul,List.take_zero,Tah,Nat.zero_add];rw[<- ((hl x (by simp)).1),List.drop_left]
 |x::xs,j+1,r,r',hl,h,hr=>by
  have hx:=(hl x (by simp)).1;have ih:=Zsx (n:=n) (rows:=xs) (j:=j) (r:=r) (r':=r') (λy hy=>hl y (by simp[hy])) (by simpa using h) hr;simp only[List.set_cons_succ,List.flatten_cons,ih];have e1:(j+1)*n=x.length+j*n:=by rw[hx,Nat.add_mul];omega
  have e3:(x++xs.flatten).drop ((j+1)*n+n)=xs.flatten.drop (j*n+n):=by rw[e1,Tby,List.drop_length_add_append]
  rw[(by rw[e1,List.take_length_add_append]:(x++xs.flatten).take ((j+1)*n)=x++xs.flatten.take (j*n)),e3];simp only[Tbg]
def Sim.storeRow (h:Sim e U w0 S0 nt σ a w S L) (he:e.Ok) {o:Option (BY×Nat)} {j g:Nat} {rows:sh} {r us:we} {vs:GK} (hm:gm σ.m k=some (.Υ o ety sz rows)) (hr:rows[j]?=some r) (hg:aO (L.v k)=some g) (hl:off+us.length<=r.length) (hu:aC w S us vs) (h1:us.all bQ) :
  ∃w',(storeCells ⟨g,j*sz+off,none⟩ vs).run e.P w=.ok () w'/\aS e U w0 S0 nt ⟨σ.s,(k,.Υ o ety sz (rows.set j (r.take off++us++r.drop (off+us.length))))::aA k σ.m⟩ a w':=by
 obtain⟨pO,gv,c9,h3⟩:=h.Ξ.own k _ hm;have jN:=hu.len;rcases h3 with⟨h3,_⟩|⟨g',cap,bf,hv,Gi,hg1,sG,kh,bh,tx,gc,cn⟩
 ·rw[h3]at hr;simp at hr
 ·have hgg:g'=g:=by rw[hv]at hg;simp only[aO]at hg;rw[if_neg om]at hg;injection hg
  subst hgg;have nB:=(c9 r (Tac hr));have lJ:j<rows.length:=(Tad.1 hr).1;have nN:=qL c9;have dD:j*sz+sz<=rows.length*sz:=by have:=Nat.mul_le_mul_right sz (show j+1<=rows.length by omega);rw[Nat.add_mul]at this;omega
  have hin2:rows.length*sz<=cap*sz:=Nat.mul_le_mul_right sz bh;have aZ:=run_storeCells_at e.P g' (j*sz+off) ety vs 0 bf w kh (by rw[gc];omega) (Ff h1 hu);simp only[Nat.add_zero]at aZ;have bn:=Zgc w g' (j*sz+off) ety vs bf kh (by rw[gc];omega);refine⟨_,aZ,?_⟩;have dl:=setRow_heap w g' bf (bf.toList.take (j*sz+off)++vs++bf.toList.drop (j*sz+off+vs.length)).toArray ety _ kh
  have ev:(w.setRow g' (bf.toList.take (j*sz+off)++vs++bf.toList.drop (j*sz+off+vs.length)).toArray).drawn=w.drawn:=Ze7 _ _ _;generalize hW:w.setRow g' (bf.toList.take (j*sz+off)++vs++bf.toList.drop (j*sz+off+vs.length)).toArray=W at bn dl ev⊢;have bP:W.heap.size=w.heap.size:=bn.size;have lM:∀b o,S b->W.cell? ⟨b,o,none⟩=w.cell? ⟨b,o,none⟩:=λb o hs=>rq (bn.other b (λe=>sG (e▸hs))) o
  have tv:dh L k (.Υ o ety sz rows) g':=hg;have DV:(r.take off++us++r.drop (off+us.length)).length=sz:=by simp;omega
  have fc:b6 W S L k (.Υ o ety sz (rows.set j (r.take off++us++r.drop (off+us.length)))):=by
   simp only[b6];refine⟨λa ha=>by rw[pO a ha];simp,gv,λx hx=>?_,.inr ⟨g',cap,_,by rw[hv];simp,Gi,om,sG,dl,by simp;omega,tx,by simp;omega,?_⟩⟩
   ·rcases List.mem_or_eq_of_mem_set hx with hx|rfl
    ·exact c9 x hx
    ·refine⟨DV,?_⟩;simp only[List.all_append,h1,Tar,and_true];exact⟨List.all_eq_true.2 λy hy=>List.all_eq_true.1 nB.2 y (List.mem_of_mem_take hy),List.all_eq_true.2 λy hy=>List.all_eq_true.1 nB.2 y (List.mem_of_mem_drop hy)⟩
   ·apply ct.of_flat;rw[Zsx c9 hr DV];have hz:w.heap.size<=W.heap.size:=om;have hf:=cn.flat;have rr:=ct.get rows 0 j r (λx hx=>(c9 x hx).1) cn hr;rw[Nat.zero_add]at rr;have r1:=a8.keepAt (S':=S) hz lM (λ_ h=>h) g' 0 (rows.flatten.take (j*sz)) (λi hi=>bn.old _ (.inl (by simp at hi;omega))) (hf.take (j*sz));have r2:=a8.keepAt (S':=S) hz lM (λ_ h=>h) g' (j*sz) (r.take off) (λi hi=>bn.old _ (.inl (by simp at hi;omega))) (rr.take off)
    have r3:a8 W S g' (j*sz+off) us:=a8.of_vals us vs _ (aC.keep2 hz lM (λ_ h=>h) hu) bn.new;have r4:=a8.keepAt (S':=S) hz lM (λ_ h=>h) g' _ (r.drop (off+us.length)) (λi hi=>bn.old _ (.inr om)) (rr.drop (off+us.length));have r5:=a8.keepAt (S':=S) hz lM (λ_ h=>h) g' _ (rows.flatten.drop (j*sz+sz)) (λi hi=>bn.old _ (.inr om)) (hf.drop (j*sz+sz));have l1:(rows.flatten.take (j*sz)).length=j*sz:=by rw[Taw,nN];omega
    have l2:(r.take off).length=off:=by simp;omega
    have l3:(r.take off++us).length=off+us.length:=by simp;omega
    refine a8.append _ _ 0 (a8.append _ _ 0 r1 ?_) ?_
    ·rw[l1,Nat.zero_add];refine a8.append _ _ _ (a8.append _ _ _ r2 ?_) ?_
     ·rw[l2];exact r3
     ·rw[l3];exact r4
    ·rw[Tae,l1,DV];exact r5
  obtain⟨t1,t2,t3⟩:=h.touch he (d:=k) (bk:=.Υ o ety sz (rows.set j (r.take off++us++r.drop (off+us.length)))) (m':=(k,.Υ o ety sz (rows.set j (r.take off++us++r.drop (off+us.length))))::aA k σ.m) (w':=W) (L':=L) (τ:=some g') (λ_ h=>h) (λ_ h=>.inl h)
   (λk' x cl hx=>by simp only[gm,cl,if_false,gq]at hx;exact hx) (by simp[gm]) (λ_ _=>⟨rfl,rfl⟩)
   (λq hq=>by injection hq with hq;subst hq;exact⟨sG,h.Ξ.notE hm tv,h.Ξ.mine k _ _ hm tv⟩)
   (λk' x q cl hx hq hb=>by
    injection hq with hq;subst hq
    simp only[gm,cl,if_false,gq]at hx;exact cl (h.Ξ.inj k' k x _ _ hx hm hb tv))
   ⟨bn.os,bn.tape,bn.output,λ_=>Nat.le_of_eq ev.symm,om,λb hb hE=>bn.other b (λeq=>hE (by rw[eq]))⟩ fc (λq hq=>.inl (by rw[<- hq];exact hg.symm))
  exact⟨S,L,t1,λt=>t3 _ _ (λ_=>⟨rfl,rfl⟩) (h.rel t),h.size,h.defers,t2⟩
end
def m229(h:G3:=by
 rcases Bb k t σ.s with⟨h1,_⟩|h1
 ·exact .inl h1
 ·exact .inr h1):G3:=h
section
variable{e:Env}{U:GO}{w0:World}{S0:GO}{nt:Nat}{σ:St}{a:Act}{w:World}{S:GO}{L:Lay}{o:Oper}
def ZpL(k:Nat)(bk:Bk)(t:Nat):∀(s:d3),gs (io k bk s) t=im k bk (gs s t)
 |[]=>by simp[io,gs,im]
 |(t',x)::r=>by
  simp only[io,gs];split
  ·rfl
  ·exact ZpL k bk t r
def eO.rep{rows:sh}{v:Value}(h:eO w S ety sz rows v):aR w (λb=>S b\/aO v=some b) (.sl rows) v:=by
 obtain⟨h1,h2,h3⟩:=h;simp only[aR];rcases h3 with⟨rfl,a,rfl⟩|⟨g,cap,bf,rfl,hc,hg,hs,hh,hl,hm,gc,hr⟩
 ·exact⟨a,0,0,rfl,rfl,Tai _,Taj _,λh=>absurd h (by decide)⟩
 ·refine⟨_,_,_,rfl,rfl,hl,hm,λ_=>⟨g,0,rfl,.inr ?_,hg,?_⟩⟩
  ·simp only[aO];rw[if_neg om]
  ·exact ct.of_flat (a8.keep2 (Tai _) (λ_ _ _=>rfl) (λ_ h=>.inl h) g (λ_=>rfl) 0 _ hr.flat)
def Sim.freeze2 (h:Sim e U w0 S0 nt σ a w S L) (he:e.Ok) {bk:Bk} (hm:gm σ.m k=some bk):∃S' L',Sim e U w0 S0 nt ⟨io k bk σ.s,aA k σ.m⟩ a w S' L'/\∀b,S' b↔S b\/dh L k bk b:=by
 have ho:=h.Ξ.own k bk hm;have dD:∀b,S b->S b\/dh L k bk b:=λ_ h=>.inl h;refine⟨λb=>S b\/dh L k bk b,L,⟨⟨λb hb=>?_,λb hb=>?_,h.Ξ.ein,h.Ξ.uin,h.Ξ.bsz,λk' x g hx hg=>?_,λk' x hx=>?_,λk1 k2 x x' g hx aW=>?_,h.Ξ.g⟩,λt=>?_,h.size,h.defers,h.kept⟩,λ_=>Iff.rfl⟩
 ·rcases hb with hb|hb
  ·exact h.Ξ.sin b hb
  ·exact⟨(ho.lt hb).1,h.Ξ.notE hm hb⟩
 ·rcases hb with hb|hb
  ·exact h.Ξ.sfr b hb
  ·rcases h.Ξ.mine k bk b hm hb with h1|h1
   ·exact .inr (.inl h1)
   ·exact .inr (.inr h1)
 ·rw[gq]at hx;split at hx
  ·cases hx
  ·exact h.Ξ.mine k' x g hx hg
 ·rw[gq]at hx;split at hx
  ·cases hx
  ·rename_i aP;have cr:=h.Ξ.own k' x hx;refine cr.Ε (Tai _) (λ_ _ _=>rfl) dD (λg hg=>⟨rfl,λhs=>?_⟩);rcases hs with hs|hs
   ·exact(cr.lt hg).2 hs
   ·exact aP (h.Ξ.inj k' k x bk g hx hm hg hs)
 ·rw[gq]at hx aW;split at hx
  ·cases hx
  ·split at aW
   ·cases aW
   ·exact h.Ξ.inj k1 k2 x x' g hx aW
 ·show aw w _ L (gs (io k bk σ.s) t) _;rw[ZpL];have hr:=h.rel t;generalize gs σ.s t=x at hr⊢;generalize a.tmps.getD t undef=v at hr⊢;have keep:aw w (λb=>S b\/dh L k bk b) L x v:=hr.Ε (Tai _) (λ_ _ _=>rfl) dD
  cases x with
  |undef=>trivial
  |no=>exact hr
  |d x=>exact keep
  |tup xs=>exact keep
  | ref k' off =>
   simp only[im];by_cases hk:k'=k
   ·simp only[hk,if_true];subst hk
    cases bk with
    |var o cs =>
     obtain⟨q0,q1,q2,q3,q4⟩:=ho;have hr:v=.pointer (some ⟨L.b k',off,none⟩):=hr;simp only[aw,aX,aR];refine⟨L.b k',off,hr,.inr rfl,q1,?_⟩;have:=q4.drop off;rw[Nat.zero_add]at this;exact a8.keep2 (Tai _) (λ_ _ _=>rfl) dD _ (λ_=>rfl) _ _ this
    |Υ o ety sz rows=>trivial
    |set E G=>trivial
   ·simp only[hk,if_false];exact hr
  | Υ k' =>
   simp only[im];by_cases hk:k'=k
   ·simp only[hk,if_true];subst hk
    cases bk with
    |var o cs=>trivial
    |set E G=>trivial
    |Υ o ety sz rows =>
     have hr:v=L.v k':=hr;rw[hr];exact eO.rep ho.2
   ·simp only[hk,if_false];exact hr
  |row k' j sz off =>
   simp only[im];by_cases hk:k'=k
   ·simp only[hk,if_true];trivial
   ·simp only[hk,if_false];exact hr
def Sim.freeze1(h:Sim e U w0 S0 nt σ a w S L)(he:e.Ok){bk:Bk}(hm:gm σ.m k=some bk):aS e U w0 S0 nt ⟨io k bk σ.s,aA k σ.m⟩ a w :=
 (h.freeze2 he hm).elim λS' q=>q.elim λL' q=>⟨S',L',q.1⟩
def aS.frz(h:aS e U w0 S0 nt σ a w)(he:e.Ok)(k:Nat):aS e U w0 S0 nt (frz k σ) a w:=by
 obtain⟨S,L,h'⟩:=id h;unfold Proofs.YtaenibhihgfehaaGreatDoor.frz xf;split
 ·rename_i bk hm;exact h'.freeze1 he hm
 ·exact h
def aS.frzs(he:e.Ok):∀(ks:GN)(σ:St),aS e U w0 S0 nt σ a w->aS e U w0 S0 nt (frzs ks σ) a w
 |[],σ,h=>h
 |k::ks,σ,h=>aS.frzs he ks _ (h.frz he k)
def Sim.rename(h:Sim e U w0 S0 nt σ a w S L)(he:e.Ok){o:Option (BY×Nat)}{d:Nat}{rows:sh}(hd:d<nt)(hm:gm σ.m k=some (.Υ o ety sz rows)):aS e U w0 S0 nt (ownE σ k d (.Υ o ety sz rows)) (a.put (some d) (L.v k)) w:=by
 have ho:=h.Ξ.own k _ hm;refine h.born he hd (τ:=aO (L.v k)) (b':=0) (v':=L.v k) (s1:=bX k σ.s) (m1:=aA k σ.m) (λ_ h=>h) (λ_ h=>.inl h) (λt=>?_) (λk' x hx=>?_) (λg hg=>⟨(ho.lt (g:=g) hg).2,h.Ξ.notE hm hg,h.Ξ.mine k _ g hm hg⟩) (λk' x g cl hx hg hb=>?_) (Kept.refl _ _ _ _) ?_ (λg hg=>.inl (by simpa[dh]using hg)) (by simp[aw])
 ·exact m229
 ·rw[gq]at hx;split at hx
  ·cases hx
  ·exact hx
 ·rw[gq]at hx;split at hx
  ·cases hx
  ·rename_i aP;exact aP (h.Ξ.inj k' k x _ g hx hm hb hg)
 ·simp only[b6,if_true];exact ho
def Sim.empty(h:Sim e U w0 S0 nt σ a w S L)(he:e.Ok){d:Nat}{v:Value}(hd:d<nt)(hs:0<sz)(hv:aX w S (.Ζ []) v):aS e U w0 S0 nt ⟨(d,.Υ d)::bX d σ.s,(d,.Υ none ety sz [])::aA d σ.m⟩ (a.put (some d) v) w:=by
 obtain⟨h1,b,n,rfl⟩:=hv;obtain⟨A,n',cap,hv,hn,_⟩:=h1.Η;injection hv with q1 q2 q3
 have qA:n=0:=by rw[q2];simpa using hn.symm
 subst qA;refine h.born he hd (τ:=none) (b':=0) (v':=.slice b 0 0) (λ_ h=>h) (λ_ h=>.inl h) (λt=>.inl rfl) (λk x h=>h) (by simp) (by simp) (Kept.refl _ _ _ _) ?_ (λg hg=>?_) (by simp[aw])
 ·simp only[b6,if_true];exact⟨by simp,hs,rowsLen.nil,.inl ⟨rfl,b,rfl⟩⟩
 ·simp only[dh,if_true]at hg
  cases b<;>simp[aO]at hg
end
def m192(h:G3:=by
 have h2:(rows.length+ys.length)*i.bytes<=1073741824*4096:=Nat.mul_le_mul hm30 om;omega):G3:=h
def m131(h:G3:=by
 exact run_firstCells_some w' sz rows.length _ _ _ aG (by rw[h5.len,qL hl]) (λj u hj=>by rw[hw,Addr.add_at];exact h6 j u hj)):G3:=h
def m110(h:G3:=by
 rw[gW];refine⟨_,_,aF,⟨gv,by simpa using rowsLen.nil,.inl ⟨by simp,b,rfl⟩⟩,none,Kept.refl _ _ _ _,by simp,λg hg=>?_⟩;cases b<;>simp[aO]at hg):G3:=h
section
variable{P:Program}{w:World}
def ZD9(ts:Array TypeId)(t ty e:TypeId)(i:TypeInfo)(z:Value)(h0:ts[0]?=some t)(h1:ts[1]?=some t)(ht:P.underlying t=some (.slice e))(hi:P.info? e=some i)(hz:i.zero=some z)(b:BY)(bV eu:Nat)(cp:GK)(x:Value)(n:Nat)(aG:GK)
  (kj:(Builtin.lenOf x).run P w=.ok n w) (mv:(Builtin.firstCells i.size bV (.slice b bV eu)).run P w.drew=.ok cp.toArray w.drew) (hf:(Builtin.firstCells i.size n x).run P w.drew=.ok aG.toArray w.drew) (hg:eu<bV+n) (h63:((bV+n:Nat):Int)<=9223372036854775807) (lI:Builtin.nextslicecap (bV+n) eu*i.bytes<=281474976710656) :
  (Builtin.append_ ts ty #[.slice b bV eu,x]).run P w=.ok (.slice (some ⟨w.heap.size,0,none⟩) (bV+n) (grownCap w (bV+n) eu e)) (w.drew.alloc (.cells (cp.toArray++aG.toArray++Builtin.zeroCells z.cells (grownCap w (bV+n) eu e-(bV+n))) e)):=by
 have hn:¬(bV+n<=eu):=om;have Do:¬(9223372036854775807<((bV:Int)+n)):=om;have Dn:¬(281474976710656<Builtin.nextslicecap (bV+n) eu*i.bytes):=om;have e1:cp.toArray++(aG.toArray++Builtin.zeroCells z.cells (grownCap w (bV+n) eu e-(bV+n)))=(cp++aG).toArray++Builtin.zeroCells z.cells (grownCap w (bV+n) eu e-(bV+n)):=by
  apply Array.toList_inj.1;simp
 unfold grownCap at e1;simp[Builtin.append_,h0,h1,run_underlying ht,sizeOf,typeInfo,zeroValue,hi,hz,kj,hn,Do,Dn,Question.forced,hf,mv,newRow,grownCap,e1]
def ZEa(ts:Array TypeId)(t ty e:TypeId)(i:TypeInfo)(h0:ts[0]?=some t)(h1:ts[1]?=some t)(ht:P.underlying t=some (.slice e))(hi:P.info? e=some i)(g bV eu:Nat)(bf:Array Value)(hg:w.heap[g]?=some (.cells bf e (0,0)))(x:Value)(n:Nat)(aG:GK)
  (kj:(Builtin.lenOf x).run P w=.ok n w) (hf:(Builtin.firstCells i.size n x).run P w=.ok aG.toArray w) (kX:∀u∈aG,u.oneCell') (js:bV+n<=eu) (lI:bV*i.size+aG.length<=bf.size) :
  (Builtin.append_ ts ty #[.slice (some ⟨g,0,none⟩) bV eu,x]).run P w=.ok (.slice (some ⟨g,0,none⟩) (bV+n) eu) (w.setRow g (bf.toList.take (bV*i.size)++aG++bf.toList.drop (bV*i.size+aG.length)).toArray):=by
 have aZ:=run_storeCells_at P g (bV*i.size) e aG 0 bf w hg (by simpa using lI) kX;simp only[Nat.add_zero]at aZ;simp[Builtin.append_,h0,h1,run_underlying ht,sizeOf,typeInfo,hi,kj,js,hf,Addr.add_lit,aZ]
def ZEb(ts:Array TypeId)(t ty e:TypeId)(i:TypeInfo)(h0:ts[0]?=some t)(h1:ts[1]?=some t)(ht:P.underlying t=some (.slice e))(hi:P.info? e=some i)(b:BY)(x:Value)
  (kj:(Builtin.lenOf x).run P w=.ok 0 w) (hf:(Builtin.firstCells i.size 0 x).run P w=.ok #[] w) :
  (Builtin.append_ ts ty #[.slice b 0 0,x]).run P w=.ok (.slice b 0 0) w:=by
 cases b<;>simp[Builtin.append_,h0,h1,run_underlying ht,sizeOf,typeInfo,hi,kj,hf,storeCells]
end
section
variable{e:Env}{U:GO}{w0:World}{S0:GO}{nt:Nat}{σ:St}{a:Act}{w:World}{S:GO}{L:Lay}{o:Oper}
def ZiK{rows:sh}{v:Value}(hl:rowsLen sz rows)(h:aR w S (.sl rows) v):∃(b:BY)(cap:Nat)(aG:GK),v=.slice b rows.length cap/\rows.length<=cap/\cap<=maxLen/\aC w S rows.flatten aG/\∀(P:Program)(w':World),(∀p,w'.cell? p=w.cell? p)->(Builtin.firstCells sz rows.length v).run P w'=.ok aG.toArray w':=by
 simp only[aR]at h;obtain⟨A,n,cap,rfl,hn,hc,hm,h4⟩:=h;subst hn;by_cases h0:0<rows.length
 ·obtain⟨b,off,rfl,hs,hb,hr⟩:=h4 h0;obtain⟨aG,h5,h6⟩:=hr.flat.vals;refine⟨_,_,aG,rfl,hc,hm,h5,λP w' hw=>?_⟩;exact m131
 ·have hr:rows=[]:=Tao om;subst hr;refine⟨_,_,[],rfl,hc,hm,by simp[aC],λP w' _=>?_⟩
  cases A<;>simp[Builtin.firstCells,loadCells,loadCellsFrom]
def Zk7{rows:sh}{v:Value}(h:eO w S ety sz rows v):∃(b:BY)(cap:Nat)(aG:GK),v=.slice b rows.length cap/\rows.length<=cap/\cap<=maxLen/\aC w S rows.flatten aG/\∀(P:Program)(w':World),(∀p,w'.cell? p=w.cell? p)->(Builtin.firstCells sz rows.length v).run P w'=.ok aG.toArray w':=by
 obtain⟨h1,hl,h3⟩:=h;rcases h3 with⟨rfl,b,rfl⟩|⟨g,cap,bf,rfl,hc,hg,hs,hh,u6,hm,gc,hr⟩
 ·refine⟨_,_,[],rfl,Tai _,Taj _,by simp[aC],λP w' _=>?_⟩
  cases b<;>simp[Builtin.firstCells,loadCells,loadCellsFrom]
 ·obtain⟨aG,h5,h6⟩:=hr.flat.vals;refine⟨_,_,aG,rfl,u6,hm,h5,λP w' hw=>?_⟩;exact m131
def Zk8 (hC:Cls e U w0.heap.size S0 σ.m w S L) {y:A} {v:Value} {ys:sh} (h:oI σ.m y=some ys) (hr:aw w S L y v) (hl:rowsLen sz ys) :
  ∃(b:BY)(cap:Nat)(aG:GK),v=.slice b ys.length cap/\aC w S ys.flatten aG/\∀(P:Program)(w':World),(∀p,w'.cell? p=w.cell? p)->(Builtin.firstCells sz ys.length v).run P w'=.ok aG.toArray w':=by
 unfold oI at h;split at h
 ·injection h with h;subst h
  obtain⟨b,cap,aG,q1,_,_,q2,q3⟩:=ZiK hl hr;exact⟨b,cap,aG,q1,q2,q3⟩
 ·injection h with h;subst h
  obtain⟨b,cap,aG,q1,_,_,q2,q3⟩:=ZiK hl hr.1;exact⟨b,cap,aG,q1,q2,q3⟩
 ·rename_i k;unfold rC at h;split at h
  ·rename_i o' e' lq rows' hm;injection h with h;subst h
   have hr:v=L.v k:=hr;have ho:eO w S e' lq rows' (L.v k):=(hC.own k _ hm).2;rw[hr];by_cases h0:rows'=[]
   ·subst h0;obtain⟨_,_,h3⟩:=ho;rcases h3 with⟨_,b,hv⟩|⟨g,cap,bf,hv,_⟩
    ·refine⟨b,0,[],hv,by simp[aC],λP w' _=>?_⟩;rw[hv]
     cases b<;>simp[Builtin.firstCells,loadCells,loadCellsFrom]
    ·refine⟨_,cap,[],hv,by simp[aC],λP w' _=>?_⟩;rw[hv];simp[Builtin.firstCells,loadCells,loadCellsFrom]
   ·have kZ:lq=sz:=by
     obtain⟨r,rV⟩:=List.exists_mem_of_ne_nil _ h0;have h1:=(hl r rV).1;have h2:=(ho.2.1 r rV).1;omega
    subst kZ;obtain⟨b,cap,aG,q1,_,_,q2,q3⟩:=Zk7 ho;exact⟨b,cap,aG,q1,q2,q3⟩
  ·cases h
 ·cases h
def ZiL(w:World)(p:Addr):w.drew.cell? p=w.cell? p:=by simp
def Zk9{W:World}{n:Nat}{rows:sh}{cells rest:GK}{w:World}(hs:0<sz)(hl:rowsLen sz rows)(hz:w.heap.size<=W.heap.size)(hk:∀b o,S b->W.cell? ⟨b,o,none⟩=w.cell? ⟨b,o,none⟩)(hr:aC w S rows.flatten cells)(hc:rows.length<=cap)(hm:cap<=maxLen)(h0:0<cap){g:Nat}(hg:g<W.heap.size)(hgs:¬S g)
  (hh:W.heap[g]?=some (.cells (cells++rest).toArray ety (0,0))) (gc:(cells++rest).length=cap*sz):eO W S ety sz rows (.slice (some ⟨g,0,none⟩) rows.length cap):=by
 refine⟨hs,hl,.inr ⟨g,cap,_,rfl,h0,hg,hgs,hh,hc,hm,by simpa using gc,?_⟩⟩;apply ct.of_flat;refine a8.of_vals _ _ 0 (aC.keep2 hz hk (λ_ h=>h) hr) (λj u hj=>?_);rw[Nat.zero_add];have mQ:j<cells.length:=(Tad.1 hj).1;unfold World.cell?;simp only[hh];simp[Tbq mQ,hj]
def Zge (he:e.Ok) (hC:Cls e U w0.heap.size S0 σ.m w S L) {ty:TypeId} {il:Nat} (h0:ts[0]?=some t) (h1:ts[1]?=some t) (hb:jT e.P t=some (ety,sz,il)) {rows ys:sh} {v:Value}
  (hv:eO w S ety sz rows v\/(aX w S (.Ζ rows) v/\(rows=[]\/ys≠[]))) (c9:rowsLen sz rows) (oH:rowsLen sz ys) (cw:rows.length+ys.length<=al)
  (hy:∃(b:BY)(cap:Nat)(aG:GK),u=.slice b ys.length cap/\aC w S ys.flatten aG/\∀(P:Program)(w':World),(∀p,w'.cell? p=w.cell? p)->(Builtin.firstCells sz ys.length u).run P w'=.ok aG.toArray w') :
  ∃v' w',(Builtin.append_ ts ty #[v,u]).run e.P w=.ok v' w'/\eO w' S ety sz (rows++ys) v'/\∃τ:GM,Kept e.D (λb=>τ=some b) w.heap.size w w'/\(∀g,τ=some g->aO v=some g/\eO w S ety sz rows v)/\(∀g,aO v'=some g->τ=some g\/w.heap.size<=g):=by
 obtain⟨i,z,hu,hi,hz,bP,tw,sK,gv,tu⟩:=A3 hb;obtain⟨yb,ycap,aG,yU,kU,hf⟩:=hy;have kj:∀w',(Builtin.lenOf u).run e.P w'=.ok ys.length w':=λw'=>by rw[yU];simp[Builtin.lenOf]
 have Aq:aG.length=ys.length*sz:=by rw[kU.len,qL oH]
 have kX:=Ff (Zmh oH) kU;have hm30:rows.length+ys.length<=1073741824:=cw;have nL:(rows.length+ys.length)*i.bytes<=140737488355328:=by
  exact m192
 have xD:rowsLen sz (rows++ys):=c9.append oH
 have grow:∀(b:BY)(cap:Nat)(cp:GK),v=.slice b rows.length cap->cap<rows.length+ys.length->aC w S rows.flatten cp->(∀(P:Program)(w':World),(∀p,w'.cell? p=w.cell? p)->(Builtin.firstCells sz rows.length v).run P w'=.ok cp.toArray w') ->
   ∃v' w',(Builtin.append_ ts ty #[v,u]).run e.P w=.ok v' w'/\eO w' S ety sz (rows++ys) v'/\∃τ:GM,Kept e.D (λb=>τ=some b) w.heap.size w w'/\(∀g,τ=some g->aO v=some g/\eO w S ety sz rows v)/\(∀g,aO v'=some g->τ=some g\/w.heap.size<=g):=by
  intro b cap cp hv am pX mv;have h63:rows.length+ys.length<=maxLen:=by unfold maxLen;omega
  have aF:=ZD9 ts t ty ety i z h0 h1 hu hi hz b rows.length cap cp u ys.length aG (kj w) (by rw[bP,<- hv];exact mv _ _ (ZiL w)) (by rw[bP];exact hf _ _ (ZiL w)) am om (growslice_fits om nL);rw[<- hv]at aF;have Gk:=grownCap_ge w (rows.length+ys.length) cap ety;have iv:=grownCap_le_maxLen w (rows.length+ys.length) cap ety h63;generalize tx:grownCap w (rows.length+ys.length) cap ety=nc at aF Gk iv
  have iH:cp.length=rows.length*sz:=by rw[pX.len,qL c9]
  have hk:Kept e.D (λb=>(none:GM)=some b) w.heap.size w (w.drew.alloc (.cells (cp.toArray++aG.toArray++Builtin.zeroCells z.cells (nc-(rows.length+ys.length))) ety)) :=
   ⟨rfl,rfl,rfl,λ_=>Nat.le_succ _,by simp,λk hk _=>heap_alloc_old w.drew _ hk⟩
  have dl:=heap_alloc_new w.drew (.cells (cp.toArray++aG.toArray++Builtin.zeroCells z.cells (nc-(rows.length+ys.length))) ety);have BR:(w.drew.alloc (.cells (cp.toArray++aG.toArray++Builtin.zeroCells z.cells (nc-(rows.length+ys.length))) ety)).heap.size=w.heap.size+1:=by simp
  have e1:cp.toArray++aG.toArray++Builtin.zeroCells z.cells (nc-(rows.length+ys.length))=((cp++aG)++(Builtin.zeroCells z.cells (nc-(rows.length+ys.length))).toList).toArray:=by
   apply Array.toList_inj.1;simp
  rw[e1]at aF hk dl BR;generalize w.drew.alloc (.cells ((cp++aG)++(Builtin.zeroCells z.cells (nc-(rows.length+ys.length))).toList).toArray ety)=W at aF hk dl BR;refine⟨_,_,aF,?_,none,hk,by simp,λg hg=>?_⟩
  ·have bh:rows.length+ys.length=(rows++ys).length:=by simp
   rw[bh];refine Zk9 (w:=w) (cells:=cp++aG) (rest:=(Builtin.zeroCells z.cells (nc-(rows.length+ys.length))).toList) (n:=0) gv xD hk.size (λb o hs=>rq (hk.block b (hC.sin b hs).1 (by simp)) o) ?_ (by simp;omega) iv om (g:=w.heap.size) om (λhs=>by have:=(hC.sin _ hs).1;omega) ?_ ?_
   ·rw[List.flatten_append];exact aC.app pX kU
   ·exact dl
   ·simp only[Tae,Array.length_toList,size_zeroCells,sK,iH,Aq,<- Nat.add_mul];congr 1;omega
  ·simp only[aO]at hg;split at hg
   ·cases hg
   ·injection hg with hg;exact .inr om
 have ye:∀(b:BY),rows=[]->ys=[]->v=.slice b 0 0->∃v' w',(Builtin.append_ ts ty #[v,u]).run e.P w=.ok v' w'/\eO w' S ety sz (rows++ys) v'/\∃τ:GM,Kept e.D (λb=>τ=some b) w.heap.size w w'/\(∀g,τ=some g->aO v=some g/\eO w S ety sz rows v)/\(∀g,aO v'=some g->τ=some g\/w.heap.size<=g):=by
  intro b hr hy gW;subst hr hy;have qA:aG=[]:=Tao (by simpa using Aq);have aF:=ZEb (P:=e.P) (w:=w) ts t ty ety i h0 h1 hu hi b u (kj w) (by rw[bP];have:=hf e.P w (λ_=>rfl);rw[qA]at this;simpa using this);exact m110
 rcases hv with hv|⟨hv,aP⟩
 ·have vf:=hv;obtain⟨_,_,h3⟩:=hv;rcases h3 with⟨hr,b,gW⟩|⟨g,cap,bf,gW,hc,hg,hs,hh,u6,hm,gc,hr⟩
  ·by_cases vh:ys=[]
   ·exact ye b hr vh gW
   ·have xL:0<ys.length:=List.length_pos_iff.2 vh;subst hr;refine grow b 0 [] gW (by simpa using xL) (by simp[aC]) (λP w' _=>?_);rw[gW]
    cases b<;>simp[Builtin.firstCells,loadCells,loadCellsFrom]
  ·by_cases js:rows.length+ys.length<=cap
   ·have lI:rows.length*i.size+aG.length<=bf.size:=by rw[Aq,bP,gc,<- Nat.add_mul];exact Nat.mul_le_mul_right _ js
    have aF:=ZEa (P:=e.P) (w:=w) ts t ty ety i h0 h1 hu hi g rows.length cap bf hh u ys.length aG (kj w) (by rw[bP];exact hf _ _ (λ_=>rfl)) kX js lI;rw[<- gW]at aF;rw[bP]at aF lI;have bn:=Zgc w g (rows.length*sz) ety aG bf hh lI;have dl:=setRow_heap w g bf (bf.toList.take (rows.length*sz)++aG++bf.toList.drop (rows.length*sz+aG.length)).toArray ety _ hh
    have ev:(w.setRow g (bf.toList.take (rows.length*sz)++aG++bf.toList.drop (rows.length*sz+aG.length)).toArray).drawn=w.drawn:=Ze7 _ _ _;generalize hW:w.setRow g (bf.toList.take (rows.length*sz)++aG++bf.toList.drop (rows.length*sz+aG.length)).toArray=W at aF bn dl ev;have hszW:W.heap.size=w.heap.size:=bn.size;have lM:∀b o,S b->W.cell? ⟨b,o,none⟩=w.cell? ⟨b,o,none⟩:=λb o wt=>rq (bn.other b (λe=>hs (e▸wt))) o
    refine⟨_,_,aF,⟨gv,xD,.inr ⟨g,cap,_,by simp,hc,om,hs,dl,by simpa using js,hm,by simp;omega,?_⟩⟩,some g,⟨bn.os,bn.tape,bn.output,λ_=>Nat.le_of_eq ev.symm,om,λb hb hE=>bn.other b (λeq=>hE (by rw[eq]))⟩,λq hq=>?_,λq hq=>?_⟩
    ·apply ct.of_flat;rw[List.flatten_append];have r1:=a8.keepAt (S':=S) om lM (λ_ h=>h) g 0 rows.flatten (λj hj=>bn.old _ (.inl (by rw[qL c9]at hj;omega))) hr.flat;refine a8.append _ _ 0 r1 ?_;rw[qL c9,Nat.zero_add];exact a8.of_vals _ aG _ (aC.keep2 om lM (λ_ h=>h) kU) bn.new
    ·injection hq with hq;subst hq
     exact⟨by rw[gW];simp only[aO];rw[if_neg om],vf⟩
    ·simp only[aO]at hq;rw[if_neg om]at hq;exact .inl hq
   ·obtain⟨b',bF,cp,q1,_,_,q2,q3⟩:=Zk7 vf;rw[gW]at q1;injection q1 with e1 e2 e3
    exact grow _ _ cp gW om q2 q3
 ·obtain⟨kY,b,n,gW⟩:=hv;obtain⟨b',bF,cp,q1,q2,q3,q4,q5⟩:=ZiK c9 kY;rw[gW]at q1;injection q1 with e1 e2 e3
  by_cases vh:ys=[]
  ·have hr:rows=[]:=by
    rcases aP with h|h
    ·exact h
    ·exact absurd vh h
   refine ye b hr vh ?_;rw[gW];have:n=0:=by rw[e2,hr];rfl
   rw[this]
  ·have xL:0<ys.length:=List.length_pos_iff.2 vh;exact grow b n cp (by rw[gW,e2]) om q4 q5
end
def Eu(h:G3:=by
 simp only[b6,if_true];exact⟨by simp,f9⟩):G3:=h
def m168(h:G3:=by
 unfold jU at hz;simp only[hi,Option.bind_some,sL,Option.map_some,Taq]at hz;exact hz.symm):G3:=h
def m42(h:G3:=by
 rcases q3 with⟨_,b',q4⟩|⟨g',cap,bf,q4,q5,q6,q7,_⟩
 ·rw[q4]at q1;cases b'<;>simp[aO]at q1
 ·obtain⟨A,n',bF,q8,q9,q10,q11,q12⟩:=by simpa only[aR]using r1
  rw[q4]at q8;injection q8 with z1 z2 z3
  by_cases qA:0<n'
  ·obtain⟨b2,off,z4,z5,_⟩:=q12 qA;rw[<- z1]at z4;injection z4 with z4
   injection z4 with z6
   exact q7 (by rw[z6];exact z5)
  ·rw[q4]at r2;injection r2 with y1 y2 y3
   omega):G3:=h
section
variable{e:Env}{U:GO}{w0:World}{S0:GO}{nt:Nat}{σ:St}{a:Act}{w:World}{S:GO}{L:Lay}{o:Oper}{Q:Exit->Act->World->Prop}
def EZ{x:A}{v:Value}{f:FuncId}{caps:we}(h:t8 x=some (f,caps))(hr:aw w S L x v):∃us:GK,v=.func (.func f) #[] us.toArray/\aC w S caps us:=by
 unfold t8 at h;split at h
 ·simp only[Taq,Prod.mk.injEq]at h;obtain⟨rfl,rfl⟩:=h;simpa[aw,aX,aR]using hr
 ·cases h
def Fa{c:Operand}(ho:o.op=.call ⟨.value c,args,ts⟩){C':Operand->Value}{f:FuncId}{us:GK}(hv:C' c=.func (.func f) #[] us.toArray)(hb:qN e.P f) :
  (execOp C' o).run e.P w=.ok (.enter f (args.toList.map C'++us).toArray) w:=by
 have ha:#[]++args.map C'++us.toArray=(args.toList.map C'++us).toArray:=by
  apply Array.toList_inj.1;simp
 unfold qN at hb;split at hb
 ·rename_i fn Ad;simp only[Tar,Bool.not_eq_true']at hb;obtain⟨f8,iG⟩:=hb;have uX:fn.body.isNone=false:=by rw[Option.isNone_eq_false_iff];exact iG
  simp only[execOp,ho,resolve,hv,Deferred.ofValue,invoke,callFunc,Sem.run_bind,Sem.run_pure,Result.andThen_ok,run_program,Ad,f8,uX,Tam,if_false];rw[<- ha]
 ·cases hb
def Znq{c:Operand}(ho:o.op=.call ⟨.value c,args,ts⟩):c∈o.op.operands/\∀x∈args.toList,x∈o.op.operands:=by
 refine⟨by simp[ho,Op.operands,Call.operands],λx hx=>?_⟩;simp[ho,Op.operands,Call.operands];exact .inr (by simpa using hx)
def Zoi{m:it}{base:Nat}{ρ:Operand->A}{c:Operand}(ho:o.op=.call ⟨.value c,args,ts⟩){f:FuncId}{caps:we}{xs r:AS}(hc:t8 (ρ c)=some (f,caps))(hx:mK (args.toList.map ρ)=some xs)(ca:aI e f (xs++caps.map .I) r) :
  iC e U base S0 m o ρ (aQ r):=by
 intro w S L C' hC hr;obtain⟨m1,m2⟩:=Znq ho;obtain⟨us,hv,d7⟩:=EZ hc (hr c m1);have bJ:dt w S xs (args.toList.map C'):=CB hx (by simp) (tR (λp hp=>hr p (m2 p hp)));obtain⟨fF,ca⟩:=ca;have iH:=ca w S _ hC.sin (λb hb=>Tbd (hC.ein b hb) hC.bsz) hC.g (bJ.append (dt.caps d7));unfold gives;rw[Fa ho hv fF];refine iH.mono λen w'⟨v,h1,h2,h3,h4⟩=>⟨v,h1,_,⟨λb hb=>.inl hb,λb hb=>hb.elim .inl (λq=>.inr q.1)⟩,hC.later h2 h3 (λb hb=>.inl hb) (λb hb=>hb),h2,?_⟩
 cases r with
 |nil=>exact h4
 |cons y ys =>
  cases ys with
  |nil=>exact h4
  |cons z zs=>exact h4
def Cu{α:A}(h:Sim e U w0 S0 nt σ a w S L)(hd:∀d,o.dst=some d->d<nt)(hG:iC e U w0.heap.size S0 σ.m o (aL σ.s) α):o.wp e.P a w (aS e U w0 S0 nt ⟨aD σ.s o.dst α,σ.m⟩) Q:=by
 refine ym (hG w S L a.eval h.Ξ (λx _=>h.eval x)) λv w'⟨S',hS,hC,hk,hr⟩=>?_;exact⟨S',L,(h.later hC hk hS.1).put hr hd⟩
def ZjS(h:aS e U w0 S0 nt σ a w)(he:e.Ok){y':St}(hf:eJ q ks σ=some y'):aS e U w0 S0 nt y' a w:=by
 unfold eJ at hf;split at hf
 ·injection hf with hf;subst hf;exact h
 ·split at hf
  ·cases hf
  ·injection hf with hf;subst hf;exact aS.frzs he _ _ h
def Zoj(z:Value)(sz:Nat)(hs:0<sz)(hz:z.cells.size=sz)(n:Nat):(madeCells z.cells (n*sz)).toList=(List.replicate n z).flatMap λv=>v.cells.toList:=by
 apply List.ext_getElem?;intro k;rw[Go.Great.flat_get hs (List.replicate n z) (λv hv=>by rw[List.eq_of_mem_replicate hv];exact hz) k];simp only[madeCells,Array.toList_map,Tba,Array.getElem?_toList,Array.getElem?_range];by_cases hk:k<n*sz
 ·have hd:k / sz<n:=(Nat.div_lt_iff_lt_mul hs).2 hk;have DP:k % sz<z.cells.size:=by rw[hz];exact Nat.mod_lt k hs
  simp[hk,hd,Tbs,hz,DP];rw[getElem!_pos z.cells (k % sz) DP,Array.getElem?_eq_getElem DP]
 ·have hd:¬k / sz<n:=λh=>hk ((Nat.div_lt_iff_lt_mul hs).1 h);simp[hk,hd,Tbs]
def Zla{z:Value}:∀(n:Nat),aC w S (List.replicate n (z.cells.toList.map ux)).flatten ((List.replicate n z).flatMap λv=>v.cells.toList)
 |0=>by simp[aC]
 |n+1=>by
  simp only[List.replicate_succ,List.flatten_cons,List.flatMap_cons];exact aC.app (AY _) (Zla n)
def Sim.made (h:Sim e U w0 S0 nt σ a w S L) (he:e.Ok) {d:Nat} (hd:d<nt) {l c:Operand} {y':St} (xr:o.dst=some d) (ho:o.op=.makeSlice t l c) (hp:CY e.P σ o.dst t (aL σ.s l) (aL σ.s c)=some y'):o.wp e.P a w (aS e U w0 S0 nt y') Q:=by
 rw[xr]at hp;unfold CY at hp;split at hp
 ·rename_i d' n n' ety sz il dG hl hc hb;injection dG with dG;subst dG
  split at hp
  ·rename_i zc hz;split at hp
   ·rename_i hcond;obtain⟨rfl,qA,nQ,xM⟩:=hcond;injection hp with hp;subst hp
    obtain⟨i,z,hu,hi,sL,bP,tw,sK,gv,tu⟩:=A3 hb;have hzc:zc=z.cells.toList.map ux:=by
     exact m168
    have int:∀(x:Operand)(k:Int),ju (aL σ.s x)=some k->a.eval x=.int .i64 k:=λx k hx=>by
     unfold ju at hx;split at hx
     ·rename_i j hj;injection hx with hx;subst hx
      have:=h.eval x;rw[hj]at this;exact lf this
     ·cases hx
    have e1:=int l n hl;have e2:=int c n hc;have hm:(n:Int)<=1073741824:=by have:=nQ;simpa[al]using this
    have nL:(i.bytes:Int)*n<=281474976710656:=by
     have h1:(i.bytes:Int)<=4096:=om;have:=Int.mul_le_mul h1 hm qA (by decide);omega
    have aF:=run_make (P:=e.P) w t ety i z hu hi sL .i64 .i64 n n qA (Int.le_refl _) nL om;rw[bP]at aF;have xo:=Zoj z sz gv sK n.toNat;have hk:Kept e.D (λb=>(none:GM)=some b) w.heap.size w (w.alloc (.cells (madeCells z.cells (n.toNat*sz)) ety)):=Kept.of_below (yF w _) (λ_=>Tai _);have dl:=heap_alloc_new w (.cells (madeCells z.cells (n.toNat*sz)) ety);have BR:(w.alloc (.cells (madeCells z.cells (n.toNat*sz)) ety)).heap.size=w.heap.size+1:=by simp
    have hsz2:(madeCells z.cells (n.toNat*sz)).size=n.toNat*sz:=size_madeCells _ _;generalize madeCells z.cells (n.toNat*sz)=mc at aF hk dl BR xo hsz2;generalize w.alloc (.cells mc ety)=W at aF hk dl BR;have c9:rowsLen sz (List.replicate n.toNat zc):=λr hr=>by
     rw[List.eq_of_mem_replicate hr];exact⟨by rw[hzc];simp[sK],xM⟩
    have f9:eO W S ety sz (List.replicate n.toNat zc) (.slice (some ⟨w.heap.size,0,none⟩) n.toNat n.toNat):=by
     by_cases h0:n.toNat=0
     ·rw[h0];exact⟨gv,rowsLen.nil,.inl ⟨rfl,_,rfl⟩⟩
     ·have u9:(List.replicate n.toNat zc).length=n.toNat:=by simp
      have:=Zk9 (S:=S) (W:=W) (w:=w) (ety:=ety) (n:=0) (rows:=List.replicate n.toNat zc) (cells:=mc.toList) (rest:=[]) (cap:=n.toNat) (g:=w.heap.size) gv c9 hk.size (λb o hs=>rq (hk.block b (h.Ξ.sin b hs).1 (by simp)) o) (by rw[xo,hzc];exact Zla _) om (by unfold maxLen;omega) om om (λhs=>by have:=(h.Ξ.sin _ hs).1;omega) (by simpa using dl) (by simpa using hsz2);rw[u9]at this
      exact this
    have fK:aS e U w0 S0 nt ⟨(d,.Υ d)::bX d σ.s,(d,.Υ none ety sz (List.replicate n.toNat zc))::aA d σ.m⟩ (a.put (some d) (.slice (some ⟨w.heap.size,0,none⟩) n.toNat n.toNat)) W:=by
     refine h.born he hd (τ:=none) (b':=0) (v':=.slice (some ⟨w.heap.size,0,none⟩) n.toNat n.toNat) (λ_ h=>h) (λ_ h=>.inl h) (λt=>.inl rfl) (λk x h=>h) (by simp) (by simp) hk ?_ (λg hg=>?_) (by simp[aw])
     ·exact Eu
     ·simp only[dh,if_true,aO]at hg;split at hg
      ·cases hg
      ·injection hg with hg;exact .inr om
    unfold Oper.wp;have hx:(execOp a.eval o).run e.P w=.ok (.value (.slice (some ⟨w.heap.size,0,none⟩) n.toNat n.toNat)) W:=by
     simp only[execOp,ho,Sem.run_bind,e1,e2,aF,Result.andThen_ok,Sem.run_pure]
    rw[hx,Oper.upon_value,xr];exact fK
   ·cases hp
  ·cases hp
 ·cases hp
def Sim.appended (h:Sim e U w0 S0 nt σ a w S L) (he:e.Ok) (hd:∀d,o.dst=some d->d<nt) {y':St} (ho:o.op=.call ⟨.builtin .append,args,ts⟩) (hp:Fr e.P σ o.dst ts (args.toList.map λx=>fz σ.m (aL σ.s x))=some y'):o.wp e.P a w (aS e U w0 S0 nt y') Q:=by
 unfold Fr at hp;split at hp
 ·rename_i d x y t bJ Ea tM;split at hp
  ·rename_i ht1;split at hp
   ·rename_i ety sz il ys hb Eb;split at hp
    ·rename_i hyb;obtain⟨p,q,hpq,ut,hqy⟩:=ZpK Ea;have et:=sv h.Ξ (h.eval p);have hq':=sv h.Ξ (h.eval q);rw[ut]at et;rw[hqy]at hq';have oH:=ov.1 hyb;have hy:=Zk8 h.Ξ Eb hq' oH;have bS:args.map a.eval=#[a.eval p,a.eval q]:=by
      apply Array.toList_inj.1;simp[hpq]
     obtain⟨i,z,hu,hi,hz,bP,tw,sK,gv,tu⟩:=A3 hb;have exec:∀v' w',(Builtin.append_ ts o.type #[a.eval p,a.eval q]).run e.P w=.ok v' w'->aS e U w0 S0 nt y' (a.put (some d) v') w'->o.wp e.P a w (aS e U w0 S0 nt y') Q:=by
      intro v' w' aF eD;unfold Oper.wp;have hx:(execOp a.eval o).run e.P w=.ok (.value v') w':=by
       simp only[execOp,ho,resolve,invoke,builtin,Sem.run_bind,Sem.run_pure,Result.andThen_ok,bS,aF]
      rw[hx,Oper.upon_value,bJ];exact eD
     split at hp
     ·rename_i k;split at hp
      ·cases hp
      ·rename_i aP;unfold Zju at hp;split at hp
       ·rename_i o' e' lq rows hm;split at hp
        ·rename_i hc;obtain⟨rfl,rfl,cw⟩:=hc;injection hp with hp;subst hp
         have cr:eO w S e' lq rows (L.v k):=(h.Ξ.own k _ hm).2;have hpv:a.eval p=L.v k:=et;obtain⟨v',w',aF,f9,τ,hk,G9,eX⟩:=Zge (ty:=o.type) (v:=a.eval p) (u:=a.eval q) he h.Ξ tM ht1 hb (.inl (by rw[hpv];exact cr)) cr.2.1 oH cw hy;refine exec v' w' aF ?_;refine h.born he (hd d bJ) (τ:=τ) (b':=0) (v':=v') (s1:=bX k σ.s) (m1:=aA k σ.m) (λ_ h=>h) (λ_ h=>.inl h) (λt=>?_) (λk' x hx=>?_) (λg hg=>?_) (λk' x g cl hx hg cu=>?_) hk ?_ (λg hg=>?_) (by simp[aw])
         ·exact m229
         ·rw[gq]at hx;split at hx
          ·cases hx
          ·exact hx
         ·have gh:=(G9 g hg).1;rw[hpv]at gh;exact⟨(b6.lt (k:=k) (L:=L) (bk:=.Υ none e' lq rows) ⟨by simp,cr⟩ gh).2,h.Ξ.notE hm gh,h.Ξ.mine k _ g hm gh⟩
         ·have gh:=(G9 g hg).1;rw[hpv]at gh;rw[gq]at hx;split at hx
          ·cases hx
          ·rename_i xz;exact xz (h.Ξ.inj k' k x _ g hx hm cu gh)
         ·exact Eu
         ·simp only[dh,if_true]at hg;exact eX g hg
        ·cases hp
       ·cases hp
     ·rename_i rows;split at hp
      ·rename_i hc;obtain⟨ez,cw,hem⟩:=hc;injection hp with hp;subst hp
       have hem':rows=[]\/ys≠[]:=by
        simp only[Bool.or_eq_true,List.isEmpty_iff,Bool.not_eq_true',List.isEmpty_eq_false_iff]at hem;exact hem
       obtain⟨v',w',aF,f9,τ,hk,G9,eX⟩:=Zge (ty:=o.type) (v:=a.eval p) (u:=a.eval q) he h.Ξ tM ht1 hb (.inr ⟨et,hem'⟩) (ov.1 ez) oH cw hy;refine exec v' w' aF ?_;have H9:∀g,τ=some g->False:=λg hg=>by
        obtain⟨q1,q2⟩:=G9 g hg;obtain⟨_,_,q3⟩:=q2;obtain⟨r1,b,n,r2⟩:=et;exact m42
       refine h.born he (hd d bJ) (τ:=none) (b':=0) (v':=v') (λ_ h=>h) (λ_ h=>.inl h) (λt=>.inl rfl) (λk' x hx=>hx) (by simp) (by simp) ⟨hk.os,hk.tape,hk.output,hk.drawn,hk.size,λb hb _=>hk.block b hb (λht=>H9 b ht)⟩ ?_ (λg hg=>?_) (by simp[aw])
       ·exact Eu
       ·simp only[dh,if_true]at hg;rcases eX g hg with h1|h1
        ·exact(H9 g h1).elim
        ·exact .inr h1
      ·cases hp
     ·cases hp
    ·cases hp
   ·cases hp
  ·cases hp
 ·cases hp
end
def EB(h:G3:=by
 rw[<- ho]at h1;exact putq y' _ h1 h2):G3:=h
def Ex(h:G3:=by
 rw[<- ho]at hp;exact Zlb he h hd hp):G3:=h
def m208(h:G3:=by
 simp[execOp,ho,Instr.alloc,zeroValue,typeInfo,hi,hv,newVar,newRow,Result.andThen]):G3:=h
def m36(h:G3:=by
 simp only[sR,Tav]at hn;obtain⟨i,hi,dD⟩:=hn;have bP:(a.eval y).cells.size=i.size:=by rw[dD,<- wq,<- h1.len,Array.length_toList]
 unfold Oper.wp;have aF:(execOp a.eval o).run e.P w=.ok .skip w':=by
  simp only[execOp,ho,h3,Instr.storeAt,Instr.sureAddr,Go.storeVar,Sem.run_bind,Sem.run_pure,Result.andThen_ok,sizeOf,typeInfo,hi,run_program,bP,ne_eq,not_true_eq_false,if_false,h4]
 rw[aF,Oper.upon_skip,bJ];rw[wq]at h5;exact h5):G3:=h
section
variable{e:Env}{U:GO}{w0:World}{S0:GO}{nt:Nat}{σ:St}{a:Act}{w:World}{S:GO}{L:Lay}{o:Oper}{Q:Exit->Act->World->Prop}
def Zsy(he:e.Ok)(h:aS e U w0 S0 nt σ a w)(hd:∀d,o.dst=some d->d<nt){y':St}(hp:sc σ o.dst (zK e.P σ.m (aL σ.s) o.op)=some y'):o.wp e.P a w (aS e U w0 S0 nt y') Q:=by
 obtain⟨S,L,h⟩:=h;unfold sc at hp;split at hp
 ·rename_i α G8;injection hp with hp;subst hp
  exact Cu h hd (ZmR he G8)
 ·cases hp
def Zlb(he:e.Ok)(h:aS e U w0 S0 nt σ a w)(hd:∀d,o.dst=some d->d<nt){y':St}(hp:Bs e.P o.dst o.op (eJ q ks σ)=some y'):o.wp e.P a w (aS e U w0 S0 nt y') Q:=by
 unfold Bs at hp;split at hp
 ·rename_i G7 hf;exact Zsy he (ZjS h he hf) hd hp
 ·cases hp
def ZHj(he:e.Ok)(h:aS e U w0 S0 nt σ a w)(hd:∀d,o.dst=some d->d<nt){y':St}(ho:o.op=.box t x)(hp:oe σ o.dst (pG (aL σ.s x))=some y'):o.wp e.P a w (aS e U w0 S0 nt y') Q:=by
 obtain⟨S,L,h⟩:=h;unfold oe at hp;split at hp
 ·rename_i d cs bJ hz;injection hp with hp;subst hp
  obtain⟨h1,_⟩:=Zfz hz (h.eval x);have hn:=h.new he (us:=(a.eval x).cells) (ty:=t) (hd d bJ) h1;unfold Oper.wp;have aF:(execOp a.eval o).run e.P w=.ok (.value (.pointer (some ⟨w.heap.size,0,none⟩))) (w.alloc (.cells (a.eval x).cells t)):=by
   simp[execOp,ho,Instr.box,newVar,newRow,Result.andThen]
  rw[aF,Oper.upon_value,bJ];exact hn
 ·cases hp
def ZEc(he:e.Ok)(h:aS e U w0 S0 nt σ a w)(hd:∀d,o.dst=some d->d<nt){y':St}(ho:o.op=.alloc t)(hp:oe σ o.dst (jU e.P t)=some y'):o.wp e.P a w (aS e U w0 S0 nt y') Q:=by
 obtain⟨S,L,h⟩:=h;unfold oe at hp;split at hp
 ·rename_i d cs bJ hz;injection hp with hp;subst hp
  unfold jU at hz;simp only[Tav,Option.bind_eq_some_iff]at hz;obtain⟨v,⟨i,hi,hv⟩,rfl⟩:=hz;have hn:=h.new he (us:=v.cells) (ty:=t) (hd d bJ) (AY v.cells.toList);unfold Oper.wp;have aF:(execOp a.eval o).run e.P w=.ok (.value (.pointer (some ⟨w.heap.size,0,none⟩))) (w.alloc (.cells v.cells t)):=by
   exact m208
  rw[aF,Oper.upon_value,bJ];exact hn
 ·cases hp
def ZEd (he:e.Ok) (h:aS e U w0 S0 nt σ a w) {y':St} (ho:o.op=.store t x y) (hp:FD σ o.dst (fz σ.m (aL σ.s x)) (pG (aL σ.s y)) (sR e.P t)=some y'):o.wp e.P a w (aS e U w0 S0 nt y') Q:=by
 obtain⟨S,L,h⟩:=h;unfold FD at hp;split at hp
 ·rename_i k off us n bJ hx hy hn;unfold Proofs.YtaenibhihgfehaaGreatDoor.storeVar at hp;split at hp
  ·rename_i o' cs hm';split at hp
   ·rename_i hc;injection hp with hp;subst hp
    obtain⟨wq,tG⟩:=hc;obtain⟨h1,h2⟩:=Zfz hy (h.eval y);have h3:=sv h.Ξ (h.eval x);rw[hx]at h3;have h3:a.eval x=.pointer (some ⟨L.b k,off,none⟩):=h3;obtain⟨w',h4,h5⟩:=h.store (off:=off) he hm' om h1 (Ff h2 h1);exact m36
   ·cases hp
  ·cases hp
 ·rename_i k j sz off us n bJ hx hy hn;unfold Proofs.YtaenibhihgfehaaGreatDoor.storeRow at hp;split at hp
  ·rename_i o' ety lq rows hm;split at hp
   ·rename_i kZ;subst kZ;split at hp
    ·rename_i r hr;split at hp
     ·rename_i hc;injection hp with hp;subst hp
      obtain⟨wq,tG⟩:=hc;obtain⟨h1,h2⟩:=Zfz hy (h.eval y);have h3:=sv h.Ξ (h.eval x);rw[hx]at h3;obtain⟨g,hg,h3⟩:=h3;obtain⟨w',h4,h5⟩:=h.storeRow (off:=off) he hm hr hg om h1 h2;exact m36
     ·cases hp
    ·cases hp
   ·cases hp
  ·cases hp
 ·cases hp
def ZzD (he:e.Ok) (h:aS e U w0 S0 nt σ a w) (hd:∀d,o.dst=some d->d<nt) {y':St} (ho:o.op=.assign x) (hp:wP e.P σ o.dst o.type (aL σ.s x)=some y'):o.wp e.P a w (aS e U w0 S0 nt y') Q:=by
 obtain⟨S,L,h⟩:=h;have aF:(execOp a.eval o).run e.P w=.ok (.value (a.eval x)) w:=by simp[execOp,ho]
 have hx:=h.eval x;unfold Oper.wp;rw[aF,Oper.upon_value];unfold wP at hp;split at hp
 ·rename_i d k bJ hk;rw[hk]at hx;have hx:a.eval x=L.v k:=hx;unfold Zmf at hp;split at hp
  ·rename_i o' ety sz rows hm;split at hp
   ·rename_i cl;subst cl;injection hp with hp;subst hp
    rw[bJ];exact⟨S,L,h.put (α:=.Υ k) hx (dst:=some k) (λd' dG=>by injection dG with dG;subst dG;exact hd _ bJ)⟩
   ·injection hp with hp;subst hp
    rw[bJ,hx];exact h.rename he (hd d bJ) hm
  ·cases hp
 ·rename_i d bJ hk;rw[hk]at hx;unfold xU at hp;split at hp
  ·rename_i ety sz il hb;injection hp with hp;subst hp
   obtain⟨i,z,hu,hi,hz,bP,tw,sK,gv,tu⟩:=A3 hb;rw[bJ];exact h.empty he (hd d bJ) gv hx
  ·injection hp with hp;subst hp
   rw[bJ];exact⟨S,L,h.put (α:=.d (.Ζ [])) hx (dst:=some d) (λd' dG=>by injection dG with dG;subst dG;exact hd _ bJ)⟩
 ·injection hp with hp;subst hp
  exact⟨S,L,h.put hx hd⟩
def ZEe(he:e.Ok)(h:aS e U w0 S0 nt σ a w)(hd:∀d,o.dst=some d->d<nt){y':St}(hp:yH e.P q σ o.dst o.type o.op=some y'):o.wp e.P a w (aS e U w0 S0 nt y') Q:=by
 unfold yH at hp;split at hp
 ·rename_i t ho;split at hp
  ·cases hp
  ·exact ZEc he h hd ho hp
 ·rename_i t x ho;split at hp
  ·cases hp
  ·unfold Zmg at hp;split at hp
   ·rename_i G7 hf;exact ZHj he (ZjS h he hf) hd ho hp
   ·cases hp
 ·rename_i t x y ho;split at hp
  ·cases hp
  ·unfold ZiJ at hp;split at hp
   ·rename_i G7 hf;exact ZEd he (ZjS h he hf) ho hp
   ·cases hp
 ·rename_i x ho;split at hp
  ·cases hp
  ·exact ZzD he h hd ho hp
 ·rename_i t l c ho;split at hp
  ·cases hp
  ·obtain⟨S,L,h⟩:=h
   cases bJ:o.dst with
   |none=>rw[bJ]at hp;simp[CY]at hp
   |some d=>exact h.made he (hd d bJ) bJ ho hp
 ·rename_i args ts ho;split at hp
  ·cases hp
  ·obtain⟨S,L,h⟩:=h;exact h.appended he hd ho hp
 ·rename_i t parts ho;exact Ex
 ·rename_i t n parts ho;exact Ex
 ·rename_i f fs caps ho;exact Ex
 ·exact Zsy he h hd hp
def jW(e:Env)(o:Oper)(σ:St)(K:GR):Prop:=e.Ok->∀(U:GO)(w0:World)(S0:GO)(nt:Nat)(a:Act)(w:World)(Q:Exit->Act->World->Prop),(∀d,o.dst=some d->d<nt)->aS e U w0 S0 nt σ a w->o.wp e.P a w (λa' w'=>∃y',K y'/\aS e U w0 S0 nt y' a' w') Q
def yq(e:Env)(o:Oper)(σ:St)(K:GR):Prop:=e.Ok->∃α,K ⟨aD σ.s o.dst α,σ.m⟩/\∀(U:GO)(base:Nat)(S0:GO),iC e U base S0 σ.m o (aL σ.s) α
def kI(e:Env)(σ:St)(P:GR):Prop:=e.Ok->∀(U:GO)(w0:World)(S0:GO)(nt:Nat)(a:Act)(w:World),aS e U w0 S0 nt σ a w->∃y',P y'/\aS e U w0 S0 nt y' a w
def Zr3(e:Env)(q:Bool)(o:Oper)(σ:St)(K:GR):Prop:=if q then yq e o σ K else jW e o σ K
end
section
variable{e:Env}{σ:St}{o:Oper}{K:GR}
def ZzE{y':St}(hp:yH e.P false σ o.dst o.type o.op=some y')(hK:K y'):jW e o σ K:=λhe U w0 S0 nt a w Q hd h=>Oper.wp_mono (λa' w' hs=>⟨y',hK,hs⟩) (ZEe he h hd hp)
def ZvX{y':St}(h1:yH e.P true σ o.dst o.type o.op=some y')(h2:K y'):yq e o σ K:=λhe=>by
 have put:∀(y':St),sc σ o.dst (zK e.P σ.m (aL σ.s) o.op)=some y'->K y'->∃α,K ⟨aD σ.s o.dst α,σ.m⟩/\∀(U:GO)(base:Nat)(S0:GO),iC e U base S0 σ.m o (aL σ.s) α:=λy' h1 h2=>by
  unfold sc at h1;split at h1
  ·rename_i α G8;injection h1 with h1;subst h1
   exact⟨α,h2,λU base S0=>ZmR he G8⟩
  ·cases h1
 have putq:∀(y':St)(ks:GN),Bs e.P o.dst o.op (eJ true ks σ)=some y'->K y'->∃α,K ⟨aD σ.s o.dst α,σ.m⟩/\∀(U:GO)(base:Nat)(S0:GO),iC e U base S0 σ.m o (aL σ.s) α:=λy' ks h1 h2=>by
  unfold Bs eJ at h1
  cases ks with
  |nil=>exact put y' h1 h2
  |cons k ks=>simp at h1
 unfold yH at h1;split at h1
 ·simp at h1
 ·simp at h1
 ·simp at h1
 ·simp at h1
 ·simp at h1
 ·simp at h1
 ·rename_i t parts ho;exact EB
 ·rename_i t n parts ho;exact EB
 ·rename_i f fs caps ho;exact EB
 ·exact put y' h1 h2
def Zqr{P:GR}(hT:kI e σ P)(h:∀y',P y'->jW e o y' K):jW e o σ K:=λhe U w0 S0 nt a w Q hd hs=>by
 obtain⟨y',h1,h2⟩:=hT he U w0 S0 nt a w hs;exact h y' h1 he U w0 S0 nt a w Q hd h2
def vH(ks:GN){y':St}(h:frzs ks σ=y'):kI e σ (λx=>x=y'):=λhe U w0 S0 nt a w hs=>⟨y',rfl,h▸aS.frzs he ks σ hs⟩
end
def Fn{w:World}{S:GO}{L L':Lay}{r:AS}{v:Value}(h:aw w S L (aQ r) v):aw w S L' (aQ r) v:=by
 cases r with
 |nil=>exact h
 |cons y ys =>
  cases ys with
  |nil=>exact h
  |cons z zs=>exact h
def m232(h:G3:=by
 rw[e]at h1;simp only[oT,dh,eE,e];exact⟨h1,λ_=>trivial⟩):G3:=h
def m205(b:G5)(h:Bx G5->G4:=by
 intro B0
 have aF:(execOp a.eval o).run e.P w=.ok (.value (.map (some w.heap.size))) (w.alloc (.map #[] 0)):=by
  simp[execOp,ho,Instr.makeMap,newObj,Result.andThen];rfl
 exact B0.o aF):G4:=h ⟨b⟩
def m152(h:G3:=by
 obtain⟨k,hk,jG⟩:=zg gV x hx;exact⟨k,x,hk,jG,((yl (h1.Ξ.own k x jG) (hpn x hx)).2 g).2 hg⟩):G3:=h
def m128(h:G3:=by
 obtain⟨k,x,_,jG,hb⟩:=lE g hg;have:=(h1.Ξ.own k x jG).lt hb;exact⟨this.1,this.2,h1.Ξ.notE jG hb,h1.Ξ.mine k x g jG hb⟩):G3:=h
def m25(h:G3:=by
 rw[Zok]at hx;cases sL:gm (aM bZ bj) k with
 |some y =>
  rw[sL]at hx;injection hx with hx;subst hx
  have:=A7 sL;exact .inl ⟨rfl,Tbi.2 (.inr this.1),this.2⟩
 |none =>
  rw[sL]at hx;simp only[Zh4]at hx;split at hx
  ·cases hx
  ·rename_i aP;exact .inr ⟨aP,rfl,hx⟩):G3:=h
section
variable{e:Env}{σ:St}{o:Oper}{K:GR}{c:Operand}{args:Array Operand}{ts:Array TypeId}{f:FuncId}{caps:we}{xs:AS}
def ZEf(ho:o.op=.call ⟨.value c,args,ts⟩){G7:St}{r:AS}(hf:eJ q (s9 (args.toList.map (aL σ.s))) σ=some G7)(hc:t8 (aL G7.s c)=some (f,caps))(hx:mK (args.toList.map (aL G7.s))=some xs)(ca:aI e f (xs++caps.map .I) r)(hK:K ⟨aD G7.s o.dst (aQ r),G7.m⟩):Zr3 e q o σ K:=by
 cases q with
 | true =>
  intro he;have hs:G7=σ:=by
   unfold eJ at hf;split at hf
   ·injection hf with hf;exact hf.symm
   ·simp at hf
  subst hs;exact⟨_,hK,λU base S0=>Zoi ho hc hx ca⟩
 |false =>
  intro he U w0 S0 nt a w Q hd h;obtain⟨S,L,h1⟩:=ZjS h he hf;exact Oper.wp_mono (λa' w' hs=>⟨_,hK,hs⟩) (Cu h1 hd (Zoi ho hc hx ca))
def ZIh(ho:o.op=.call ⟨.value c,args,ts⟩){x0:Operand}{rest:List Operand}{ty:Nat}{oa:Option (BY×Nat)}{rows rows':sh}{r:AS}(bS:args.toList=x0::rest)(iw:fz σ.m (aL σ.s x0)=.Υ k)(hm:gm σ.m k=some (.Υ oa ty sz rows))(hc:t8 (aL σ.s c)=some (f,caps))(hx:mK (rest.map (aL σ.s))=some xs)
  (ca:jH e f ty sz rows (xs++caps.map .I) rows' r) (bh:rows'.length=rows.length) (hK:K ⟨aD σ.s o.dst (aQ r),(k,.Υ oa ty sz rows')::aA k σ.m⟩):jW e o σ K:=by
 intro he U w0 S0 nt a w Q hd ⟨S,L,h1⟩;obtain⟨us,hv,d7⟩:=EZ hc (h1.eval c);have xq:dt w S xs (rest.map a.eval):=CB hx (by simp) (tR (λp _=>h1.eval p));have Az:=sv h1.Ξ (h1.eval x0);rw[iw]at Az;have Az:a.eval x0=L.v k:=Az;obtain⟨kA,cr⟩:(∀a,oa=some a->L.v k=.slice a.1 rows.length a.2)/\eO w S ty sz rows (L.v k):=h1.Ξ.own k _ hm;obtain⟨fF,ca⟩:=ca;have iH:=ca w S (L.v k) _ h1.Ξ.sin (λb hb=>Tbd (h1.Ξ.ein b hb) h1.Ξ.bsz) (λg hg=>h1.Ξ.notE hm hg) h1.Ξ.g cr (xq.append (dt.caps d7))
 have hg:gives e.P o a.eval w λv w'=>Kept e.D (λb=>e.E b\/aO (L.v k)=some b) w.heap.size w w'/\e.G w'/\eO w' (λb=>S b\/(w.heap.size<=b/\b<w'.heap.size)) ty sz rows' (L.v k)/\aw w' (λb=>S b\/(w.heap.size<=b/\b<w'.heap.size)) ⟨λ_=>0,λ_=>Go.undef⟩ (aQ r) v:=by
  unfold gives;rw[Fa ho hv fF,bS];simp only[Tbv,Az,Taf];exact iH.mono λen w'⟨v,q1,q2⟩=>⟨v,q1,q2⟩
 refine ym hg λv w'⟨k1,k2,k3,k4⟩=>⟨_,hK,?_⟩
 obtain⟨t1,t2,t3⟩:=h1.touchE (d:=k) (bk:=.Υ oa ty sz rows') (m':=(k,.Υ oa ty sz rows')::aA k σ.m) (w':=w') (S':=λb=>S b\/(w.heap.size<=b/\b<w'.heap.size)) (L':=L) (τ:=aO (L.v k)) (λ_ h=>.inl h) (λ_ h=>h)
  (λk' x cl hx=>by simp only[gm,cl,if_false,gq]at hx;exact hx) (by simp[gm]) (λ_ _=>⟨rfl,rfl⟩)
  (λg hg=>⟨((h1.Ξ.own k _ hm).lt hg).2,h1.Ξ.notE hm hg,h1.Ξ.mine k _ _ hm hg⟩)
  (λk' x g cl hx hg hb=>by
   simp only[gm,cl,if_false,gq]at hx;exact cl (h1.Ξ.inj k' k x _ _ hx hm hb hg))
  k1 k2 ⟨λa ha=>by rw[bh];exact kA a ha,k3⟩ (λg hg=>.inl hg)
 have po:Sim e U w0 S0 nt ⟨σ.s,(k,.Υ oa ty sz rows')::aA k σ.m⟩ a w' _ L:=⟨t1,λt=>t3 _ _ (λ_=>⟨rfl,rfl⟩) (h1.rel t),h1.size,h1.defers,t2⟩;exact⟨_,L,po.put (Fn k4) hd⟩
def ZzF(ho:o.op=.call ⟨.value c,args,ts⟩){R:AS->Prop}(hc:t8 (aL σ.s c)=some (f,caps))(hx:mK (args.toList.map (aL σ.s))=some xs)(ca:fX e f (xs++caps.map .I) R)(hK:∀r,R r->K ⟨aD σ.s o.dst (aQ r),σ.m⟩):jW e o σ K:=by
 intro he U w0 S0 nt a w Q hd ⟨S,L,h1⟩;obtain⟨us,hv,d7⟩:=EZ hc (h1.eval c);have xq:dt w S xs (args.toList.map a.eval):=CB hx (by simp) (tR (λp _=>h1.eval p));obtain⟨fF,ca⟩:=ca;have iH:=ca w S _ h1.Ξ.sin (λb hb=>Tbd (h1.Ξ.ein b hb) h1.Ξ.bsz) h1.Ξ.g (xq.append (dt.caps d7));have hg:gives e.P o a.eval w λv w'=>∃r,R r/\∃S':GO,(∀b,S b->S' b)/\Cls e U w0.heap.size S0 σ.m w' S' L/\Kept e.D e.E w.heap.size w w'/\aw w' S' L (aQ r) v:=by
  unfold gives;rw[Fa ho hv fF];exact iH.mono λen w'⟨v,r,h0,hr,h2,h3,h4⟩=>⟨v,h0,r,hr,_,λb hb=>.inl hb,h1.Ξ.later h2 h3 (λb hb=>.inl hb) (λb hb=>hb),h2,Fn h4⟩
 exact ym hg λv w'⟨r,hr,S',hS,hC,hk,ha⟩=>⟨_,hK r hr,S',L,(h1.later hC hk hS).put ha hd⟩
def Zsz(ho:o.op=.makeMap t none)(hK:∀b:Nat,K ⟨aD σ.s o.dst (GY (.A (.map (some b)))),σ.m⟩):jW e o σ K:=by
 intro he U w0 S0 nt a w Q hd ⟨S,L,h1⟩;have hb:Below w.heap.size w (w.alloc (.map #[] 0)):=yF w _;have hk:Kept e.D e.E w.heap.size w (w.alloc (.map #[] 0)):=Kept.of_below hb (λ_=>Tai _);have hC:=h1.Ξ;have zY:Cls e U w0.heap.size S0 σ.m (w.alloc (.map #[] 0)) S L:=hC.later hk (he.Ε _ _ hb.size (λb hE=>hb.block b (Tbd (hC.ein b hE) hC.bsz)) hC.g) (λ_ h=>h) (λ_ h=>.inl h);unfold Oper.wp
 refine m205 λaF=>?_
 rw[aF,Oper.upon_value];exact⟨_,hK w.heap.size,S,L,(h1.later zY hk (λ_ h=>h)).put (by simp[aw,aX,aR]) hd⟩
end
def pinned:Bk->Bool
 |.var (some _) _=>true
 |.Υ (some _) _ _ _=>true
 |.set _ _=>true
 |_=>false
def ei(m:it):GN->Option (GQ)
 |[]=>some []
 |k::ks=>match gm m k,ei m ks with
  |some x,some r=>some (x::r)
  |_,_=>none
def aM:GN->GQ->it
 |k::ks,x::xs=>(k,x)::aM ks xs
 |_,_=>[]
def kN:GN->it->it
 |[],m=>m
 |k::ks,m=>kN ks (aA k m)
def pC:GN->d3->d3
 |[],s=>s
 |k::ks,s=>pC ks (bX k s)
def gx(z:it)(L:Lay):Lay :=
 ⟨λk=>match gm z k with
  |some (.var (some b) _)=>b
  |_=>L.b k,λk=>match gm z k with
  |some (.Υ (some (a,cap)) _ _ rows)=>.slice a rows.length cap
  |_=>L.v k⟩
def wJ{w:World}{S:GO}{z:it}{L:Lay}{x:Bk}(h:oT w S x)(hz:gm z k=some x):b6 w S (gx z L) k x/\∀g,dh (gx z L) k x g↔eE x g:=by
 cases x with
 | var o cs =>
  cases o with
  |none=>exact h.elim
  |some b =>
   simp only[b6,dh,eE,(by simp only[gx,hz]:(gx z L).b k=b)];exact⟨⟨λb' cu=>by injection cu,h⟩,λ_=>trivial⟩
 | Υ o ty sz rows =>
  cases o with
  |none=>exact h.elim
  |some q =>
   obtain⟨a,cap⟩:=q;simp only[b6,dh,eE,(by simp only[gx,hz]:(gx z L).v k=.slice a rows.length cap)];exact⟨⟨λa' eU=>by injection eU with eU;rw[<- eU],h⟩,λ_=>trivial⟩
 |set E G=>exact⟨h,λg=>Iff.rfl⟩
def yl{w:World}{S:GO}{L:Lay}{x:Bk}(h:b6 w S L k x)(hp:pinned x):oT w S x/\∀g,dh L k x g↔eE x g:=by
 cases x with
 | var o cs =>
  cases o with
  |none=>simp[pinned]at hp
  |some b =>
   obtain⟨h0,h1⟩:=h;have e:=h0 b rfl;exact m232
 | Υ o ty sz rows =>
  cases o with
  |none=>simp[pinned]at hp
  |some q =>
   obtain⟨a,cap⟩:=q;obtain⟨h0,h1⟩:=h;have e:=h0 (a,cap) rfl;exact m232
 |set E G=>exact⟨h,λg=>Iff.rfl⟩
def Zok{z m:it}:gm (z++m) k=match gm z k with
  |some x=>some x
  |none=>gm m k:=by
 induction z with
 |nil=>rfl
 |cons q r ih =>
  obtain⟨k',x⟩:=q;simp only[Taf,gm];split
  ·rfl
  ·exact ih
def A7{pm:GQ}{x:Bk}(h:gm (aM ks pm) k=some x):k∈ks/\x∈pm:=by
 induction ks generalizing pm with
 |nil=>cases h
 | cons q r ih =>
  cases pm with
  |nil=>cases h
  |cons y ys =>
   simp only[aM,gm]at h;split at h
   ·rename_i e;injection h with h;exact⟨by simp[e],by simp[h]⟩
   ·have:=ih h;exact⟨Tal _ this.1,Tal _ this.2⟩
def ZiM {pm:GQ} (ha:oO pm) {k':Nat} {x x':Bk} {g:Nat} (h:gm (aM ks pm) k=some x) (h':gm (aM ks pm) k'=some x') (hb:eE x g) (cu:eE x' g):k=k':=by
 induction ks generalizing pm with
 |nil=>cases h
 | cons q r ih =>
  cases pm with
  |nil=>cases h
  | cons y ys =>
   simp only[aM,gm]at h h';obtain⟨a1,a2⟩:=ha;split at h
   ·rename_i e;injection h with h;subst h
    split at h'
    ·rename_i e';rw[e,e']
    ·exact(a1 _ (A7 h').2 g hb cu).elim
   ·split at h'
    ·injection h' with h';subst h'
     exact(a1 _ (A7 h).2 g cu hb).elim
    ·exact ih a2 h h'
def Zh4{m:it}:gm (kN ks m) k=if k∈ks then none else gm m k:=by
 induction ks generalizing m with
 |nil=>simp[kN]
 |cons q r ih =>
  simp only[kN,ih,gq,Tbh];by_cases h1:k∈r
  ·simp[h1]
  ·by_cases h2:k=q<;>simp[h1,h2]
def ZiN (t:Nat):∀(ks:GN)(s:d3),(gs (pC ks s) t=gs s t/\∀k∈ks,¬vQ k (gs s t))\/gs (pC ks s) t=.undef
 |[],s=>.inl ⟨rfl,by simp⟩
 | k::ks,s=>by
  rcases ZiN t ks (bX k s)with⟨h1,h2⟩|h1
  ·rcases Bb k t s with⟨h3,h4⟩|h3
   ·refine .inl ⟨h1.trans h3,λk' dZ=>?_⟩;rcases Tbh.1 dZ with rfl|dZ
    ·exact h4
    ·rw[<- h3];exact h2 k' dZ
   ·exact .inr (h1.trans h3)
  ·exact .inr h1
def zg{m:it}:∀{ks:GN}{pm:GQ},ei m ks=some pm->∀x∈pm,∃k∈ks,gm m k=some x
 |[],pm,h,x,hx=>by simp only[ei,Taq]at h;subst h;cases hx
 | k::ks,pm,h,x,hx=>by
  simp only[ei]at h;split at h
  ·rename_i y r h1 h2;injection h with h;subst h
   rcases Tbh.1 hx with rfl|hx
   ·exact⟨k,by simp,h1⟩
   ·obtain⟨k',h3,h4⟩:=zg h2 x hx;exact⟨k',Tal _ h3,h4⟩
  ·cases h
def Zgf{m:it}{w:World}{S:GO}{L:Lay}(fc:∀k x,gm m k=some x->b6 w S L k x)(Ae:∀k k' x x' g,gm m k=some x->gm m k'=some x'->dh L k x g->dh L k' x' g->k=k') :
  ∀{ks:GN}{pm:GQ},ks.Nodup->ei m ks=some pm->(∀x∈pm,pinned x)->oO pm
 |[],pm,_,h,_=>by simp only[ei,Taq]at h;subst h;trivial
 | k::ks,pm,hn,h,hp=>by
  simp only[ei]at h;split at h
  ·rename_i y r h1 h2;injection h with h;subst h
   rw[List.nodup_cons]at hn;refine⟨λx hx g hy hxg=>?_,Zgf fc Ae hn.2 h2 (λx hx=>hp x (Tal _ hx))⟩;obtain⟨k',h3,h4⟩:=zg h2 x hx;exact hn.1 ((Ae k k' y x g h1 h4 (((yl (fc k y h1) (hp y (by simp))).2 g).2 hy) (((yl (fc k' x h4) (hp x (Tal _ hx))).2 g).2 hxg))▸h3)
  ·cases h
section
variable{e:Env}{σ:St}{o:Oper}{K:GR}{c:Operand}{args:Array Operand}{ts:Array TypeId}{f:FuncId}{caps:we}{xs:AS}
def ZIi (ho:o.op=.call ⟨.value c,args,ts⟩) (ks bZ:GN) {pm:GQ} {R:AS->GQ->Prop} (hn:ks.Nodup) (gV:ei σ.m ks=some pm) (hpn:pm.all pinned) (hc:t8 (aL σ.s c)=some (f,caps)) (hx:mK (args.toList.map (aL σ.s))=some xs) (ca:aT e f (xs++caps.map .I) pm R)
  (hK:∀r bj,R r bj->K ⟨aD (pC (ks++bZ) σ.s) o.dst (aQ r),aM bZ bj++kN (ks++bZ) σ.m⟩):jW e o σ K:=by
 intro he U w0 S0 nt a w Q hd ⟨S,L,h1⟩;have hpn:∀x∈pm,pinned x:=λx hx=>List.all_eq_true.1 hpn x hx;obtain⟨us,hv,d7⟩:=EZ hc (h1.eval c);have xq:dt w S xs (args.toList.map a.eval):=CB hx (by simp) (tR (λp _=>h1.eval p));obtain⟨fF,ca⟩:=ca;have lE:∀g,dP pm g->∃k x,k∈ks/\gm σ.m k=some x/\dh L k x g:=λg⟨x,hx,hg⟩=>by
  exact m152
 have iH:=ca w S _ h1.Ξ.sin (λb hb=>Tbd (h1.Ξ.ein b hb) h1.Ξ.bsz) h1.Ξ.g (λx hx=>by
  obtain⟨k,hk,jG⟩:=zg gV x hx;have:=yl (h1.Ξ.own k x jG) (hpn x hx);exact⟨this.1,λg hg=>h1.Ξ.notE jG ((this.2 g).2 hg)⟩) (Zgf h1.Ξ.own h1.Ξ.inj hn gV hpn) (xq.append (dt.caps d7))
 have hg:gives e.P o a.eval w λv w'=>∃r bj,R r bj/\Kept e.D (λb=>e.E b\/dP pm b) w.heap.size w w'/\e.G w' /\
   (∀x∈bj,oT w' (λb=>(S b\/dP pm b\/(w.heap.size<=b/\b<w'.heap.size))/\¬dP bj b) x/\∀g,eE x g->dP pm g\/w.heap.size<=g)/\oO bj /\
   aw w' (λb=>(S b\/dP pm b\/(w.heap.size<=b/\b<w'.heap.size))/\¬dP bj b) ⟨λ_=>0,λ_=>Go.undef⟩ (aQ r) v:=by
  unfold gives;rw[Fa ho hv fF];exact iH.mono λen w'⟨v,r,bj,q0,q1⟩=>⟨v,q0,r,bj,q1⟩
 refine ym hg λv w'⟨r,bj,hR,k1,k2,k3,k4,k5⟩=>⟨_,hK r bj hR,?_⟩;have am:∀g,dP pm g->g<w.heap.size/\¬S g/\¬e.E g/\(w0.heap.size<=g\/U g):=λg hg=>by
  exact m128
 have hz:∀k x,gm (aM bZ bj++kN (ks++bZ) σ.m) k=some x->(gm (aM bZ bj) k=some x/\k∈ks++bZ/\x∈bj)\/(¬k∈ks++bZ/\gm (aM bZ bj) k=none/\gm σ.m k=some x):=λk x hx=>by
  exact m25
 obtain⟨t1,t2,t3⟩:=h1.touchM (p:=λk=>k∈ks++bZ) (m':=aM bZ bj++kN (ks++bZ) σ.m) (w':=w') (S':=λb=>(S b\/dP pm b\/(w.heap.size<=b/\b<w'.heap.size))/\¬dP bj b) (L':=gx (aM bZ bj) L) (τ:=dP pm)
  (λb hs=>⟨.inl hs,λ⟨x,hx,hg⟩=>by
   rcases(k3 x hx).2 b hg with q|q
   ·exact(am b q).2.1 hs
   ·have:=(h1.Ξ.sin b hs).1;omega⟩)
  (λb hb=>hb.1.elim .inl (λq=>.inr (q.elim (λq=>.inl ⟨q,(am b q).1⟩) .inr)))
  (λk x hp hx=>by
   rcases hz k x hx with⟨_,h2,_⟩|⟨_,_,h3⟩
   ·exact(hp h2).elim
   ·exact h3)
  (λk hp=>by
   have hzn:gm (aM bZ bj) k=none:=by
    cases sL:gm (aM bZ bj) k with
    |none=>rfl
    |some y=>exact(hp (Tbi.2 (.inr (A7 sL).1))).elim
   simp only[gx,hzn,and_self])
  (λg hg=>(am g hg).2)
  (λk x g hp hx hg hb=>by
   obtain⟨k',x',dZ,xx,cu⟩:=lE g hg;rcases hz k x hx with⟨_,h2,_⟩|⟨_,_,h3⟩
   ·exact hp h2
   ·have:=h1.Ξ.inj k k' x x' g h3 xx hb cu;subst this;exact hp (Tbi.2 (.inl dZ)))
  k1 k2
  (λk x hp hx=>by
   rcases hz k x hx with⟨h2,_,h3⟩|⟨h2,_,_⟩
   ·have:=wJ (L:=L) (k3 x h3).1 h2;exact⟨this.1,λg hg=>(k3 x h3).2 g ((this.2 g).1 hg)⟩
   ·exact(h2 hp).elim)
  (λk k' x x' g hp et hx aW hb cu=>by
   rcases hz k x hx with⟨h2,_,h3⟩|⟨h2,_,_⟩
   ·rcases hz k' x' aW with⟨oC,_,tt⟩|⟨oC,_,_⟩
    ·have q:=wJ (L:=L) (k3 x h3).1 h2;have q':=wJ (L:=L) (k3 x' tt).1 oC;exact ZiM k4 h2 oC ((q.2 g).1 hb) ((q'.2 g).1 cu)
    ·exact(oC et).elim
   ·exact(h2 hp).elim)
 have po:Sim e U w0 S0 nt ⟨pC (ks++bZ) σ.s,aM bZ bj++kN (ks++bZ) σ.m⟩ a w' (λb=>(S b\/dP pm b\/(w.heap.size<=b/\b<w'.heap.size))/\¬dP bj b) (gx (aM bZ bj) L):=by
  refine⟨t1,λt=>?_,h1.size,h1.defers,t2⟩;show aw w' _ _ (gs (pC (ks++bZ) σ.s) t) _;rcases ZiN t (ks++bZ) σ.s with⟨q1,q2⟩|q1
  ·rw[q1];exact t3 _ _ (λk hp hk=>(q2 k hp hk).elim) (h1.rel t)
  ·rw[q1];trivial
 exact⟨_,_,po.put (Fn k5) hd⟩
end
def jx(f:A->A):d3->d3
 |[]=>[]
 |(t,a)::r=>(t,f a)::jx f r
def Zmi{f:A->A}(hf:f .undef=.undef)(t:Nat):∀(s:d3),gs (jx f s) t=f (gs s t)
 |[]=>by simp[jx,gs,hf]
 |(t',x)::r=>by
  simp only[jx,gs];split
  ·rfl
  ·exact Zmi hf t r
def mY(k b:Nat):A->A
 |.ref k' off=>if k'=k then GY (.A (.pointer (some ⟨b,off,none⟩)))else .ref k' off
 |x=>x
def jv(k:Nat)(a:BY)(n cap:Nat):A->A
 |.Υ k'=>if k'=k then GY (.A (.slice a n cap))else .Υ k'
 |x=>x
def Cls.swap{e:Env}{U:GO}{base:Nat}{S0:GO}{m:it}{w:World}{S:GO}{L:Lay}(h:Cls e U base S0 m w S L){bk bk':Bk}(hm:gm m k=some bk)(ho:b6 w S L k bk')(hb:∀g,dh L k bk' g->dh L k bk g):Cls e U base S0 ((k,bk')::aA k m) w S L:=by
 have key:∀k' x,gm ((k,bk')::aA k m) k'=some x->(k'=k/\x=bk')\/(k'≠k/\gm m k'=some x):=λk' x hx=>by
  simp only[gm,gq]at hx;split at hx
  ·rename_i e;injection hx with hx;exact .inl ⟨e,hx.symm⟩
  ·exact .inr ⟨by assumption,hx⟩
 refine⟨h.sin,h.sfr,h.ein,h.uin,h.bsz,λk' x g hx hg=>?_,λk' x hx=>?_,λk1 k2 x x' g hx aW hg gh=>?_,h.g⟩
 ·rcases key k' x hx with⟨rfl,rfl⟩|⟨_,hx⟩
  ·exact h.mine _ _ g hm (hb g hg)
  ·exact h.mine _ _ g hx hg
 ·rcases key k' x hx with⟨rfl,rfl⟩|⟨_,hx⟩
  ·exact ho
  ·exact h.own _ _ hx
 ·rcases key k1 x hx with⟨e1,e2⟩|⟨_,q1⟩
  ·rcases key k2 x' aW with⟨e3,e4⟩|⟨_,q2⟩
   ·rw[e1,e3]
   ·subst e1 e2;exact h.inj _ _ _ _ g hm q2 (hb g hg) gh
  ·rcases key k2 x' aW with⟨e3,e4⟩|⟨_,q2⟩
   ·subst e3 e4;exact h.inj _ _ _ _ g q1 hm hg (hb g gh)
   ·exact h.inj _ _ _ _ g q1 q2 hg gh
section
variable{e:Env}{σ:St}
def ZzG(k:Nat){cs:we}(hm:gm σ.m k=some (.var none cs)):kI e σ (λy'=>∃b,(∀k' b' iE,k'≠k->gm σ.m k'=some (.var (some b') iE)->b≠b')/\y'=⟨jx (mY k b) σ.s,(k,.var (some b) cs)::aA k σ.m⟩):=by
 intro he U w0 S0 nt a w ⟨S,L,h⟩;have ho:b6 w S L k (.var none cs):=h.Ξ.own k _ hm;refine⟨_,⟨L.b k,λk' b' iE hk hm' hb=>hk ?_,rfl⟩,S,L,h.Ξ.swap hm (bk':=.var (some (L.b k)) cs) ⟨λb hb=>by injection hb,ho.2⟩ (λg hg=>hg),λt=>?_,h.size,h.defers,h.kept⟩
 ·exact h.Ξ.inj k' k _ _ b' hm' hm ((h.Ξ.own k' _ hm').1 b' rfl) hb
 ·show aw w S L (gs (jx (mY k (L.b k)) σ.s) t) _;rw[Zmi rfl];have hr:=h.rel t;generalize gs σ.s t=x at hr⊢
  cases x with
  |ref k' off =>
   simp only[mY];by_cases hk:k'=k
   ·subst hk;simp only[if_true];have hr:a.tmps.getD t undef=.pointer (some ⟨L.b k',off,none⟩):=hr;simp[aw,aX,aR,hr]
   ·simp only[hk,if_false];exact hr
  |_=>exact hr
def Zqs(k:Nat){rows:sh}(hm:gm σ.m k=some (.Υ none ety sz rows)):kI e σ (λy'=>∃a cap,y'=⟨jx (jv k a rows.length cap) σ.s,(k,.Υ (some (a,cap)) ety sz rows)::aA k σ.m⟩):=by
 intro he U w0 S0 nt a w ⟨S,L,h⟩;obtain⟨_,ho⟩:_/\eO w S ety sz rows (L.v k):=h.Ξ.own k _ hm;obtain⟨p,cap,hv⟩:∃p cap,L.v k=.slice p rows.length cap:=by
  obtain⟨_,_,h3⟩:=ho;rcases h3 with⟨h4,p,hv⟩|⟨g,cap,bf,hv,_⟩
  ·exact⟨p,0,by rw[hv,h4];rfl⟩
  ·exact⟨_,cap,hv⟩
 refine⟨_,⟨p,cap,rfl⟩,S,L,h.Ξ.swap hm (bk':=.Υ (some (p,cap)) ety sz rows) ⟨λq hq=>by injection hq with hq;rw[<- hq];exact hv,ho⟩ (λg hg=>hg),λt=>?_,h.size,h.defers,h.kept⟩;show aw w S L (gs (jx (jv k p rows.length cap) σ.s) t) _;rw[Zmi rfl];have hr:=h.rel t;generalize gs σ.s t=x at hr⊢
 cases x with
 |Υ k' =>
  simp only[jv];by_cases hk:k'=k
  ·subst hk;simp only[if_true];have hr:a.tmps.getD t undef=L.v k':=hr;simp[aw,aX,aR,hr,hv]
  ·simp only[hk,if_false];exact hr
 |_=>exact hr
def ZEg(t:Nat):kI e σ (λy'=>y'=⟨(t,fz σ.m (gs σ.s t))::σ.s,σ.m⟩):=by
 intro he U w0 S0 nt a w ⟨S,L,h⟩;refine⟨_,rfl,S,L,h.Ξ,λt'=>?_,h.size,h.defers,h.kept⟩;simp only[gs];split
 ·rename_i e;subst e;exact sv h.Ξ (h.rel _)
 ·exact h.rel t'
def ZEh(t ety sz:Nat)(hs:0<sz)(ht:gs σ.s t=.d (.Ζ [])):kI e σ (λy'=>y'=⟨(t,.Υ t)::bX t σ.s,(t,.Υ none ety sz [])::aA t σ.m⟩):=by
 intro he U w0 S0 nt a w ⟨S,L,h⟩;have hv:=h.rel t;rw[ht]at hv;have am:t<nt:=by
  rcases Nat.lt_or_ge t nt with hl|hl
  ·exact hl
  ·have:a.tmps.getD t undef=undef:=by rw[Array.getD_eq_getD_getElem?,Array.getElem?_eq_none (by rw[h.size];exact hl)];rfl
   rw[this]at hv;obtain⟨_,p,n,hp⟩:=hv
   cases hp
 obtain⟨S',L',h'⟩:=h.empty (ety:=ety) he am hs hv;refine⟨_,rfl,S',L',h'.Ξ,λt'=>?_,h.size,h.defers,h'.kept⟩;have:=h'.rel t';rw[tY (by rw[h.size];exact am)]at this;split at this
 ·rename_i e;rw[e];rw[e]at this;exact this
 ·exact this
end
section
variable{e:Env}{σ:St}
def ZpM (ks bZ:GN) {pm:GQ} {Φ:GQ->Prop} (hn:ks.Nodup) (gV:ei σ.m ks=some pm) (hpn:pm.all pinned)
  (fi:∀(w:World)(S:GO),(∀x∈pm,oT w S x)->oO pm->∃bj,Φ bj/\(∀x∈bj,oT w S x)/\oO bj/\∀g,dP bj g->dP pm g) :
  kI e σ (λy'=>∃bj,Φ bj/\y'=⟨pC (ks++bZ) σ.s,aM bZ bj++kN (ks++bZ) σ.m⟩):=by
 intro he U w0 S0 nt a w ⟨S,L,h1⟩;have hpn:∀x∈pm,pinned x:=λx hx=>List.all_eq_true.1 hpn x hx;have lE:∀g,dP pm g->∃k x,k∈ks/\gm σ.m k=some x/\dh L k x g:=λg⟨x,hx,hg⟩=>by
  exact m152
 obtain⟨bj,hΦ,k3,k4,d6⟩:=fi w S (λx hx=>by
  obtain⟨k,hk,jG⟩:=zg gV x hx;exact(yl (h1.Ξ.own k x jG) (hpn x hx)).1) (Zgf h1.Ξ.own h1.Ξ.inj hn gV hpn)
 have am:∀g,dP pm g->g<w.heap.size/\¬S g/\¬e.E g/\(w0.heap.size<=g\/U g):=λg hg=>by
  exact m128
 have hz:∀k x,gm (aM bZ bj++kN (ks++bZ) σ.m) k=some x->(gm (aM bZ bj) k=some x/\k∈ks++bZ/\x∈bj)\/(¬k∈ks++bZ/\gm (aM bZ bj) k=none/\gm σ.m k=some x):=λk x hx=>by
  exact m25
 obtain⟨t1,t2,t3⟩:=h1.touchM (p:=λk=>k∈ks++bZ) (m':=aM bZ bj++kN (ks++bZ) σ.m) (w':=w) (S':=S) (L':=gx (aM bZ bj) L) (τ:=dP pm)
  (λb hs=>hs) (λb hb=>.inl hb)
  (λk x hp hx=>by
   rcases hz k x hx with⟨_,h2,_⟩|⟨_,_,h3⟩
   ·exact(hp h2).elim
   ·exact h3)
  (λk hp=>by
   have hzn:gm (aM bZ bj) k=none:=by
    cases sL:gm (aM bZ bj) k with
    |none=>rfl
    |some y=>exact(hp (Tbi.2 (.inr (A7 sL).1))).elim
   simp only[gx,hzn,and_self])
  (λg hg=>(am g hg).2)
  (λk x g hp hx hg hb=>by
   obtain⟨k',x',dZ,xx,cu⟩:=lE g hg;rcases hz k x hx with⟨_,h2,_⟩|⟨_,_,h3⟩
   ·exact hp h2
   ·have:=h1.Ξ.inj k k' x x' g h3 xx hb cu;subst this;exact hp (Tbi.2 (.inl dZ)))
  (Kept.refl _ _ _ _) h1.Ξ.g
  (λk x hp hx=>by
   rcases hz k x hx with⟨h2,_,h3⟩|⟨h2,_,_⟩
   ·have:=wJ (L:=L) (k3 x h3) h2;exact⟨this.1,λg hg=>.inl (d6 g ⟨x,h3,(this.2 g).1 hg⟩)⟩
   ·exact(h2 hp).elim)
  (λk k' x x' g hp et hx aW hb cu=>by
   rcases hz k x hx with⟨h2,_,h3⟩|⟨h2,_,_⟩
   ·rcases hz k' x' aW with⟨oC,_,tt⟩|⟨oC,_,_⟩
    ·have q:=wJ (L:=L) (k3 x h3) h2;have q':=wJ (L:=L) (k3 x' tt) oC;exact ZiM k4 h2 oC ((q.2 g).1 hb) ((q'.2 g).1 cu)
    ·exact(oC et).elim
   ·exact(h2 hp).elim)
 refine⟨_,⟨bj,hΦ,rfl⟩,S,gx (aM bZ bj) L,t1,λt=>?_,h1.size,h1.defers,t2⟩;show aw w _ _ (gs (pC (ks++bZ) σ.s) t) _;rcases ZiN t (ks++bZ) σ.s with⟨q1,q2⟩|q1
 ·rw[q1];exact t3 _ _ (λk hp hk=>(q2 k hp hk).elim) (h1.rel t)
 ·rw[q1];trivial
def ZEi(κ ety sz:Nat)(hs:0<sz):kI e σ (λy'=>y'=⟨bX κ σ.s,(κ,.Υ (some (none,0)) ety sz [])::aA κ σ.m⟩):=by
 intro he U w0 S0 nt a w ⟨S,L,h⟩
 obtain⟨t1,t2,t3⟩:=h.touchT (d:=κ) (bk:=.Υ (some (none,0)) ety sz []) (m':=(κ,.Υ (some (none,0)) ety sz [])::aA κ σ.m) (w':=w) (S':=S) (L':=⟨L.b,λk=>if k=κ then .slice none 0 0 else L.v k⟩) (τ:=λ_=>False)
  (λ_ h=>h) (λ_ h=>.inl h) (λk x cl hx=>by simp only[gm,cl,if_false,gq]at hx;exact hx) (by simp[gm]) (λk cl=>by simp[cl]) (λg hg=>hg.elim) (λk x g cl hx hg=>hg.elim)
  (Kept.refl _ _ _ _) h.Ξ.g ⟨λq hq=>by injection hq with hq;subst hq;simp,hs,rowsLen.nil,.inl ⟨rfl,none,by simp⟩⟩ (λg hg=>by simp[dh,aO]at hg)
 refine⟨_,rfl,S,_,t1,λt=>?_,h.size,h.defers,t2⟩;show aw w S _ (gs (bX κ σ.s) t) _;rcases Bb κ t σ.s with⟨q1,q2⟩|q1
 ·rw[q1];exact t3 _ _ (λhk=>(q2 hk).elim) (h.rel t)
 ·rw[q1];trivial
def iW(a:BY)(n cap:Nat)(rows:sh):C->C
 |.A (.slice a' n' bF)=>if a'=a/\n'=n/\bF=cap then .sl rows else .A (.slice a' n' bF)
 |c=>c
def rD(a:BY)(n cap:Nat)(rows:sh):A->A
 |.d (.I c)=>GY (iW a n cap rows c)
 |.d (.agg cs)=>.d (.agg (cs.map (iW a n cap rows)))
 |x=>x
def datS(a:BY)(n cap:Nat)(rows:sh):GN->d3->d3
 |[],s=>s
 |t::ts,s=>datS a n cap rows ts ((t,rD a n cap rows (gs s t))::s)
def xe(a:BY)(n cap:Nat)(rows:sh)(k:Nat)(m:it):Option Bk->it
 |some (.var o cs)=>(k,.var o (cs.map (iW a n cap rows)))::aA k m
 |_=>m
def datM(a:BY)(n cap:Nat)(rows:sh):GN->it->it
 |[],m=>m
 |k::ks,m=>datM a n cap rows ks (xe a n cap rows k m (gm m k))
section
variable{w:World}{S:GO}{a:BY}{n cap:Nat}{rows:sh}
def Znr(hr:aR w S (.sl rows) (.slice a n cap)){c:C}{v:Value}(h:aR w S c v):aR w S (iW a n cap rows c) v:=by
 unfold iW;split
 ·rename_i a' n' bF;split
  ·rename_i hq;obtain⟨rfl,rfl,rfl⟩:=hq;rw[(by simpa[aR]using h:v=.slice a' n' bF)];exact hr
  ·exact h
 ·exact h
def ZsA(hr:aR w S (.sl rows) (.slice a n cap)){b:Nat}:∀{cs:we}{off:Nat},a8 w S b off cs->a8 w S b off (cs.map (iW a n cap rows))
 |[],_,h=>h
 |c::cs,off,h=>by
  simp only[Tbv,a8]at h⊢;obtain⟨⟨u,h1,h2⟩,h3⟩:=h;exact⟨⟨u,h1,Znr hr h2⟩,ZsA hr h3⟩
def Zqt(hr:aR w S (.sl rows) (.slice a n cap)):∀{cs:we}{us:GK},aC w S cs us->aC w S (cs.map (iW a n cap rows)) us
 |[],[],h=>h
 |c::cs,u::us,h=>by
  simp only[Tbv,aC]at h⊢;exact⟨Znr hr h.1,Zqt hr h.2⟩
 |[],_::_,h=>h
 |_::_,[],h=>h
def ZEj{L:Lay}(hr:aR w S (.sl rows) (.slice a n cap)){x:A}{v:Value}(h:aw w S L x v):aw w S L (rD a n cap rows x) v:=by
 cases x with
 |d x =>
  cases x with
  |I c=>exact Znr hr h
  |agg cs=>obtain⟨vs,h1,h2⟩:=h;exact⟨vs,h1,Zqt hr h2⟩
  |Ζ rs=>exact h
 |_=>exact h
end
def Sim.datS{U:GO}{w0:World}{S0:GO}{nt:Nat}{ac:Act}{w:World}{S:GO}{L:Lay}{a:BY}{n cap:Nat}{rows:sh}(hr:aR w S (.sl rows) (.slice a n cap)):∀(ts:GN)(σ:St),Sim e U w0 S0 nt σ ac w S L->Sim e U w0 S0 nt ⟨datS a n cap rows ts σ.s,σ.m⟩ ac w S L
 |[],σ,h=>h
 | t::ts,σ,h=>Sim.datS hr ts ⟨(t,rD a n cap rows (gs σ.s t))::σ.s,σ.m⟩ ⟨h.Ξ,λt'=>by
   simp only[gs];split
   ·rename_i e';subst e';exact ZEj hr (h.rel _)
   ·exact h.rel t',h.size,h.defers,h.kept⟩
def Sim.datM{U:GO}{w0:World}{S0:GO}{nt:Nat}{ac:Act}{w:World}{S:GO}{L:Lay}{a:BY}{n cap:Nat}{rows:sh}(hr:aR w S (.sl rows) (.slice a n cap)):∀(ks:GN)(σ:St),Sim e U w0 S0 nt σ ac w S L->Sim e U w0 S0 nt ⟨σ.s,datM a n cap rows ks σ.m⟩ ac w S L
 |[],σ,h=>h
 |k::ks,σ,h=>by
  refine Sim.datM hr ks ⟨σ.s,xe a n cap rows k σ.m (gm σ.m k)⟩ ?_;unfold xe;split
  ·rename_i o cs hm;obtain⟨h0,h1,h2,⟨oX,ty,h3,h4⟩,h5⟩:=h.Ξ.own k _ hm;exact⟨h.Ξ.swap hm (bk':=.var o (cs.map (iW a n cap rows))) ⟨h0,h1,h2,⟨oX,ty,h3,by rw[Tay];exact h4⟩,ZsA hr h5⟩ (λg hg=>hg),h.rel,h.size,h.defers,h.kept⟩
  ·exact h
def ZsB(k:Nat)(ts ks:GN){a:BY}{rows:sh}(hm:gm σ.m k=some (.Υ (some (a,cap)) ety sz rows)) :
  kI e σ (λy'=>y'=⟨datS a rows.length cap rows ts (io k (.Υ (some (a,cap)) ety sz rows) σ.s),datM a rows.length cap rows ks (aA k σ.m)⟩):=by
 intro he U w0 S0 nt ac w ⟨S,L,h⟩;have ho:=h.Ξ.own k _ hm;have hv:L.v k=.slice a rows.length cap:=ho.1 (a,cap) rfl;have kY:=eO.rep ho.2;rw[hv]at kY;obtain⟨S',L',h',ky⟩:=h.freeze2 he hm;have hr:aR w S' (.sl rows) (.slice a rows.length cap):=kY.mono λb hb=>(ky b).2 (hb.imp id (λq=>by show aO (L.v k)=some b;rw[hv];exact q));exact⟨_,rfl,S',L',(Sim.datM hr ks ⟨_,aA k σ.m⟩ (Sim.datS hr ts _ h'))⟩
def ZuU{o:Oper}{K:GR}(ho:o.op=.build t parts){cs iE:we}(hz:qm e.P t=some cs)(aZ:wG e.P t)(aq:cs.all bQ)(hf:sw e.P t cs (parts.toList.map λp=>(p.1,aL σ.s p.2))=some iE)
  (hK:K ⟨aD σ.s o.dst (.d (.agg iE)),σ.m⟩):jW e o σ K:=by
 intro he U w0 S0 nt a w Q hd ⟨S,L,h⟩;unfold qm at hz;simp only[Tav,Option.bind_eq_some_iff]at hz;obtain⟨v,⟨i,hi,hv⟩,rfl⟩:=hz;exact Oper.wp_mono (λa' w' hs=>⟨_,hK,hs⟩) (Cu h hd (Zk5 ho hi hv aZ aq (λw S=>Zh3 _) hf))
end
section
variable{e:Env}{U:GO}{w0:World}{S0:GO}{nt:Nat}{σ:St}{a:Act}{w:World}{S:GO}{L:Lay}{o:Oper}
def A8{ops:GL}{j d:Nat}(h:((ops.map (·.dst))[j]?).join=some d):(ops.toArray[j]?).bind (·.dst)=some d:=by
 simp only[Tba]at h;simp only[List.getElem?_toArray]
 cases ho:ops[j]? with
 |none=>rw[ho]at h;simp at h
 |some p=>rw[ho]at h;simpa using h
def aw.bool{b:Bool}{v:Value}(h:aw w S L (GX b) v):v=.bool b:=by simpa[aw,aX,aR]using h
def ZiO{l:Array Value}{d:Nat}{b:Bool}(h:l.getD d undef=.bool b):l[d]?=some (.bool b):=by
 by_cases hd:d<l.size
 ·simp[hd]at h;simp[hd,h]
 ·simp[hd,undef]at h
def ZzH(h:Sim e U w0 S0 nt σ a w S L){ops:GL}{j:Nat}{bN b:Bool}(hg:o.guard=some (j,bN))(hs:(((ops.map (·.dst))[j]?).join.map (gs σ.s))=some (GX b)):Region.wanted o (yielded ops.toArray a.tmps)=decide (b=bN):=by
 simp only[Tav]at hs;obtain⟨d,h1,h2⟩:=hs;have h3:=h.rel d;rw[h2]at h3;have h4:=ZiO h3.bool;have h5:((ops.toArray[j]?).bind (·.dst))=some d:=A8 h1;simp only[Region.wanted,hg,(by unfold yielded;rw[h5];simp only[Option.bind_some,h4]:yielded ops.toArray a.tmps j=some b)]
 cases b<;>cases bN<;>rfl
def Zx6{l:Array Value}{d:Nat}(h:l.getD d undef=undef):l[d]?=some undef\/l[d]?=none:=by
 by_cases hd:d<l.size
 ·simp[hd]at h;simp[hd,h]
 ·simp[hd]
def ZiP{ops:Array Oper}{tmps:Array Value}{j d:Nat}{bN:Bool}(hg:o.guard=some (j,bN))(hs:(ops[j]?).bind (·.dst)=some d)(h:tmps.getD d undef=undef):Region.wanted o (yielded ops tmps)=false:=by
 have h6:yielded ops tmps j=none:=by
  unfold yielded;rw[hs];rcases Zx6 h with h1|h1<;>simp only[Option.bind_some,h1]
  rfl
 simp only[Region.wanted,hg,h6]
 cases bN<;>rfl
def uM(e:Env)(ds:By)(os:GL)(σ:St)(K:GR):Prop:=e.Ok->∀(U:GO)(w0:World)(S0:GO)(nt:Nat)(a:Act)(w:World)(ops:GL)(Q:Exit->Act->World->Prop),ops.map (·.dst)=ds->(∀o∈os,∀d,o.dst=some d->d<nt) ->
 (∀a w y',K y'->aS e U w0 S0 nt y' a w->Q .normal a w)->aS e U w0 S0 nt σ a w->wpList e.P ops.toArray Q os a w
def an(e:Env)(ds:By):Nat->GL->St->(GR)->Prop
 |0,os,σ,K=>uM e ds os σ K
 |_+1,[],σ,K=>K σ
 | n+1,o::os,σ,K=>match o.guard with
  |none=>if n=0/\jO o=true then∃d t cs,o.dst=some d/\o.op=.alloc t/\jU e.P t=some cs/\uM e ds os ⟨(d,.ref d 0)::bX d σ.s,(d,.var none cs)::aA d σ.m⟩ K
   else yq e o σ (λy'=>an e ds n os y' K)
  |some (j,bN)=>match(ds[j]?.join).map (gs σ.s)with
   |some (.d (.I (.A (.bool b))))=>if b=bN then yq e o σ (λy'=>an e ds n os y' K)else an e ds n os ⟨aD σ.s o.dst .no,σ.m⟩ K
   |some .no=>an e ds n os ⟨aD σ.s o.dst .no,σ.m⟩ K
   |_=>False
def ZzI{ds:By}{K:GR}{σ:St}(h:K σ):uM e ds [] σ K:=λhe U w0 S0 nt a w ops Q bJ hd hQ hs=>hQ a w σ h hs
def Zx7{ds:By}{K:GR}{os:GL}{σ:St}{P:GR}(hT:kI e σ P)(h:∀y',P y'->uM e ds os y' K):uM e ds os σ K:=λhe U w0 S0 nt a w ops Q bJ hd hQ hs=>by
 obtain⟨y',h1,h2⟩:=hT he U w0 S0 nt a w hs;exact h y' h1 he U w0 S0 nt a w ops Q bJ hd hQ h2
def vG{ds:By}{K:GR}{os:GL}{σ:St}{o:Oper}(hg:o.guard=none)(h:jW e o σ (λy'=>uM e ds os y' K)):uM e ds (o::os) σ K:=λhe U w0 S0 nt a w ops Q bJ hd hQ hs=>by
 unfold wpList;rw[if_pos (by simp[Region.wanted,hg]:Region.wanted o (yielded ops.toArray a.tmps))];exact .inl (Oper.wp_mono (λa' w'⟨y',hK,hS⟩=>hK he U w0 S0 nt a' w' ops Q bJ (λo' cr=>hd o' (by simp[cr])) hQ hS) (h he U w0 S0 nt a w Q (hd o (by simp)) hs))
def ZuV{ds:By}{K:GR}{os:GL}{σ:St}{o:Oper}{j:Nat}{bN:Bool}(hg:o.guard=some (j,bN)) (h:match(ds[j]?.join).map (gs σ.s)with
   |some (.d (.I (.A (.bool b))))=>if b=bN then jW e o σ (λy'=>uM e ds os y' K)else uM e ds os ⟨aD σ.s o.dst .no,σ.m⟩ K
   |some .no=>uM e ds os ⟨aD σ.s o.dst .no,σ.m⟩ K
   |_=>False):uM e ds (o::os) σ K:=λhe U w0 S0 nt a w ops Q bJ hd hQ hs=>by
 unfold wpList;obtain⟨S,L,h1⟩:=id hs;subst bJ;split at h
 ·rename_i b hb;rw[ZzH h1 hg hb];by_cases jh:b=bN
  ·rw[if_pos jh]at h;simp only[jh,decide_true,if_true];exact .inl (Oper.wp_mono (λa' w'⟨y',hK,hS⟩=>hK he U w0 S0 nt a' w' ops Q rfl (λo' cr=>hd o' (by simp[cr])) hQ hS) (h he U w0 S0 nt a w Q (hd o (by simp)) hs))
  ·rw[if_neg jh]at h;simp only[jh,decide_false,Tam,if_false];exact h he U w0 S0 nt _ _ ops Q rfl (λo' cr=>hd o' (by simp[cr])) hQ ⟨S,L,h1.put (α:=.no) rfl (hd o (by simp))⟩
 ·rename_i hb;simp only[Tav]at hb;obtain⟨d,f8,iG⟩:=hb;have h3:=h1.rel d;rw[iG]at h3;rw[ZiP (d:=d) hg (A8 f8) h3];simp only[Tam,if_false];exact h he U w0 S0 nt _ _ ops Q rfl (λo' cr=>hd o' (by simp[cr])) hQ ⟨S,L,h1.put (α:=.no) rfl (hd o (by simp))⟩
 ·exact h.elim
def Zmj(he:e.Ok)(ops:GL){K:GR}{Q:Exit->Act->World->Prop}(hQ:∀a w y',K y'->aS e U w0 S0 nt y' a w->Q .normal a w)(os:GL)(σ:St)(a:Act)(w:World)(hd:∀o∈os,∀d,o.dst=some d->d<nt)(h:aS e U w0 S0 nt σ a w)(hp:an e (ops.map (·.dst)) 0 os σ K):wpList e.P ops.toArray Q os a w:=by
 exact(by simpa only[an]using hp:uM e (ops.map (·.dst)) os σ K) he U w0 S0 nt a w ops Q rfl hd hQ h
end
section
variable{e:Env}{U:GO}{w0:World}{S0:GO}{nt:Nat}{ops:Array Oper}{n:Nat}
structure HeadAt(ops:Array Oper)(n i:Nat)(o:Oper)(d:Nat):Prop where
 op:ops[i]?=some o
 dst:o.dst=some d
 back:∀e∈o.after,Region.binds .any e->e.on<i
 guard:∀j bN,o.guard=some (j,bN)->j<n/\Region.waitsFor .any ops i j=true
 dep:∀(j:Nat)(p:Oper),j<n->ops[j]?=some p->(j≠i->p.dst≠some d)/\(∀t∈rx o,p.dst=some t->Region.waitsFor .any ops i j)
def nj.get (h:nj ops n) {i:Nat} (hi:i<n):∃o d,HeadAt ops n i o d:=by
 have h1:=List.all_eq_true.1 h i (List.mem_range.2 hi)
 cases ho:ops[i]? with
 |none=>rw[ho]at h1;simp at h1
 | some o =>
  rw[ho]at h1;simp only[Tar]at h1;obtain⟨⟨⟨h2,h3⟩,h5⟩,h4⟩:=h1;obtain⟨d,hd⟩:=Option.isSome_iff_exists.1 h2;refine⟨o,d,ho,hd,λe he hb=>?_,λj bN hg=>?_,λj p hj hp=>?_⟩
  ·have:=Array.all_eq_true'.1 h3 e he;simpa[hb]using this
  ·rw[hg]at h5;simpa using h5
  ·have h5:=List.all_eq_true.1 h4 j (List.mem_range.2 hj);rw[hp]at h5;simp only[Tar,Bool.or_eq_true,beq_iff_eq,bne_iff_ne,ne_eq,Bool.not_eq_true']at h5;refine⟨λaP hpd=>?_,λt ht gn=>?_⟩
   ·rcases h5.1 with h|h
    ·exact aP h
    ·exact h (hpd.trans hd.symm)
   ·rcases h5.2 with h|h
    ·have:=List.any_eq_false.1 h t ht;simp[gn]at this
    ·exact h
def HeadAt.waits{i:Nat}{o:Oper}{d j:Nat}(h:HeadAt ops n i o d)(hw:Region.waitsFor .any ops i j):∃e∈o.after,Region.binds .any e/\e.on=j:=by
 obtain⟨p3,tH,e,he,mP,Gp⟩:=Region.waitsFor_spec hw;rw[h.op]at tH;injection tH with tH
 subst tH;exact⟨e,he,mP,Gp⟩
def yI(e:Env)(U:GO)(base:Nat)(S0:GO)(m:it)(ops:GL)(o:Oper)(s:d3)(α:A):Prop :=
 match o.guard with
 |none=>iC e U base S0 m o (aL s) α
 |some (j,bN)=>(∃b,((ops.map (·.dst))[j]?).join.map (gs s)=some (GX b)/\if b=bN then iC e U base S0 m o (aL s) α else α=.no)\/(((ops.map (·.dst))[j]?).join.map (gs s)=some .no/\α=.no)
def qn(e:Env)(U:GO)(base:Nat)(S0:GO)(m:it)(ops:GL):GL->d3->List A->Prop
 |[],_,[]=>True
 |o::os,s,α::D'=>yI e U base S0 m ops o s α/\qn e U base S0 m ops os (aD s o.dst α) D'
 |_,_,_=>False
def after:d3->GL->List A->d3
 |s,o::os,α::D'=>after (aD s o.dst α) os D'
 |s,_,_=>s
def Cv (he:e.Ok) (base:Nat) (S0:GO) (l:GL) {K:GR} (rest:GL) (k:Nat):∀(os:GL)(σ:St),(k=0->∀o,os.getLast?=some o->jO o=false)->an e (l.map (·.dst)) (os.length+k) (os++rest) σ K ->
  ∃D',D'.length=os.length/\qn e U base S0 σ.m l os σ.s D'/\an e (l.map (·.dst)) k rest ⟨after σ.s os D',σ.m⟩ K
 |[],σ,_,h=>⟨[],rfl,trivial,by rw[Tak,Nat.zero_add]at h;exact h⟩
 | o::os,σ,hl,h=>by
  have ih:=λ(y':St)(h':an e (l.map (·.dst)) (os.length+k) (os++rest) y' K)=>Cv he base S0 l rest k os y' (λhk o' cr=>by
   cases os with
   |nil=>cases cr
   |cons p ps=>exact hl hk o' (by rw[List.getLast?_cons_cons];exact cr)) h'
  rw[Tag,show os.length+1+k=(os.length+k)+1 by omega]at h;simp only[Taf,an]at h
  cases hg:o.guard with
  | none =>
   rw[hg]at h;simp only at h;have Ao:¬(os.length+k=0/\jO o):=λ⟨h1,h2⟩=>by
    have h3:os=[]:=Tao om;subst h3;rw[hl om o rfl]at h2
    cases h2
   rw[if_neg Ao]at h;obtain⟨α,h1,h2⟩:=h he;obtain⟨D',h3,h4,h5⟩:=ih _ h1;exact⟨α::D',by simp[h3],⟨by unfold yI;rw[hg];exact h2 U base S0,h4⟩,h5⟩
  | some jw =>
   obtain⟨j,bN⟩:=jw;rw[hg]at h;simp only at h;split at h
   ·rename_i b hb;by_cases jh:b=bN
    ·rw[if_pos jh]at h;obtain⟨α,h1,h2⟩:=h he;obtain⟨D',h3,h4,h5⟩:=ih _ h1;exact⟨α::D',by simp[h3],⟨by unfold yI;rw[hg];exact .inl ⟨b,hb,by rw[if_pos jh];exact h2 U base S0⟩,h4⟩,h5⟩
    ·rw[if_neg jh]at h;obtain⟨D',h3,h4,h5⟩:=ih _ h;exact⟨.no::D',by simp[h3],⟨by unfold yI;rw[hg];exact .inl ⟨b,hb,by rw[if_neg jh]⟩,h4⟩,h5⟩
   ·rename_i hb;obtain⟨D',h3,h4,h5⟩:=ih _ h;exact⟨.no::D',by simp[h3],⟨by unfold yI;rw[hg];exact .inr ⟨hb,rfl⟩,h4⟩,h5⟩
   ·exact h.elim
def qn.get{base:Nat}{m:it}{l:GL}:∀{os:GL}{s:d3}{D':List A},qn e U base S0 m l os s D'->∀(i:Nat)(o:Oper),os[i]?=some o->∃α,D'[i]?=some α/\yI e U base S0 m l o (after s (os.take i) (D'.take i)) α
 |[],_,_,_,i,o,h=>by simp at h
 |p::os,s,[],h,_,_,_=>by simp[qn]at h
 |p::os,s,α::D',h,0,o,ho=>by
  simp at ho;subst ho;exact⟨α,by simp,by simpa[after]using h.1⟩
 |p::os,s,α::D',h,i+1,o,ho=>by
  obtain⟨β,h1,h2⟩:=qn.get h.2 i o (by simpa using ho);exact⟨β,by simpa using h1,by simpa[after]using h2⟩
def Ck{t:Nat}:∀(os:GL)(D':List A)(s:d3),(∀o∈os,o.dst≠some t)->gs (after s os D') t=gs s t
 |[],D',s,_=>by cases D'<;>rfl
 |o::os,[],s,_=>rfl
 | o::os,α::D',s,h=>by
  simp only[after];rw[Ck os D' _ (λp hp=>h p (by simp[hp]))]
  cases hd:o.dst with
  |none=>rfl
  |some d =>
   have:t≠d:=λe=>h o (by simp) (by rw[hd,e]);simp[aD,gs,this]
def Zd7{t:Nat}:∀(os:GL)(D':List A)(s:d3)(i:Nat)(o:Oper)(α:A),os[i]?=some o->D'[i]?=some α->o.dst=some t->(∀(j:Nat)(p:Oper),j≠i->os[j]?=some p->p.dst≠some t)->gs (after s os D') t=α
 |[],_,_,_,_,_,h,_,_,_=>by simp at h
 |_::_,[],_,_,_,_,_,h,_,_=>by simp at h
 |p::os,β::D',s,0,o,α,h1,h2,h3,h4=>by
  simp at h1 h2;subst h1 h2;simp only[after];rw[Ck os D' _ (λq hq=>by obtain⟨j,hj⟩:=List.mem_iff_getElem?.1 hq;exact h4 (j+1) q om (by simpa using hj))];simp[h3,aD,gs]
 |p::os,β::D',s,i+1,o,α,h1,h2,h3,h4=>by
  simp only[after];exact Zd7 os D' _ i o α (by simpa using h1) (by simpa using h2) h3 (λj q hj hq=>h4 (j+1) q om (by simpa using hq))
structure InvA(e:Env)(U:GO)(w0:World)(S0:GO)(nt:Nat)(m:it)(ops:Array Oper)(n:Nat)(s:d3)(D':List A)(L:Lay)(aa:Array Bool)(a:Act)(w:World)(S:GO):Prop where
 head:HeadInv .any ops n aa
 size:a.tmps.size=nt
 defers:a.defers=[]
 Ξ:Cls e U w0.heap.size S0 m w S L
 kept:Kept e.D (λb=>e.E b\/U b) w0.heap.size w0 w
 out:∀t,(∀(i:Nat)(o:Oper),i<n->ops[i]?=some o->o.dst≠some t)->aw w S L (gs s t) (a.tmps.getD t undef)
 done:∀(i:Nat)(o:Oper)(d:Nat)(α:A),i<n->aa.getD i false->ops[i]?=some o->o.dst=some d->D'[i]?=some α->aw w S L α (a.tmps.getD d undef)
variable{m:it}{s:d3}{D':List A}{L:Lay}
def InvA.operand(hH:nj ops n)(hn:n<=ops.size){aa:Array Bool}{a:Act}{w:World}{S:GO}(hI:InvA e U w0 S0 nt m ops n s D' L aa a w S)(di:D'.length=n){i:Nat}{o:Oper}{d:Nat}(hA:HeadAt ops n i o d)(hi:i<n)
  (hall:∀e∈o.after,Region.binds .any e->aa.getD e.on false) {t:Nat} (hw:∀(j:Nat)(p:Oper),j<n->ops[j]?=some p->p.dst=some t->Region.waitsFor .any ops i j) :
  aw w S L (gs (after s (ops.toList.take i) (D'.take i)) t) (a.tmps.getD t undef):=by
 by_cases nv:∃(j:Nat)(p:Oper),j<n/\ops[j]?=some p/\p.dst=some t
 ·obtain⟨j,p,hj,hp,gn⟩:=nv;obtain⟨e',he',mP,Gp⟩:=hA.waits (hw j p hj hp gn);have hl:=hall e' he' mP;rw[Gp]at hl;have fu:=hA.back e' he' mP;rw[Gp]at fu;obtain⟨α,G8⟩:∃α,D'[j]?=some α:=⟨D'[j],Taa om⟩;obtain⟨p',d',hP⟩:=nj.get hH hj;have hpp:p'=p:=by have:=hP.op;rw[hp]at this;injection this with this;exact this.symm
  subst hpp;have hdt:d'=t:=by have:=hP.dst;rw[gn]at this;injection this with this;exact this.symm
  subst hdt;rw[Zd7 (ops.toList.take i) (D'.take i) s j p' α (by rw[List.getElem?_take,if_pos fu];simpa using hp) (by rw[List.getElem?_take,if_pos fu];exact G8) gn (λk q hk hq=>by
   rw[List.getElem?_take]at hq;split at hq
   ·exact(hP.dep k q om (by simpa using hq)).1 hk
   ·cases hq)]
  exact hI.done j p' d' α hj hl hp gn G8
 ·have bT:∀(j:Nat)(p:Oper),j<n->ops[j]?=some p->p.dst≠some t:=λj p hj hp hd=>nv ⟨j,p,hj,hp,hd⟩;rw[Ck _ _ _ (λp hp=>by
   obtain⟨j,hj⟩:=List.mem_iff_getElem?.1 hp;rw[List.getElem?_take]at hj;split at hj
   ·exact bT j p om (by simpa using hj)
   ·cases hj)]
  exact hI.out t bT
def InvA.put(hH:nj ops n){aa:Array Bool}{a:Act}{w:World}{S:GO}(hI:InvA e U w0 S0 nt m ops n s D' L aa a w S){i:Nat}{o:Oper}{d:Nat}{α:A}{v:Value}(hA:HeadAt ops n i o d)(hi:i<n)(hr:i∈Region.ready .any ops aa)(ep:d<nt)
  (G8:D'[i]?=some α) (hS:∀b,S b->S' b) (hC:Cls e U w0.heap.size S0 m w' S' L) (hk:Kept e.D e.E w.heap.size w w') (hv:aw w' S' L α v) :
  InvA e U w0 S0 nt m ops n s D' L (aa.setIfInBounds i true) (a.put o.dst v) w' S':=by
 have am:d<a.tmps.size:=by rw[hI.size];exact ep
 rw[hA.dst];refine⟨hI.head.set hr hi,by simp[Act.put,hI.size],by simp[Act.put,hI.defers],hC,hI.kept.trans ⟨hk.os,hk.tape,hk.output,hk.drawn,hk.size,λb hb hE=>hk.block b (by have:=hI.Ξ.bsz;omega) (λh1=>hE (.inl h1))⟩,λt ht=>?_,λj p dj β hj hl hp iI H7=>?_⟩
 ·rw[tY am];have:t≠d:=λeq=>ht i o hi hA.op (by rw[hA.dst,eq]);rw[if_neg this];exact(hI.out t ht).Ε hk.size (hI.Ξ.cell hk) hS
 ·rw[tY am];by_cases fu:j=i
  ·subst fu;rw[hA.op]at hp;injection hp with hp
   subst hp;rw[hA.dst]at iI;injection iI with iI
   subst iI;rw[G8]at H7;injection H7 with H7
   subst H7;simpa using hv
  ·have aP:dj≠d:=λeq=>(hA.dep j p hj hp).1 fu (by rw[iI,eq]);rw[if_neg aP];rw[getD_set_ne false (Ne.symm fu)]at hl;exact(hI.done j p dj β hj hl hp iI H7).Ε hk.size (hI.Ξ.cell hk) hS
def Zh5(hH:nj ops n){aa:Array Bool}(hh:HeadInv .any ops n aa){i:Nat}(hi:i<n)(iZ:aa.getD i true=false):Region.ready .any ops aa≠[]:=by
 induction i using Nat.strongRecOn with
 | _ i ih =>
  obtain⟨o,d,hA⟩:=nj.get hH hi;by_cases hall:∀e∈o.after,Region.binds .any e->aa.getD e.on false=true
  ·intro h0;have:=mem_ready.2 ⟨iZ,o,hA.op,hall⟩;rw[h0]at this
   cases this
  ·simp only[Classical.not_forall]at hall;obtain⟨e,he,hb,hl⟩:=hall;have am:=hA.back e he hb;have hs:e.on<aa.size:=by rw[hh.size];have:=(Tbm.1 hA.op).1;omega
   exact ih e.on am om (by rw[nG hs];simpa using hl)
def Zlc(e:Env)(U:GO)(w0:World)(S0:GO)(nt:Nat)(m:it)(ops:Array Oper)(n:Nat)(s:d3)(D':List A)(L:Lay)(J:Array Bool->Act->World->(GO)->Prop)(Q:Exit->Act->World->Prop):Prop :=
 ∀(aa:Array Bool)(a:Act)(w:World)(S:GO)(i:Nat)(o:Oper)(d:Nat)(α:A),InvA e U w0 S0 nt m ops n s D' L aa a w S->J aa a w S->HeadAt ops n i o d->i<n->i∈Region.ready .any ops aa->d<nt->D'[i]?=some α ->
  (∀x∈o.op.operands,aw w S L (aL (after s (ops.toList.take i) (D'.take i)) x) (a.eval x))->iC e U w0.heap.size S0 m o (aL (after s (ops.toList.take i) (D'.take i))) α ->
  o.wp e.P a w (λa' w'=>∃S',InvA e U w0 S0 nt m ops n s D' L (aa.setIfInBounds i true) a' w' S'/\J (aa.setIfInBounds i true) a' w' S') Q
def Zja(hH:nj ops n)(Q:Exit->Act->World->Prop):Zlc e U w0 S0 nt m ops n s D' L (λ_ _ _ _=>True) Q :=
 λaa a w S i o d α hI _ hA dD hr ep G8 bE hG=>ym (hG w S L a.eval hI.Ξ bE) λv w'⟨S',hS,hC,hk,hv⟩=>⟨S',hI.put hH hA dD hr ep G8 hS.1 hC hk hv,trivial⟩
def Cm {J:Array Bool->Act->World->(GO)->Prop} (he:e.Ok) (hH:nj ops n) (hn:n<=ops.size) (hs:n<ops.size->Region.sinkB .any ops n/\Region.chainB .any ops n) (rY:Region.seqB .any ops (ops.size-n) n (ni ops.size n))
  (bP:∀(i:Nat)(o:Oper)(d:Nat),i<n->ops[i]?=some o->o.dst=some d->d<nt) (di:D'.length=n) (nu:qn e U w0.heap.size S0 m ops.toList (ops.toList.take n) s D') {Q:Exit->Act->World->Prop} (pR:Zlc e U w0 S0 nt m ops n s D' L J Q)
  (xI:∀(aa:Array Bool)(a:Act)(w:World)(S:GO)(i:Nat)(o:Oper)(d:Nat),J aa a w S->InvA e U w0 S0 nt m ops n s D' L aa a w S->HeadAt ops n i o d->i<n->i∈Region.ready .any ops aa->d<nt->o.guard≠none->J (aa.setIfInBounds i true) (a.put o.dst undef) w S)
  (fq:∀aa a w S,InvA e U w0 S0 nt m ops n s D' L aa a w S->J aa a w S->(∀i,i<n->aa.getD i false)->wpList e.P ops Q (ops.toList.drop n) a w) :
  ∀(k:Nat)(aa:Array Bool)(a:Act)(w:World)(S:GO),InvA e U w0 S0 nt m ops n s D' L aa a w S->J aa a w S->(List.range n).countP (λi=>!aa.getD i true)=k->wpAny e.P .any ops Q (k+(ops.size-n)) aa a w
 | 0,aa,a,w,S,hI,hJ,hc=>by
  have hall:∀i,i<n->aa.getD i true:=λi hi=>by
   have:=List.countP_eq_zero.1 hc i (List.mem_range.2 hi);simpa using this
  have heq:=Zk1 hI.head hn hall;have jX:(ops.toList.drop n).length=ops.size-n:=by simp
  have hE:=fq aa a w S hI hJ (λi hi=>by
   have hl:i<aa.size:=by rw[hI.head.size];omega
   rw[<- nG hl];exact hall i hi)
  have:=wpAny_of_seq (md:=.any) (Q':=Q) (ops.toList.drop n) n aa a w (λj=>by simp[Tbb]) (by rw[jX,heq];exact rY) hE;rw[jX]at this;simpa using this
 | k+1,aa,a,w,S,hI,hJ,hc=>by
  obtain⟨i0,sH,jt⟩:∃i,i<n/\aa.getD i true=false:=by
   have:0<(List.range n).countP (λi=>!aa.getD i true):=om;obtain⟨i,hi,hp⟩:=List.countP_pos_iff.1 this;exact⟨i,List.mem_range.1 hi,by simpa using hp⟩
  rw[show k+1+(ops.size-n)=(k+(ops.size-n))+1 by omega];refine⟨λh0=>absurd h0 (Zh5 hH hI.head sH jt),λi hr=>?_⟩;obtain⟨iZ,oi,fU,hall⟩:=mem_ready.1 hr;have dD:i<n:=by
   rcases Nat.lt_or_ge i n with h|h
   ·exact h
   ·have uq:n<ops.size:=Tbf h (Tbm.1 fU).1;exact absurd hr (tail_waits (hs uq).1 (hs uq).2 uq hI.head _ i0 rfl sH jt i h)
  obtain⟨o,d,hA⟩:=nj.get hH dD;have hoo:oi=o:=by have:=hA.op;rw[fU]at this;injection this
  subst hoo;have iJ:i<aa.size:=by rw[hI.head.size];exact(Tbm.1 fU).1
  obtain⟨α,G8,aZ⟩:=nu.get i oi (by rw[List.getElem?_take,if_pos dD];simpa using fU);have da:(ops.toList.take n).take i=ops.toList.take i:=by rw[List.take_take,Nat.min_eq_left om]
  rw [da]at aZ;have ep:=bP i oi d dD fU hA.dst;have fH:(List.range n).countP (λj=>!(aa.setIfInBounds i true).getD j true)=k:=by
   have h1:(List.range n).countP (λj=>!(aa.setIfInBounds i true).getD j true)+1=(List.range n).countP (λj=>!aa.getD j true):=by
    have d5:=List.perm_cons_erase (List.mem_range.2 dD);rw[d5.countP_eq,d5.countP_eq,List.countP_cons,List.countP_cons];have jq:((List.range n).erase i).countP (λj=>!(aa.setIfInBounds i true).getD j true)=((List.range n).erase i).countP (λj=>!aa.getD j true):=by
     refine List.countP_congr λj hj=>?_;have aP:j≠i:=λe=>by
      subst e;exact List.Nodup.not_mem_erase (List.nodup_range) hj
     rw[getD_set_ne true (Ne.symm aP)]
    rw[jq,iZ];simp[iJ]
   omega
  have bE:∀x∈oi.op.operands,aw w S L (aL (after s (ops.toList.take i) (D'.take i)) x) (a.eval x):=λx hx=>by
   cases x with
   |tmp t =>
    exact hI.operand hH hn di hA dD hall (λj p hj hp gn=>(hA.dep j p hj hp).2 t (List.mem_filterMap.2 ⟨.tmp t,by simpa using hx,rfl⟩) gn)
   |const v =>
    simp only[aL,Act.eval];unfold wO;split
    ·simp only[aw,aX,aR];exact⟨⟨none,0,0,rfl,rfl,Tai _,by decide,λh=>absurd h (by decide)⟩,none,0,rfl⟩
    ·rename_i vs;exact⟨vs.toList,rfl,AY _⟩
    ·simp[aw,aX,aR]
   |func f =>
    simp only[aL,Act.eval,aw,aX,aR];exact⟨[],rfl,by simp[aC]⟩
   |global g=>trivial
  have go:iC e U w0.heap.size S0 m oi (aL (after s (ops.toList.take i) (D'.take i))) α->oi.wp e.P a w (wpAny e.P .any ops Q (k+(ops.size-n)) (aa.setIfInBounds i true)) Q:=λhG =>
   Oper.wp_mono (λa' w'⟨S',um,hJ'⟩=>Cm he hH hn hs rY bP di nu pR xI fq k _ _ _ S' um hJ' fH) (pR aa a w S i oi d α hI hJ hA dD hr ep G8 bE hG)
  unfold wpOp;simp only[fU];unfold yI at aZ
  cases hg:oi.guard with
  |none =>
   rw[hg]at aZ;have qF:Region.wanted oi (yielded ops a.tmps):=by simp[Region.wanted,hg]
   rw[if_pos qF];exact .inl (go aZ)
  | some jw =>
   obtain⟨j,bN⟩:=jw;rw[hg]at aZ;obtain⟨DK,hjw⟩:=hA.guard j bN hg;have my:∀dj,((ops[j]?).bind (·.dst))=some dj->aw w S L (gs (after s (ops.toList.take i) (D'.take i)) dj) (a.tmps.getD dj undef):=λdj iI=>hI.operand hH hn di hA dD hall (t:=dj) (λj' p mQ hp gn=>by
    obtain⟨p0,d0,xj⟩:=nj.get hH DK;have sF:d0=dj:=by have:=iI;rw[xj.op]at this;simp[xj.dst]at this;exact this
    by_cases BK:j'=j
    ·rw[BK];exact hjw
    ·exact absurd (by rw[gn,sF]) ((xj.dep j' p mQ hp).1 BK))
   rcases aZ with⟨b,f8,iG⟩|⟨f8,iG⟩
   rotate_left
   ·simp only[Tav]at f8;obtain⟨dj,qV,lH⟩:=f8;have iI:((ops[j]?).bind (·.dst))=some dj:=by simpa using A8 qV
    have cv:=my dj iI;rw[lH]at cv;rw[ZiP hg iI cv];subst iG;simp only[Tam,if_false];exact Cm he hH hn hs rY bP di nu pR xI fq k _ _ _ S (hI.put hH hA dD hr ep G8 (λ_ h=>h) hI.Ξ (Kept.refl _ _ _ _) rfl) (xI aa a w S i oi d hJ hI hA dD hr ep (by rw[hg];simp)) fH
   simp only[Tav]at f8;obtain⟨dj,qV,lH⟩:=f8;have iI:((ops[j]?).bind (·.dst))=some dj:=by simpa using A8 qV
   have cv:=my dj iI;rw[lH]at cv;have h4:=ZiO cv.bool;have qF:Region.wanted oi (yielded ops a.tmps)=decide (b=bN):=by
    have h6:yielded ops a.tmps j=some b:=by unfold yielded;rw[iI];simp only[Option.bind_some,h4]
    simp only[Region.wanted,hg,h6]
    cases b<;>cases bN<;>rfl
   rw[qF];by_cases jh:b=bN
   ·rw[if_pos jh]at iG;simp only[jh,decide_true,if_true];exact .inl (go iG)
   ·rw[if_neg jh]at iG;subst iG;simp only[jh,decide_false,Tam,if_false];exact Cm he hH hn hs rY bP di nu pR xI fq k _ _ _ S (hI.put hH hA dD hr ep G8 (λ_ h=>h) hI.Ξ (Kept.refl _ _ _ _) rfl) (xI aa a w S i oi d hJ hI hA dD hr ep (by rw[hg];simp)) fH
end
end Go.Proofs.YtaenibhihgfehaaGreatDoor
