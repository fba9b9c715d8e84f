/-
  Part of a proof: Sd, Sa, Te, Gd, Sg, Tf, Tg, Th, Tk, Vt, Sy, Ti, Tj, Bu, Ra, LBinding, Bb, Gv, Gt, Ap, Ow, Sb.
-/
import Derived.Test.YtffmjghcpgpfpaaGreatDoorBIsUnifierCard0
import Derived.Test.YtffmjghcpgpfpaaGreatDoorBIsUnifierCard1
import Derived.Test.YtffmjghcpgpfpaaGreatDoorBIsUnifierCard2
import Derived.Test.YtffmjghcpgpfpaaGreatDoorRows
import Derived.Deep.RegionHeld3
set_option linter.unusedSimpArgs false
set_option linter.unusedVariables false
namespace Go.Proofs.YtffmjghcpgpfpaaGreatDoor
open Go.RowKit
def encOrd (s:Srt):List C:=[.sl (nR (up s)),.sl (nR (down s)),.sl (nR (kinds s))]
theorem encOrd_u:∀ s,encOrd s=[.sl (nR (up s)),.sl (nR (down s)),.sl (nR (kinds s))]:=fun _=>rfl
section
variable {s:Srt}
theorem kdg (hs:SortsOk s) {k:Int} (h:0<=k∧k < s.names.length):(nR (kinds s))[k.toNat]?=some [.lit (.int .i64 (kd s k:Nat))]:=by
 have hk:=kinds_ok (SortsOk.subsIn hs.subs)
 have hl:k.toNat < (kinds s).length:=by rw [hk.1];omega
 rw [nR_get (List.getElem?_eq_getElem hl),kd,List.getD_eq_getElem?_getD,List.getElem?_eq_getElem hl]
 rfl
theorem kd_len (hs:SortsOk s):(nR (kinds s)).length=s.names.length:=by rw [nR_len,(kinds_ok (SortsOk.subsIn hs.subs)).1]
set_option maxHeartbeats 4000000 in
set_option maxRecDepth 100000 in
theorem con_hasS (hs:SortsOk s) (k:Int):Con e0 174 [.agg (encOrd s),.one (.lit (.int .i64 k))] [.one (.lit (.bool (decide (0<=k∧k < s.names.length))))]:=by
 have hl:(nR (up s)).length=s.names.length:=by rw [nR_len,(up_ok (SortsOk.subsIn hs.subs)).1]
 rw [encOrd]
 refine gI 23 Tryz.func174 ?_
 by_cases h0:0<=k
 ·by_cases h1:k < s.names.length
  ·(have F:=ai @h0 (ai @hl @h1);refine gG ?_;exact gT)
  ·(have F:=ai @h0 (ai @hl @h1);refine gG ?_;exact gT)
 ·(have F:=@h0;refine gG ?_;exact gT)
theorem get_nextI {l:List Int} {p:Int->Prop} {j:Nat} {c:Int} (hc:l[j]?=some c) (h:∀ (i:Nat) (c:Int),i < j->l[i]?=some c->p c) (hp:p c):∀ (i:Nat) (c:Int),i < j+1->l[i]?=some c->p c:=fun i c' hi hc'=>by
 by_cases hij:i=j
 ·subst hij;rw [hc] at hc';injection hc' with hc';subst hc';exact hp
 ·exact h i c' (by omega) hc'
theorem kargs_next {f d:Dcl} {i:Nat} {a:Int} (ha:d.args[i]?=some a) (hall:∀ (i':Nat) a,i' < i->d.args[i']?=some a->(0<=a∧a < s.names.length)∧∀ b,f.args[i']?=some b->kd s a=kd s b) (h1:0<=a∧a < s.names.length) (h2:∀ b,f.args[i]?=some b->kd s a=kd s b) :
  ∀ (i':Nat) a,i' < i+1->d.args[i']?=some a->(0<=a∧a < s.names.length)∧∀ b,f.args[i']?=some b->kd s a=kd s b:=fun i' a' h ha'=>by
 by_cases e:i'=i
 ·subst e
  rw [ha] at ha'
  injection ha' with ha'
  subst ha'
  exact ⟨h1,h2⟩
 ·exact hall i' a' (by omega) ha'
theorem declOk_of {f d:Dcl} (h1:d.args.length=f.args.length) (h2:0<=d.res∧d.res < s.names.length) (h3:kd s d.res=kd s f.res) (hall:∀ (i':Nat) a,i' < d.args.length->d.args[i']?=some a->(0<=a∧a < s.names.length)∧∀ b,f.args[i']?=some b->kd s a=kd s b):DeclOk s f d :=
 ⟨h1,h2,fun k hk=>by obtain ⟨i,hi⟩:=List.getElem?_of_mem hk;exact (hall i k (List.getElem?_eq_some_iff.1 hi).1 hi).1,h3,fun i a b ha hb=>(hall i a (List.getElem?_eq_some_iff.1 ha).1 ha).2 b hb⟩
theorem decls_next {l:List Dcl} {P:Dcl->Prop} {j:Nat} {d:Dcl} (hd:l[j]?=some d) (hall:∀ (j':Nat) d,j' < j->l[j']?=some d->P d) (h:P d):∀ (j':Nat) d,j' < j+1->l[j']?=some d->P d:=fun j' d' hj hd'=>by
 by_cases e:j'=j
 ·subst e
  rw [hd] at hd'
  injection hd' with hd'
  subst hd'
  exact h
 ·exact hall j' d' (by omega) hd'
set_option maxHeartbeats 8000000 in
set_option maxRecDepth 100000 in
theorem con_implDecls (hs:SortsOk s) (o:Opr):Con e0 161 [.agg (encOrd s),.agg (encOpr o)] [.one (.lit (.bool (declsOk s o)))]:=by
 have hno:¬ DeclsOk s o->declsOk s o=false:=declsOk_false
 have cH:=con_hasS hs
 have rK:=nR_rows (l:=kinds s)
 rw [encOrd] at cH ⊢
 rw [encOpr]
 refine gI 83076759175850041743779962279694015 Tryz.func161 ?_
 by_cases h1:1<=o.decls.length
 rotate_left
 ·have hf:=hno fun h=>h1 h.len1
  have z1:((o.decls.length:Int) < 1)=True:=eq_true (by omega)
  (have F:=ai @z1 @hf;refine gG ?_;exact gT)
 have z1:((o.decls.length:Int) < 1)=False:=eq_false (by omega)
 by_cases h4:o.decls.length<=4
 rotate_left
 ·have hf:=hno fun h=>h4 h.len4
  have z2:((4:Int) < (o.decls.length:Int))=True:=eq_true (by omega)
  (have F:=ai @z1 (ai @z2 @hf);refine gG ?_;exact gT)
 have z2:((4:Int) < (o.decls.length:Int))=False:=eq_false (by omega)
 obtain ⟨f,hf0⟩:∃ f,o.decls[0]?=some f:=⟨_,List.getElem?_eq_getElem (by omega)⟩
 have hfm:=List.mem_of_getElem? hf0
 by_cases h3:f.args.length<=3
 rotate_left
 ·have hf:=hno fun h=>h3 (h.ar f hf0)
  have z3:((3:Int) < (f.args.length:Int))=True:=eq_true (by omega)
  (have F:=ai @z1 (ai @z2 (ai @hf0 (ai @encDcl_u (ai @z3 @hf))));refine gG ?_;exact gT)
 have z3:((3:Int) < (f.args.length:Int))=False:=eq_false (by omega)
 (have F:=ai @z1 (ai @z2 (ai @hf0 (ai @encDcl_u @z3)));refine gG ?_;clear F)
 refine gB ?_
 (have F:=@e0P;refine gC (cH f.res) ?_;clear F)
 by_cases hr:0<=f.res∧f.res < (s.names.length:Int)
 rotate_left
 ·have hf:=hno fun h=>hr (h.all f hf0 f hfm).res
  have y1:decide (0<=f.res∧f.res < (s.names.length:Int))=false:=decide_eq_false hr
  (have F:=@y1;refine gR ?_;clear F)
  (have F:=@hf;refine gG ?_;exact gT)
 have y1:decide (0<=f.res∧f.res < (s.names.length:Int))=true:=decide_eq_true hr
 have gr:=kdg hs hr
 have ir:=hr.1
 (have F:=@y1;refine gR ?_;clear F)
 (have F:=@e0P;refine gG ?_;clear F)
 (have F:=@e0P;refine gL (ι:=Nat) [4,7,43,44,50] [] (fun i=>[(43,A.d (.one (.lit (.int .i64 i))))]) (fun i=>[]) (fun i=>i<=f.args.length∧∀ (i':Nat) k,i' < i->f.args[i']?=some k->0<=k∧k < s.names.length) (fun i=>f.args.length - i) (0) (⟨Nat.zero_le _,fun i' k h=>absurd h (by omega)⟩) (fun i hi=>?_);clear F)
 obtain ⟨hil,hfa⟩:=hi
 by_cases hlt:i < f.args.length
 ·have q1:(i:Int) < (f.args.length:Int):=by omega
  obtain ⟨k,hk⟩:∃ k,f.args[i]?=some k:=⟨_,List.getElem?_eq_getElem hlt⟩
  have hw:=wrap1 (k:=i) (by omega)
  (have F:=ai @q1 (ai @hk @encInt_u);refine gG ?_;clear F)
  refine gB ?_
  (have F:=@e0P;refine gC (cH k) ?_;clear F)
  by_cases hkr:0<=k∧k < (s.names.length:Int)
  rotate_left
  ·have hf:=hno fun h=>hkr ((h.all f hf0 f hfm).args k (List.mem_of_getElem? hk))
   have y2:decide (0<=k∧k < (s.names.length:Int))=false:=decide_eq_false hkr
   (have F:=@y2;refine gR ?_;clear F)
   (have F:=@hf;refine gG ?_;exact gT)
  have y2:decide (0<=k∧k < (s.names.length:Int))=true:=decide_eq_true hkr
  have hq:i+1<=f.args.length∧_:=⟨hlt,get_nextI hk hfa hkr⟩
  (have F:=@y2;refine gR ?_;clear F)
  (have F:=@hw;refine gG ?_;exact ⟨i+1,hq,gw,gw,by omega⟩)
 obtain rfl:i=f.args.length:=by omega
 have q1:¬ ((f.args.length:Int) < (f.args.length:Int)):=by omega
 (have F:=@q1;refine gG ?_;clear F)
 (have F:=@e0P;refine gL (ι:=Nat) [4,9,10,11,55,56,87,89,90,91,92,116] [] (fun j=>[(55,A.d (.one (.lit (.int .i64 j))))]) (fun j=>[]) (fun j=>j<=o.decls.length∧∀ (j':Nat) d,j' < j->o.decls[j']?=some d->DeclOk s f d) (fun j=>o.decls.length - j) (0) (⟨Nat.zero_le _,fun j' d h=>absurd h (by omega)⟩) (fun j hj=>?_);clear F)
 obtain ⟨hjl,hdo⟩:=hj
 by_cases hlj:j < o.decls.length
 rotate_left
 ·have q2:¬ ((j:Int) < (o.decls.length:Int)):=by omega
  have ht:=declsOk_true (s:=s) (o:=o) ⟨h1,h4,fun f' h=>by rw [hf0] at h;injection h with h;subst h;exact h3,fun f' h d hd=>by
   rw [hf0] at h;injection h with h;subst h
   obtain ⟨j',hj'⟩:=List.getElem?_of_mem hd
   exact hdo j' d (by have:=(List.getElem?_eq_some_iff.1 hj').1;omega) hj'⟩
  (have F:=ai @q2 @ht;refine gG ?_;exact gT)
 have q2:(j:Int) < (o.decls.length:Int):=by omega
 obtain ⟨d,hd⟩:∃ d,o.decls[j]?=some d:=⟨_,List.getElem?_eq_getElem hlj⟩
 have hdm:=List.mem_of_getElem? hd
 have hwj:=wrap1 (k:=j) (by omega)
 have hbad:¬ DeclOk s f d->declsOk s o=false:=fun h=>hno fun hD=>h (hD.all f hf0 d hdm)
 by_cases hdl:d.args.length=f.args.length
 rotate_left
 ·have hf:=hbad fun h=>hdl h.len
  have y3:((d.args.length:Int)=(f.args.length:Int))=False:=eq_false (by omega)
  (have F:=ai @q2 (ai @hd (ai @encDcl_u (ai @y3 @hf)));refine gG ?_;exact gT)
 have y3:((d.args.length:Int)=(f.args.length:Int))=True:=eq_true (by omega)
 (have F:=ai @q2 (ai @hd @encDcl_u);refine gG ?_;clear F)
 refine gB ?_
 (have F:=@y3;refine gC (cH d.res) ?_;clear F)
 by_cases hdr:0<=d.res∧d.res < (s.names.length:Int)
 rotate_left
 ·have hf:=hbad fun h=>hdr h.res
  have y4:decide (0<=d.res∧d.res < (s.names.length:Int))=false:=decide_eq_false hdr
  (have F:=ai @y3 @y4;refine gR ?_;clear F)
  (have F:=@hf;refine gG ?_;exact gT)
 have y4:decide (0<=d.res∧d.res < (s.names.length:Int))=true:=decide_eq_true hdr
 have gd:=kdg hs hdr
 have id':=hdr.1
 have jd:=hdr.2
 by_cases hkr:kd s d.res=kd s f.res
 rotate_left
 ·have hf:=hbad fun h=>hkr h.kres
  have y5:((kd s d.res:Int)=(kd s f.res:Int))=False:=eq_false (by omega)
  (have F:=ai @y3 (ai @y4 (ai @gr (ai @gd (ai @ir (ai @id' (ai @jd (ai @rK @y5)))))));refine gR ?_;clear F)
  (have F:=@hf;refine gG ?_;exact gT)
 have y5:((kd s d.res:Int)=(kd s f.res:Int))=True:=eq_true (by omega)
 (have F:=ai @y3 (ai @y4 (ai @gr (ai @gd (ai @ir (ai @id' (ai @jd (ai @rK @y5)))))));refine gR ?_;clear F)
 (have F:=@e0P;refine gG ?_;clear F)
 (have F:=@e0P;refine gL (ι:=Nat) [4,10,11,91,92,116] [] (fun i=>[(91,A.d (.one (.lit (.int .i64 i))))]) (fun i=>[]) (fun i=>i<=d.args.length∧∀ (i':Nat) a,i' < i->d.args[i']?=some a->(0<=a∧a < s.names.length)∧∀ b,f.args[i']?=some b->kd s a=kd s b) (fun i=>d.args.length - i) (0) (⟨Nat.zero_le _,fun i' a h=>absurd h (by omega)⟩) (fun i hi=>?_);clear F)
 obtain ⟨hil2,hka⟩:=hi
 by_cases hlt:i < d.args.length
 rotate_left
 ·obtain rfl:i=d.args.length:=by omega
  have q3:¬ ((d.args.length:Int) < (d.args.length:Int)):=by omega
  have hq:j+1<=o.decls.length∧_:=⟨hlj,decls_next hd hdo (declOk_of hdl hdr hkr hka)⟩
  (have F:=ai @q3 @hwj;refine gG ?_;exact ⟨j+1,hq,gw,gw,by omega⟩)
 have q3:(i:Int) < (d.args.length:Int):=by omega
 obtain ⟨a,ha⟩:∃ k,d.args[i]?=some k:=⟨_,List.getElem?_eq_getElem hlt⟩
 obtain ⟨b,hb⟩:∃ k,f.args[i]?=some k:=⟨_,List.getElem?_eq_getElem (by omega)⟩
 have hw:=wrap1 (k:=i) (by omega)
 have hbr:=hfa i b (by omega) hb
 have gb:=kdg hs hbr
 have ib:=hbr.1
 (have F:=ai @q3 (ai @ha @encInt_u);refine gG ?_;clear F)
 refine gB ?_
 (have F:=@e0P;refine gC (cH a) ?_;clear F)
 by_cases har:0<=a∧a < (s.names.length:Int)
 rotate_left
 ·have hf:=hbad fun h=>har (h.args a (List.mem_of_getElem? ha))
  have y6:decide (0<=a∧a < (s.names.length:Int))=false:=decide_eq_false har
  (have F:=@y6;refine gR ?_;clear F)
  (have F:=@hf;refine gG ?_;exact gT)
 have y6:decide (0<=a∧a < (s.names.length:Int))=true:=decide_eq_true har
 have ga:=kdg hs har
 have ia:=har.1
 have ja:=har.2
 by_cases hkk:kd s a=kd s b
 rotate_left
 ·have hf:=hbad fun h=>hkk (h.kargs i a b ha hb)
  have y7:((kd s a:Int)=(kd s b:Int))=False:=eq_false (by omega)
  (have F:=ai @y6 (ai @ga (ai @gb (ai @ia (ai @ja (ai @ib (ai @hb (ai @encInt_u (ai @rK @y7))))))));refine gR ?_;clear F)
  (have F:=@hf;refine gG ?_;exact gT)
 have y7:((kd s a:Int)=(kd s b:Int))=True:=eq_true (by omega)
 have hq:i+1<=d.args.length∧_:=⟨hlt,kargs_next (f:=f) ha hka har fun b' hb'=>by rw [hb] at hb';injection hb' with hb';subst hb';exact hkk⟩
 (have F:=ai @y6 (ai @ga (ai @gb (ai @ia (ai @ja (ai @ib (ai @hb (ai @encInt_u (ai @rK @y7))))))));refine gR ?_;clear F)
 (have F:=@hw;refine gG ?_;exact ⟨i+1,hq,gw,gw,by omega⟩)
set_option maxHeartbeats 8000000 in
set_option maxRecDepth 100000 in
theorem con_l4Decls {g:Sgn} (hs:SortsOk g.sorts) (o:Opr):Con e0 151 [.agg (encSgn g),.agg (encOpr o)] [.one (.lit (.bool (declsOk g.sorts o)))]:=by
 have hno:¬ DeclsOk g.sorts o->declsOk g.sorts o=false:=declsOk_false
 have cK:=con_l3Kinds hs
 rw [show (casts (kinds g.sorts)).map encInt=nR (kinds g.sorts) from rfl] at cK
 have rK:=nR_rows (l:=kinds g.sorts)
 have lK:=kd_len hs
 have n1:=hs.n1
 have n8:=hs.n8
 have hw1n:IntKind.i64.wrap ((g.sorts.names.length:Int) - 1)=(g.sorts.names.length:Int) - 1:=IntWalk.i64_in _ (by omega)
 rw [encSrt] at cK
 rw [encSgn,encOpr]
 refine gI 1298708039934125393111688421573631 Tryz.func151 ?_
 by_cases h1:1<=o.decls.length
 rotate_left
 ·have hf:=hno fun h=>h1 h.len1
  have z1:((o.decls.length:Int) < 1)=True:=eq_true (by omega)
  (have F:=ai @z1 @hf;refine gG ?_;exact gT)
 have z1:((o.decls.length:Int) < 1)=False:=eq_false (by omega)
 by_cases h4:o.decls.length<=4
 rotate_left
 ·have hf:=hno fun h=>h4 h.len4
  have z2:((4:Int) < (o.decls.length:Int))=True:=eq_true (by omega)
  (have F:=ai @z1 (ai @z2 @hf);refine gG ?_;exact gT)
 have z2:((4:Int) < (o.decls.length:Int))=False:=eq_false (by omega)
 obtain ⟨f,hf0⟩:∃ f,o.decls[0]?=some f:=⟨_,List.getElem?_eq_getElem (by omega)⟩
 have hfm:=List.mem_of_getElem? hf0
 by_cases h3:f.args.length<=3
 rotate_left
 ·have hf:=hno fun h=>h3 (h.ar f hf0)
  have z3:((3:Int) < (f.args.length:Int))=True:=eq_true (by omega)
  (have F:=ai @z1 (ai @z2 (ai @hf0 (ai @encDcl_u (ai @z3 @hf))));refine gG ?_;exact gT)
 have z3:((3:Int) < (f.args.length:Int))=False:=eq_false (by omega)
 (have F:=ai @z1 (ai @z2 (ai @hf0 (ai @encDcl_u @z3)));refine gG ?_;clear F)
 refine gB ?_
 (have F:=@e0P;refine gC (cK) ?_;clear F)
 (have F:=@e0P;refine gR ?_;clear F)
 (have F:=ai @hf0 @encDcl_u;refine gG ?_;clear F)
 (have F:=@e0P;refine gL (ι:=Nat) [4,7,8,9,40,63,68,99,110] [] (fun j=>[(7,A.d (.one (.lit (.int .i64 j))))]) (fun j=>[]) (fun j=>j<=o.decls.length∧∀ (j':Nat) d,j' < j->o.decls[j']?=some d->DeclOk g.sorts f d) (fun j=>o.decls.length - j) (0) (⟨Nat.zero_le _,fun j' d h=>absurd h (by omega)⟩) (fun j hj=>?_);clear F)
 obtain ⟨hjl,hdo⟩:=hj
 by_cases hlj:j < o.decls.length
 rotate_left
 ·have q2:¬ ((j:Int) < (o.decls.length:Int)):=by omega
  have ht:=declsOk_true (s:=g.sorts) (o:=o) ⟨h1,h4,fun f' h=>by rw [hf0] at h;injection h with h;subst h;exact h3,fun f' h d hd=>by
   rw [hf0] at h;injection h with h;subst h
   obtain ⟨j',hj'⟩:=List.getElem?_of_mem hd
   exact hdo j' d (by have:=(List.getElem?_eq_some_iff.1 hj').1;omega) hj'⟩
  (have F:=ai @q2 @ht;refine gG ?_;exact gT)
 have q2:(j:Int) < (o.decls.length:Int):=by omega
 obtain ⟨d,hd⟩:∃ d,o.decls[j]?=some d:=⟨_,List.getElem?_eq_getElem hlj⟩
 have hdm:=List.mem_of_getElem? hd
 have hwj:=wrap1 (k:=j) (by omega)
 have hbad:¬ DeclOk g.sorts f d->declsOk g.sorts o=false:=fun h=>hno fun hD=>h (hD.all f hf0 d hdm)
 have hj0:d=f∨DeclOk g.sorts f f:=by
  rcases Nat.eq_zero_or_pos j with h | h
  ·subst h;rw [hf0] at hd;injection hd with hd;exact .inl hd.symm
  ·exact .inr (hdo 0 f h hf0)
 by_cases hdl:d.args.length=f.args.length
 rotate_left
 ·have hf:=hbad fun h=>hdl h.len
  have y3:((d.args.length:Int)=(f.args.length:Int))=False:=eq_false (by omega)
  (have F:=ai @q2 (ai @hd (ai @encDcl_u (ai @y3 @hf)));refine gG ?_;exact gT)
 have y3:((d.args.length:Int)=(f.args.length:Int))=True:=eq_true (by omega)
 (have F:=ai @q2 (ai @hd @encDcl_u);refine gG ?_;clear F)
 refine gB ?_
 (have F:=ai @y3 (ai @lK @hw1n);refine gC (con_l1In d.res 0 ((g.sorts.names.length:Int) - 1)) ?_;clear F)
 by_cases hdr:0<=d.res∧d.res < (g.sorts.names.length:Int)
 rotate_left
 ·have hf:=hbad fun h=>hdr h.res
  have y4:decide (0<=d.res∧d.res<=(g.sorts.names.length:Int) - 1)=false:=decide_eq_false (by omega)
  (have F:=ai @y3 @y4;refine gR ?_;clear F)
  (have F:=@hf;refine gG ?_;exact gT)
 have y4:decide (0<=d.res∧d.res<=(g.sorts.names.length:Int) - 1)=true:=decide_eq_true (by omega)
 have gd:=kdg hs hdr
 have id':=hdr.1
 have hfr:0<=f.res∧f.res < (g.sorts.names.length:Int):=by
  rcases hj0 with h | h
  ·rw [<- h];exact hdr
  ·exact h.res
 have gr:=kdg hs hfr
 have ir:=hfr.1
 (have F:=ai @y3 @y4;refine gR ?_;clear F)
 (have F:=@e0P;refine gG ?_;clear F)
 (have F:=@e0P;refine gL (ι:=Nat) [4,9,68,99] [] (fun i=>[(9,A.d (.one (.lit (.int .i64 i))))]) (fun i=>[]) (fun i=>i<=d.args.length∧∀ (i':Nat) a,i' < i->d.args[i']?=some a->(0<=a∧a < g.sorts.names.length)∧∀ b,f.args[i']?=some b->kd g.sorts a=kd g.sorts b) (fun i=>d.args.length - i) (0) (⟨Nat.zero_le _,fun i' a h=>absurd h (by omega)⟩) (fun i hi=>?_);clear F)
 obtain ⟨hil2,hka⟩:=hi
 by_cases hlt:i < d.args.length
 rotate_left
 ·obtain rfl:i=d.args.length:=by omega
  have q3:¬ ((d.args.length:Int) < (d.args.length:Int)):=by omega
  by_cases hkr:kd g.sorts d.res=kd g.sorts f.res
  rotate_left
  ·have hf:=hbad fun h=>hkr h.kres
   have y5:((kd g.sorts d.res:Int)=(kd g.sorts f.res:Int))=False:=eq_false (by omega)
   (have F:=ai @q3 (ai @gr (ai @gd (ai @ir (ai @id' (ai @rK (ai @y5 @hf))))));refine gG ?_;exact gT)
  have y5:((kd g.sorts d.res:Int)=(kd g.sorts f.res:Int))=True:=eq_true (by omega)
  have hq:j+1<=o.decls.length∧_:=⟨hlj,decls_next hd hdo (declOk_of hdl hdr hkr hka)⟩
  (have F:=ai @q3 (ai @gr (ai @gd (ai @ir (ai @id' (ai @rK (ai @y5 @hwj))))));refine gG ?_;exact ⟨j+1,hq,gw,gw,by omega⟩)
 have q3:(i:Int) < (d.args.length:Int):=by omega
 obtain ⟨a,ha⟩:∃ k,d.args[i]?=some k:=⟨_,List.getElem?_eq_getElem hlt⟩
 obtain ⟨b,hb⟩:∃ k,f.args[i]?=some k:=⟨_,List.getElem?_eq_getElem (by omega)⟩
 have hw:=wrap1 (k:=i) (by omega)
 (have F:=@q3;refine gG ?_;clear F)
 refine gB ?_
 (have F:=ai @ha (ai @encInt_u (ai @lK @hw1n));refine gC (con_l1In a 0 ((g.sorts.names.length:Int) - 1)) ?_;clear F)
 by_cases har:0<=a∧a < (g.sorts.names.length:Int)
 rotate_left
 ·have hf:=hbad fun h=>har (h.args a (List.mem_of_getElem? ha))
  have y6:decide (0<=a∧a<=(g.sorts.names.length:Int) - 1)=false:=decide_eq_false (by omega)
  (have F:=@y6;refine gR ?_;clear F)
  (have F:=@hf;refine gG ?_;exact gT)
 have y6:decide (0<=a∧a<=(g.sorts.names.length:Int) - 1)=true:=decide_eq_true (by omega)
 have y8:(a<=(g.sorts.names.length:Int) - 1)=True:=eq_true (by omega)
 have ga:=kdg hs har
 have ia:=har.1
 have hbr:0<=b∧b < (g.sorts.names.length:Int):=by
  rcases hj0 with h | h
  ·rw [<- h,ha] at hb;injection hb with hb;rw [<- hb];exact har
  ·exact h.args b (List.mem_of_getElem? hb)
 have gb:=kdg hs hbr
 have ib:=hbr.1
 by_cases hkk:kd g.sorts a=kd g.sorts b
 rotate_left
 ·have hf:=hbad fun h=>hkk (h.kargs i a b ha hb)
  have y7:((kd g.sorts a:Int)=(kd g.sorts b:Int))=False:=eq_false (by omega)
  (have F:=ai @y6 (ai @y8 (ai @ga (ai @gb (ai @ia (ai @ib (ai @ha (ai @hb (ai @encInt_u (ai @rK @y7)))))))));refine gR ?_;clear F)
  (have F:=@hf;refine gG ?_;exact gT)
 have y7:((kd g.sorts a:Int)=(kd g.sorts b:Int))=True:=eq_true (by omega)
 have hq:i+1<=d.args.length∧_:=⟨hlt,kargs_next (f:=f) ha hka har fun b' hb'=>by rw [hb] at hb';injection hb' with hb';subst hb';exact hkk⟩
 (have F:=ai @y6 (ai @y8 (ai @ga (ai @gb (ai @ia (ai @ib (ai @ha (ai @hb (ai @encInt_u (ai @rK @y7)))))))));refine gR ?_;clear F)
 (have F:=@hw;refine gG ?_;exact ⟨i+1,hq,gw,gw,by omega⟩)
end
end Go.Proofs.YtffmjghcpgpfpaaGreatDoor
namespace Go.Proofs.YtffmjghcpgpfpaaGreatDoor
open Go.RowKit
set_option maxHeartbeats 4000000 in
set_option maxRecDepth 100000 in
theorem con_l4Arity {o:Opr} {d:Dcl} (hd:o.decls[0]?=some d):Con e0 181 [.agg (encOpr o)] [.one (.lit (.int .i64 d.args.length))]:=by
 refine gI 7 Tryz.func181 ?_
 (have F:=ai @encOpr_u (ai @hd @encDcl_u);refine gG ?_;exact gT)
section
variable {g:Sgn} {o:Opr}
theorem ax_make {d:Dcl} (hd:o.decls[0]?=some d) (h1:0<=o.unit) (h2:o.unit<=g.ops.length) (h3:d.args.length=2) {a b:Int} (ha:d.args[0]?=some a) (hb:d.args[1]?=some b) (hk:kd g.sorts a=kd g.sorts b) (hr:¬ ((o.assoc=true∨o.unit≠0)∧kd g.sorts a≠kd g.sorts d.res))
  (hu:o.unit≠0->∀ (p:Opr) (u:Dcl),g.ops[o.unit.toNat - 1]?=some p->p.decls[0]?=some u->u.args.length=0∧kd g.sorts u.res=kd g.sorts d.res):AxOk g o :=
 ⟨h1,h2,fun _ d' hd'=>by
  rw [hd] at hd';injection hd' with hd';subst hd'
  refine ⟨h3,fun a' b' ha' hb'=>?_⟩
  rw [ha] at ha';injection ha' with ha';subst ha'
  rw [hb] at hb';injection hb' with hb';subst hb'
  exact ⟨hk,fun h=>Classical.byContradiction fun hn=>hr ⟨h,hn⟩,hu⟩⟩
theorem ax_plain (h:o.assoc=false∧o.comm=false∧o.unit=0):AxOk g o:=⟨by rw [h.2.2];exact Int.le_refl _,by rw [h.2.2];omega,fun h2=>by
 rcases h2 with h2 | h2 | h2
 ·rw [h.1] at h2;cases h2
 ·rw [h.2.1] at h2;cases h2
 ·exact absurd h.2.2 h2⟩
theorem ax_need (h:¬ (o.assoc=false∧o.comm=false∧o.unit=0)):o.assoc=true∨o.comm=true∨o.unit≠0:=by
 by_cases h1:o.assoc=true
 ·exact .inl h1
 by_cases h2:o.comm=true
 ·exact .inr (.inl h2)
 exact .inr (.inr fun h3=>h ⟨by simpa using h1,by simpa using h2,h3⟩)
set_option maxHeartbeats 8000000 in
set_option maxRecDepth 100000 in
theorem con_implAxioms (hs:SortsOk g.sorts) (hall:∀ p∈g.ops,DeclsOk g.sorts p) (ho:o∈g.ops) (hol:g.ops.length<=14):Con e0 162 [.agg (encOrd g.sorts),.agg (encSgn g),.agg (encOpr o)] [.one (.lit (.bool (axOk g o)))]:=by
 have hno:¬ AxOk g o->axOk g o=false:=axOk_false
 have rK:=nR_rows (l:=kinds g.sorts)
 obtain ⟨d,hd,hdd⟩:=(hall o ho).first
 have gr:=kdg hs hdd.res
 have ir:=hdd.res.1
 rw [encOrd,encSgn,encOpr]
 refine gI 87042659588714057177760255 Tryz.func162 ?_
 by_cases h1:0<=o.unit
 rotate_left
 ·have hf:=hno fun h=>h1 h.lo
  have z1:(o.unit < 0)=True:=eq_true (by omega)
  (have F:=ai @z1 @hf;refine gG ?_;exact gT)
 have z1:(o.unit < 0)=False:=eq_false (by omega)
 by_cases h2:o.unit<=g.ops.length
 rotate_left
 ·have hf:=hno fun h=>h2 h.hi
  have z2:((g.ops.length:Int) < o.unit)=True:=eq_true (by omega)
  (have F:=ai @z1 (ai @z2 @hf);refine gG ?_;exact gT)
 have z2:((g.ops.length:Int) < o.unit)=False:=eq_false (by omega)
 by_cases hp:o.assoc=false∧o.comm=false∧o.unit=0
 ·have ht:=axOk_true (ax_plain (g:=g) hp)
  obtain ⟨p1,p2,p3⟩:=hp
  have p3:(o.unit=0)=True:=eq_true p3
  (have F:=ai @z1 (ai @z2 (ai @p1 (ai @p2 (ai @p3 @ht))));refine gG ?_;exact gT)
 have hnd:=ax_need hp
 (have F:=ai @z1 @z2;have NN:StopAt 3:=trivial;refine gGn ?_;clear F NN)
 refine gM (ι:=Unit) [32] [] (fun v=>[(32,A.d (.one (.lit (.bool false))))]) (fun v=>[]) (fun v=>True) ?_ (fun v hv=>Exists.intro _ (ai (Wk.refl _) ?_))
 ·cases q1:o.assoc with
  | true=>(have F:=@q1;refine gG ?_;exact ⟨(),trivial,gw,gw⟩)
  | false =>
  cases q2:o.comm with
  | true=>(have F:=ai @q1 @q2;refine gG ?_;exact ⟨(),trivial,gw,gw⟩)
  | false =>
   have q3:(o.unit=0)=False:=eq_false fun h=>hp ⟨q1,q2,h⟩
   (have F:=ai @q1 (ai @q2 @q3);refine gG ?_;exact ⟨(),trivial,gw,gw⟩)
 clear hv
 by_cases h3:d.args.length=2
 rotate_left
 ·have hf:=hno fun h=>h3 (h.two hnd d hd).1
  have z3:((d.args.length:Int)=2)=False:=eq_false (by omega)
  (have F:=ai @hd (ai @encDcl_u (ai @z3 @hf));refine gG ?_;exact gT)
 have z3:((d.args.length:Int)=2)=True:=eq_true (by omega)
 obtain ⟨a,ha⟩:∃ k,d.args[0]?=some k:=⟨_,List.getElem?_eq_getElem (by omega)⟩
 obtain ⟨b,hb⟩:∃ k,d.args[1]?=some k:=⟨_,List.getElem?_eq_getElem (by omega)⟩
 have har:=hdd.args a (List.mem_of_getElem? ha)
 have hbr:=hdd.args b (List.mem_of_getElem? hb)
 have ga:=kdg hs har
 have gb:=kdg hs hbr
 have ia:=har.1
 have ib:=hbr.1
 by_cases hk:kd g.sorts a=kd g.sorts b
 rotate_left
 ·have hf:=hno fun h=>hk ((h.two hnd d hd).2 a b ha hb).1
  have z4:((kd g.sorts a:Int)=(kd g.sorts b:Int))=False:=eq_false (by omega)
  (have F:=ai @hd (ai @encDcl_u (ai @z3 (ai @ha (ai @hb (ai @encInt_u (ai @ga (ai @gb (ai @ia (ai @ib (ai @rK (ai @z4 @hf)))))))))));refine gG ?_;exact gT)
 have z4:((kd g.sorts a:Int)=(kd g.sorts b:Int))=True:=eq_true (by omega)
 (have F:=ai @hd (ai @encDcl_u (ai @z3 (ai @ha (ai @hb (ai @encInt_u (ai @ga (ai @gb (ai @ia (ai @ib (ai @rK @z4))))))))));have NN:StopAt 8:=trivial;refine gGn ?_;clear F NN)
 refine gM (ι:=Bool) [83] [] (fun v=>[(83,A.d (.one (.lit (.bool v))))]) (fun v=>[]) (fun v=>(v=true->((o.assoc=true∨o.unit≠0)∧kd g.sorts a≠kd g.sorts d.res))∧(v=false->¬ ((o.assoc=true∨o.unit≠0)∧kd g.sorts a≠kd g.sorts d.res))) ?_ (fun v hv=>Exists.intro _ (ai (Wk.refl _) ?_))
 ·cases q1:o.assoc with
  | true =>
   by_cases hr:kd g.sorts a=kd g.sorts d.res
   ·have z5:((kd g.sorts a:Int)=(kd g.sorts d.res:Int))=True:=eq_true (by omega)
    (have F:=ai @q1 (ai @ha (ai @encInt_u (ai @ga (ai @gr (ai @ia (ai @ir (ai @rK @z5)))))));refine gG ?_;exact ⟨false,⟨fun h=>(by cases h),fun _ h=>h.2 hr⟩,gw,gw⟩)
   ·have z5:((kd g.sorts a:Int)=(kd g.sorts d.res:Int))=False:=eq_false (by omega)
    (have F:=ai @q1 (ai @ha (ai @encInt_u (ai @ga (ai @gr (ai @ia (ai @ir (ai @rK @z5)))))));refine gG ?_;exact ⟨true,⟨fun _=>⟨.inl rfl,hr⟩,fun h=>(by cases h)⟩,gw,gw⟩)
  | false =>
  by_cases q3:o.unit=0
  ·have z6:(o.unit=0)=True:=eq_true q3
   (have F:=ai @q1 @z6;refine gG ?_;exact ⟨false,⟨fun h=>(by cases h),fun _ h=>h.1.elim (fun h=>(by cases h)) fun h=>h q3⟩,gw,gw⟩)
  ·have z6:(o.unit=0)=False:=eq_false q3
   by_cases hr:kd g.sorts a=kd g.sorts d.res
   ·have z5:((kd g.sorts a:Int)=(kd g.sorts d.res:Int))=True:=eq_true (by omega)
    (have F:=ai @q1 (ai @z6 (ai @ha (ai @encInt_u (ai @ga (ai @gr (ai @ia (ai @ir (ai @rK @z5))))))));refine gG ?_;exact ⟨false,⟨fun h=>(by cases h),fun _ h=>h.2 hr⟩,gw,gw⟩)
   ·have z5:((kd g.sorts a:Int)=(kd g.sorts d.res:Int))=False:=eq_false (by omega)
    (have F:=ai @q1 (ai @z6 (ai @ha (ai @encInt_u (ai @ga (ai @gr (ai @ia (ai @ir (ai @rK @z5))))))));refine gG ?_;exact ⟨true,⟨fun _=>⟨.inr q3,hr⟩,fun h=>(by cases h)⟩,gw,gw⟩)
 obtain ⟨hv1,hv2⟩:=hv
 cases v with
 | true =>
  have hf:=hno fun h=>(hv1 rfl).2 (((h.two hnd d hd).2 a b ha hb).2.1 (hv1 rfl).1)
  (have F:=@hf;refine gG ?_;exact gT)
 | false =>
 have hr:=hv2 rfl
 by_cases q3:o.unit=0
 ·have z6:(o.unit=0)=True:=eq_true q3
  have ht:=axOk_true (ax_make hd h1 h2 h3 ha hb hk hr fun h=>absurd q3 h)
  (have F:=ai @z6 @ht;refine gG ?_;exact gT)
 have z6:(o.unit=0)=False:=eq_false q3
 have hsub:IntKind.i64.wrap (o.unit - 1)=((o.unit.toNat - 1:Nat):Int):=wrapN (by omega) (by omega) (by omega)
 obtain ⟨p,hp⟩:∃ p,g.ops[o.unit.toNat - 1]?=some p:=⟨_,List.getElem?_eq_getElem (by omega)⟩
 obtain ⟨u,hu,huu⟩:=(hall p (List.mem_of_getElem? hp)).first
 have gu':=kdg hs huu.res
 have iu:=huu.res.1
 have key:(u.args.length=0∧kd g.sorts u.res=kd g.sorts d.res)->axOk g o=true:=fun h=>axOk_true (ax_make hd h1 h2 h3 ha hb hk hr fun _ p' u' hp' hu'=>by
  rw [hp] at hp';injection hp' with hp';subst hp'
  rw [hu] at hu';injection hu' with hu';subst hu'
  exact h)
 have keyn:¬ (u.args.length=0∧kd g.sorts u.res=kd g.sorts d.res)->axOk g o=false:=fun h=>hno fun hA=>h (((hA.two hnd d hd).2 a b ha hb).2.2 q3 p u hp hu)
 by_cases hl0:u.args.length=0
 rotate_left
 ·have hf:=keyn fun h=>hl0 h.1
  have z7:((u.args.length:Int)=0)=False:=eq_false (by omega)
  (have F:=ai @z6 (ai @hsub (ai @hp (ai @encOpr_u (ai @hu (ai @encDcl_u (ai @natInt (ai @z7 @hf)))))));refine gG ?_;exact gT)
 have z7:((u.args.length:Int)=0)=True:=eq_true (by omega)
 by_cases hku:kd g.sorts u.res=kd g.sorts d.res
 ·have ht:=key ⟨hl0,hku⟩
  have z8:((kd g.sorts u.res:Int)=(kd g.sorts d.res:Int))=True:=eq_true (by omega)
  (have F:=ai @z6 (ai @hsub (ai @hp (ai @encOpr_u (ai @hu (ai @encDcl_u (ai @natInt (ai @z7 (ai @gu' (ai @gr (ai @iu (ai @ir (ai @rK (ai @z8 @ht)))))))))))));refine gG ?_;exact gT)
 ·have hf:=keyn fun h=>hku h.2
  have z8:((kd g.sorts u.res:Int)=(kd g.sorts d.res:Int))=False:=eq_false (by omega)
  (have F:=ai @z6 (ai @hsub (ai @hp (ai @encOpr_u (ai @hu (ai @encDcl_u (ai @natInt (ai @z7 (ai @gu' (ai @gr (ai @iu (ai @ir (ai @rK (ai @z8 @hf)))))))))))));refine gG ?_;exact gT)
set_option maxHeartbeats 8000000 in
set_option maxRecDepth 100000 in
theorem con_l4Axioms (hs:SortsOk g.sorts) (hall:∀ p∈g.ops,DeclsOk g.sorts p) {k:Nat} (hk0:g.ops[k]?=some o) (hol:g.ops.length<=14):Con e0 152 [.agg (encSgn g),.one (.lit (.int .i64 k))] [.one (.lit (.bool (axOk g o)))]:=by
 have hno:¬ AxOk g o->axOk g o=false:=axOk_false
 have ho:=List.mem_of_getElem? hk0
 have hkl:=(List.getElem?_eq_some_iff.1 hk0).1
 have cK:=con_l3Kinds hs
 rw [show (casts (kinds g.sorts)).map encInt=nR (kinds g.sorts) from rfl] at cK
 have rK:=nR_rows (l:=kinds g.sorts)
 obtain ⟨d,hd,hdd⟩:=(hall o ho).first
 have cA:=con_l4Arity hd
 have gr:=kdg hs hdd.res
 have ir:=hdd.res.1
 rw [encSrt] at cK
 rw [encOpr] at cA
 rw [encSgn]
 refine gI 174085318024508800717819895 Tryz.func152 ?_
 by_cases hp:o.assoc=false∧o.comm=false∧o.unit=0
 ·have ht:=axOk_true (ax_plain (g:=g) hp)
  obtain ⟨p1,p2,p3⟩:=hp
  have p3:(o.unit=0)=True:=eq_true p3
  (have F:=ai @hk0 (ai @encOpr_u (ai @p1 (ai @p2 (ai @p3 @ht))));refine gG ?_;exact gT)
 have hnd:=ax_need hp
 (have F:=ai @hk0 @encOpr_u;have NN:StopAt 2:=trivial;refine gGn ?_;clear F NN)
 refine gM (ι:=Unit) [29] [] (fun v=>[(29,A.d (.one (.lit (.bool false))))]) (fun v=>[]) (fun v=>True) ?_ (fun v hv=>Exists.intro _ (ai (Wk.refl _) ?_))
 ·cases q1:o.assoc with
  | true=>(have F:=@q1;refine gG ?_;exact ⟨(),trivial,gw,gw⟩)
  | false =>
  cases q2:o.comm with
  | true=>(have F:=ai @q1 @q2;refine gG ?_;exact ⟨(),trivial,gw,gw⟩)
  | false =>
   have q3:(o.unit=0)=False:=eq_false fun h=>hp ⟨q1,q2,h⟩
   (have F:=ai @q1 (ai @q2 @q3);refine gG ?_;exact ⟨(),trivial,gw,gw⟩)
 clear hv
 (have F:=@e0P;refine gG ?_;clear F)
 refine gB ?_
 (have F:=@e0P;refine gC (cA) ?_;clear F)
 by_cases h3:d.args.length=2
 rotate_left
 ·have hf:=hno fun h=>h3 (h.two hnd d hd).1
  have z3:((d.args.length:Int)=2)=False:=eq_false (by omega)
  (have F:=@z3;refine gR ?_;clear F)
  (have F:=@hf;refine gG ?_;exact gT)
 have z3:((d.args.length:Int)=2)=True:=eq_true (by omega)
 (have F:=@z3;refine gC (con_l1In o.unit 0 (g.ops.length:Int)) ?_;clear F)
 by_cases h12:0<=o.unit∧o.unit<=(g.ops.length:Int)
 rotate_left
 ·have hf:=hno fun h=>h12 ⟨h.lo,h.hi⟩
  have z1:decide (0<=o.unit∧o.unit<=(g.ops.length:Int))=false:=decide_eq_false h12
  (have F:=ai @z3 @z1;refine gR ?_;clear F)
  (have F:=@hf;refine gG ?_;exact gT)
 have z1:decide (0<=o.unit∧o.unit<=(g.ops.length:Int))=true:=decide_eq_true h12
 obtain ⟨h1,h2⟩:=h12
 obtain ⟨a,ha⟩:∃ k,d.args[0]?=some k:=⟨_,List.getElem?_eq_getElem (by omega)⟩
 obtain ⟨b,hb⟩:∃ k,d.args[1]?=some k:=⟨_,List.getElem?_eq_getElem (by omega)⟩
 have har:=hdd.args a (List.mem_of_getElem? ha)
 have hbr:=hdd.args b (List.mem_of_getElem? hb)
 have ga:=kdg hs har
 have gb:=kdg hs hbr
 have ia:=har.1
 have ib:=hbr.1
 (have F:=ai @z3 @z1;refine gR ?_;clear F)
 (have F:=@e0P;refine gG ?_;clear F)
 refine gB ?_
 (have F:=@e0P;refine gC (cK) ?_;clear F)
 (have F:=@e0P;refine gR ?_;clear F)
 (have F:=ai @hd @encDcl_u;have NN:StopAt 8:=trivial;refine gGn ?_;clear F NN)
 refine region_Dk 22 (by decide +kernel) ?_
 intro ds hds
 simp only [List.map] at hds
 subst hds
 refine (have F:=ai ha (ai hb (ai encInt_u (ai ga (ai gb (ai gr (ai ia (ai ib (ai ir rK))))))));gP 19 ?_)
 refine (have F:=ia;gAq ?_)
 refine (have F:=ia;gAq ?_)
 refine (have F:=ia;gAq ?_)
 (have F:=@e0P;refine gR ?_;clear F)
 (have F:=@e0P;have NN:StopAt 9:=trivial;refine gGn ?_;clear F NN)
 refine gM (ι:=Bool) [84] [] (fun v=>[(84,A.d (.one (.lit (.bool v))))]) (fun v=>[]) (fun v=>(v=true->kd g.sorts a≠kd g.sorts b∨((o.assoc=true∨o.unit≠0)∧kd g.sorts a≠kd g.sorts d.res))∧(v=false->kd g.sorts a=kd g.sorts b∧¬ ((o.assoc=true∨o.unit≠0)∧kd g.sorts a≠kd g.sorts d.res))) ?_ (fun v hv=>Exists.intro _ (ai (Wk.refl _) ?_))
 ·by_cases hk:kd g.sorts a=kd g.sorts b
  rotate_left
  ·have z4:((kd g.sorts a:Int)=(kd g.sorts b:Int))=False:=eq_false (by omega)
   (have F:=@z4;refine gG ?_;exact ⟨true,⟨fun _=>.inl hk,fun h=>(by cases h)⟩,gw,gw⟩)
  have z4:((kd g.sorts a:Int)=(kd g.sorts b:Int))=True:=eq_true (by omega)
  cases q1:o.assoc with
  | true =>
   by_cases hr:kd g.sorts a=kd g.sorts d.res
   ·have z5:((kd g.sorts a:Int)=(kd g.sorts d.res:Int))=True:=eq_true (by omega)
    (have F:=ai @q1 (ai @encOpr_u (ai @z4 @z5));refine gG ?_;exact ⟨false,⟨fun h=>(by cases h),fun _=>⟨hk,fun h=>h.2 hr⟩⟩,gw,gw⟩)
   ·have z5:((kd g.sorts a:Int)=(kd g.sorts d.res:Int))=False:=eq_false (by omega)
    (have F:=ai @q1 (ai @encOpr_u (ai @z4 @z5));refine gG ?_;exact ⟨true,⟨fun _=>.inr ⟨.inl rfl,hr⟩,fun h=>(by cases h)⟩,gw,gw⟩)
  | false =>
  by_cases q3:o.unit=0
  ·have z6:((0:Int) < o.unit)=False:=eq_false (by omega)
   (have F:=ai @q1 (ai @encOpr_u (ai @z4 @z6));refine gG ?_;exact ⟨false,⟨fun h=>(by cases h),fun _=>⟨hk,fun h=>h.1.elim (fun h=>(by cases h)) fun h=>h q3⟩⟩,gw,gw⟩)
  ·have z6:((0:Int) < o.unit)=True:=eq_true (by omega)
   by_cases hr:kd g.sorts a=kd g.sorts d.res
   ·have z5:((kd g.sorts a:Int)=(kd g.sorts d.res:Int))=True:=eq_true (by omega)
    (have F:=ai @q1 (ai @encOpr_u (ai @z4 (ai @z6 @z5)));refine gG ?_;exact ⟨false,⟨fun h=>(by cases h),fun _=>⟨hk,fun h=>h.2 hr⟩⟩,gw,gw⟩)
   ·have z5:((kd g.sorts a:Int)=(kd g.sorts d.res:Int))=False:=eq_false (by omega)
    (have F:=ai @q1 (ai @encOpr_u (ai @z4 (ai @z6 @z5)));refine gG ?_;exact ⟨true,⟨fun _=>.inr ⟨.inr q3,hr⟩,fun h=>(by cases h)⟩,gw,gw⟩)
 obtain ⟨hv1,hv2⟩:=hv
 cases v with
 | true =>
  have hf:=hno fun h=>(hv1 rfl).elim (fun h'=>h' ((h.two hnd d hd).2 a b ha hb).1) fun h'=>h'.2 (((h.two hnd d hd).2 a b ha hb).2.1 h'.1)
  (have F:=@hf;refine gG ?_;exact gT)
 | false =>
 obtain ⟨hk,hr⟩:=hv2 rfl
 by_cases q3:o.unit=0
 ·have z6:(o.unit=0)=True:=eq_true q3
  have ht:=axOk_true (ax_make hd h1 h2 h3 ha hb hk hr fun h=>absurd q3 h)
  (have F:=ai @encOpr_u (ai @z6 @ht);refine gG ?_;exact gT)
 have z6:(o.unit=0)=False:=eq_false q3
 have hsub:IntKind.i64.wrap (o.unit - 1)=((o.unit.toNat - 1:Nat):Int):=wrapN (by omega) (by omega) (by omega)
 obtain ⟨p,hp⟩:∃ p,g.ops[o.unit.toNat - 1]?=some p:=⟨_,List.getElem?_eq_getElem (by omega)⟩
 obtain ⟨u,hu,huu⟩:=(hall p (List.mem_of_getElem? hp)).first
 have cP:=con_l4Arity hu
 rw [encOpr] at cP
 have gu':=kdg hs huu.res
 have iu:=huu.res.1
 have key:(u.args.length=0∧kd g.sorts u.res=kd g.sorts d.res)->axOk g o=true:=fun h=>axOk_true (ax_make hd h1 h2 h3 ha hb hk hr fun _ p' u' hp' hu'=>by
  rw [hp] at hp';injection hp' with hp';subst hp'
  rw [hu] at hu';injection hu' with hu';subst hu'
  exact h)
 have keyn:¬ (u.args.length=0∧kd g.sorts u.res=kd g.sorts d.res)->axOk g o=false:=fun h=>hno fun hA=>h (((hA.two hnd d hd).2 a b ha hb).2.2 q3 p u hp hu)
 (have F:=ai @z6 (ai @hsub (ai @hp (ai @encOpr_u @natInt)));refine gG ?_;clear F)
 refine gB ?_
 (have F:=@e0P;refine gC (cP) ?_;clear F)
 by_cases hl0:u.args.length=0
 rotate_left
 ·have hf:=keyn fun h=>hl0 h.1
  have z7:((u.args.length:Int)=0)=False:=eq_false (by omega)
  (have F:=@z7;refine gR ?_;clear F)
  (have F:=@hf;refine gG ?_;exact gT)
 have z7:((u.args.length:Int)=0)=True:=eq_true (by omega)
 by_cases hku:kd g.sorts u.res=kd g.sorts d.res
 ·have ht:=key ⟨hl0,hku⟩
  have z8:((kd g.sorts u.res:Int)=(kd g.sorts d.res:Int))=True:=eq_true (by omega)
  (have F:=ai @z7 (ai @hu (ai @encDcl_u (ai @gu' (ai @iu (ai @rK @z8)))));refine gR ?_;clear F)
  (have F:=@ht;refine gG ?_;exact gT)
 ·have hf:=keyn fun h=>hku h.2
  have z8:((kd g.sorts u.res:Int)=(kd g.sorts d.res:Int))=False:=eq_false (by omega)
  (have F:=ai @z7 (ai @hu (ai @encDcl_u (ai @gu' (ai @iu (ai @rK @z8)))));refine gR ?_;clear F)
  (have F:=@hf;refine gG ?_;exact gT)
end
end Go.Proofs.YtffmjghcpgpfpaaGreatDoor
namespace Go.Proofs.YtffmjghcpgpfpaaGreatDoor
open Go.RowKit
theorem con_cmpOf {f:FuncId} (hb:hasBody e0.P f=true) {a b:Tm} (h:cmpTmC f a b) (ha:okTm a) (hk:okTm b):Con e0 f [.agg (encTm a),.agg (encTm b)] [.one (.lit (.int .i64 (cmpTm a b)))]:=by
 refine con_below e0_ok hb fun w S vs hv=>?_
 match vs,hv with
 | [v,u],hv =>
  obtain ⟨⟨us,rfl,hu⟩,⟨us',rfl,hu'⟩,_⟩:=hv
  exact (h S S us us' w ha hk hu hu').mono fun e w' ⟨h1,h2⟩=>⟨_,h1,h2,by simp [retA,ARel,DRel,Rep]⟩
theorem con_implCmp {a b:Tm} (ha:okTm a) (hk:okTm b):Con e0 82 [.agg (encTm a),.agg (encTm b)] [.one (.lit (.int .i64 (cmpTm a b)))]:=con_cmpOf (by kernel_rfl) (implCompareTerms a b) ha hk
theorem con_specCmp {a b:Tm} (ha:okTm a) (hk:okTm b):Con e0 114 [.agg (encTm a),.agg (encTm b)] [.one (.lit (.int .i64 (cmpTm a b)))]:=con_cmpOf (by kernel_rfl) (specCompareTerms a b) ha hk
theorem sizeTms_app (a b:List Tm):sizeTms (a++b)=sizeTms a+sizeTms b:=by
 induction a with
 | nil=>simp [sizeTms]
 | cons x xs ih=>simp only [List.cons_append,sizeTms,ih];omega
theorem sizeTms_mem {ts:List Tm} {t:Tm} (h:t∈ts):sizeTm t<=sizeTms ts:=by
 induction ts with
 | nil=>cases h
 | cons x xs ih =>
  simp only [sizeTms]
  rcases List.mem_cons.1 h with rfl | h
  ·omega
  ·have:=ih h;omega
theorem sizeTms_snoc {ts:List Tm} {i:Nat} {t:Tm} (h:ts[i]?=some t):sizeTms (ts.take (i+1))=sizeTms (ts.take i)+sizeTm t:=by
 rw [take_snoc h,sizeTms_app];simp [sizeTms]
theorem sizeTms_take (ts:List Tm) (i:Nat):sizeTms (ts.take i)<=sizeTms ts:=by
 have:=sizeTms_app (ts.take i) (ts.drop i)
 rw [List.take_append_drop] at this
 omega
theorem sizeTms_len (ts:List Tm):ts.length<=sizeTms ts:=by
 induction ts with
 | nil=>simp [sizeTms]
 | cons x xs ih=>cases x;simp only [List.length_cons,sizeTms,sizeTm];omega
mutual
def depthTm:Tm->Nat
 | .mk _ _ _ a=>1+depthTms a
def depthTms:List Tm->Nat
 | []=>0
 | t::ts=>max (depthTm t) (depthTms ts)
end
mutual
theorem depth_size:∀ t:Tm,depthTm t<=sizeTm t
 | .mk _ _ _ a=>by
  have:=depths_size a
  simp only [depthTm,sizeTm];omega
theorem depths_size:∀ ts:List Tm,depthTms ts<=sizeTms ts
 | []=>by simp [depthTms]
 | t::ts=>by
  have:=depth_size t
  have:=depths_size ts
  simp only [depthTms,sizeTms];omega
end
theorem depthTms_app (a b:List Tm):depthTms (a++b)=max (depthTms a) (depthTms b):=by
 induction a with
 | nil=>simp [depthTms]
 | cons x xs ih=>simp only [List.cons_append,depthTms,ih];omega
theorem depthTms_snoc {ts:List Tm} {i:Nat} {t:Tm} (h:ts[i]?=some t):depthTms (ts.take (i+1))=max (depthTms (ts.take i)) (depthTm t):=by
 rw [take_snoc h,depthTms_app];simp [depthTms]
theorem depthTms_mem {ts:List Tm} {t:Tm} (h:t∈ts):depthTm t<=depthTms ts:=by
 induction ts with
 | nil=>cases h
 | cons x xs ih =>
  simp only [depthTms]
  rcases List.mem_cons.1 h with rfl | h
  ·omega
  ·have:=ih h;omega
theorem encTm_u:∀ op nm so args,encTm (.mk op nm so args)=[.lit (.int .i64 op),.lit (.string nm),.lit (.int .i64 so),.sl (encTms args)]:=fun _ _ _ _=>by rw [encTm]
theorem sizeTm_u:∀ op nm so args,sizeTm (.mk op nm so args)=1+sizeTms args:=fun _ _ _ _=>by rw [sizeTm]
theorem depthTm_u:∀ op nm so args,depthTm (.mk op nm so args)=1+depthTms args:=fun _ _ _ _=>by rw [depthTm]
theorem sizeTms_u:sizeTms []=0:=by rw [sizeTms]
theorem depthTms_u:depthTms []=0:=by rw [depthTms]
def big:Nat:=4611686018427387904
set_option maxHeartbeats 4000000 in
set_option maxRecDepth 100000 in
theorem con_implSize_all:∀ (n:Nat) (t:Tm),sizeTm t < n->sizeTm t<=big->Con e0 105 [.agg (encTm t)] [.one (.lit (.int .i64 (sizeTm t)))]:=by
 intro n
 induction n with
 | zero=>intro t h;omega
 | succ n ih =>
  intro t hn hb
  obtain ⟨op,nm,so,args⟩:=t
  simp only [sizeTm,big] at hn hb
  have hal:=sizeTms_len args
  refine gI 1967 Tryz.func105 ?_
  (have F:=ai @encTm_u @tmz;refine gG ?_;clear F)
  (have F:=@sizeTms_u;refine gL (ι:=Nat) [3,5,9,10] [] (fun i=>[(9,A.d (.one (.lit (.int .i64 i)))),(3,A.d (.one (.lit (.int .i64 ((1+sizeTms (args.take i):Nat):Int)))))]) (fun i=>[]) (fun i=>i<=args.length) (fun i=>args.length - i) (0) (by omega) (fun i hi=>?_);clear F)
  by_cases hl:i < args.length
  rotate_left
  ·have hl':¬ ((i:Int) < (args.length:Int)):=by omega
   have e:args.take i=args:=List.take_of_length_le (by omega)
   (have F:=ai @hl' (ai @e @sizeTm_u);refine gG ?_;exact gT)
  have hl':(i:Int) < (args.length:Int):=by omega
  obtain ⟨a,ha⟩:∃ a,args[i]?=some a:=⟨_,List.getElem?_eq_getElem hl⟩
  have hs:=sizeTms_snoc ha
  have ht:=sizeTms_take args (i+1)
  have hm:=sizeTms_mem (List.mem_of_getElem? ha)
  have hw:IntKind.i64.wrap (((1+sizeTms (args.take i):Nat):Int)+(sizeTm a:Int))=((1+sizeTms (args.take (i+1)):Nat):Int):=wrapN (by omega) (by omega) (by omega)
  have hw1:=wrap1 (k:=i) (by omega)
  (have F:=ai @hl' (ai @tmz @ha);refine gG ?_;clear F)
  refine gB ?_
  (have F:=@tmz;refine gC (ih a (by omega) (by unfold big;omega)) ?_;clear F)
  (have F:=@hw;refine gR ?_;clear F)
  (have F:=ai @hw1 (ai @hw @tmz);refine gG ?_;exact ⟨i+1,by omega,gw,gw,by omega⟩)
theorem con_implSize {t:Tm} (h:sizeTm t<=big):Con e0 105 [.agg (encTm t)] [.one (.lit (.int .i64 (sizeTm t)))]:=con_implSize_all _ t (Nat.lt_succ_self _) h
set_option maxHeartbeats 4000000 in
set_option maxRecDepth 100000 in
theorem con_implDepth_all:∀ (n:Nat) (t:Tm),sizeTm t < n->sizeTm t<=big->Con e0 106 [.agg (encTm t)] [.one (.lit (.int .i64 (depthTm t)))]:=by
 intro n
 induction n with
 | zero=>intro t h;omega
 | succ n ih =>
  intro t hn hb
  obtain ⟨op,nm,so,args⟩:=t
  simp only [sizeTm,big] at hn hb
  have hal:=sizeTms_len args
  have hds:=depths_size args
  refine gI 1967 Tryz.func106 ?_
  (have F:=ai @encTm_u @tmz;refine gG ?_;clear F)
  (have F:=@depthTms_u;refine gL (ι:=Nat) [3,5,9,10] [] (fun i=>[(9,A.d (.one (.lit (.int .i64 i)))),(3,A.d (.one (.lit (.int .i64 ((depthTms (args.take i):Nat):Int)))))]) (fun i=>[]) (fun i=>i<=args.length) (fun i=>args.length - i) (0) (by omega) (fun i hi=>?_);clear F)
  by_cases hl:i < args.length
  rotate_left
  ·have hl':¬ ((i:Int) < (args.length:Int)):=by omega
   have e:args.take i=args:=List.take_of_length_le (by omega)
   have hw:IntKind.i64.wrap ((depthTms args:Int)+1)=((1+depthTms args:Nat):Int):=wrapN (by omega) (by omega) (by omega)
   (have F:=ai @hl' (ai @e (ai @hw @depthTm_u));refine gG ?_;exact gT)
  have hl':(i:Int) < (args.length:Int):=by omega
  obtain ⟨a,ha⟩:∃ a,args[i]?=some a:=⟨_,List.getElem?_eq_getElem hl⟩
  have hs:=depthTms_snoc ha
  have hm:=sizeTms_mem (List.mem_of_getElem? ha)
  have hw:(if (depthTm a:Int) > (depthTms (args.take i):Int) then (depthTm a:Int) else (depthTms (args.take i):Int))=((depthTms (args.take (i+1)):Nat):Int):=by
   split <;> omega
  have hw1:=wrap1 (k:=i) (by omega)
  (have F:=ai @hl' (ai @tmz @ha);refine gG ?_;clear F)
  refine gB ?_
  (have F:=@tmz;refine gC (ih a (by omega) (by unfold big;omega)) ?_;clear F)
  (have F:=@hw;refine gR ?_;clear F)
  (have F:=ai @hw1 (ai @hw @tmz);refine gG ?_;exact ⟨i+1,by omega,gw,gw,by omega⟩)
theorem con_implDepth {t:Tm} (h:sizeTm t<=big):Con e0 106 [.agg (encTm t)] [.one (.lit (.int .i64 (depthTm t)))]:=con_implDepth_all _ t (Nat.lt_succ_self _) h
set_option maxHeartbeats 4000000 in
set_option maxRecDepth 100000 in
theorem con_l1Max (a b:Int):Con e0 218 [.one (.lit (.int .i64 a)),.one (.lit (.int .i64 b))] [.one (.lit (.int .i64 (max a b)))]:=by
 refine gI 147 Tryz.func218 ?_
 by_cases h:b < a
 ·have e:max a b=a:=by omega
  (have F:=ai @h @e;refine gG ?_;exact gT)
 ·have e:max a b=b:=by omega
  (have F:=ai @h @e;refine gG ?_;exact gT)
set_option maxHeartbeats 4000000 in
set_option maxRecDepth 100000 in
theorem con_specDepth_all:∀ (n:Nat) (t:Tm),sizeTm t < n->sizeTm t<=big->Con e0 154 [.agg (encTm t)] [.one (.lit (.int .i64 (depthTm t)))]:=by
 intro n
 induction n with
 | zero=>intro t h;omega
 | succ n ih =>
  intro t hn hb
  obtain ⟨op,nm,so,args⟩:=t
  simp only [sizeTm,big] at hn hb
  have hal:=sizeTms_len args
  have hds:=depths_size args
  refine gI 543 Tryz.func154 ?_
  (have F:=ai @encTm_u @tmz;refine gG ?_;clear F)
  (have F:=@depthTms_u;refine gL (ι:=Nat) [3,4,9] [] (fun i=>[(4,A.d (.one (.lit (.int .i64 i)))),(3,A.d (.one (.lit (.int .i64 ((depthTms (args.take i):Nat):Int)))))]) (fun i=>[]) (fun i=>i<=args.length) (fun i=>args.length - i) (0) (by omega) (fun i hi=>?_);clear F)
  by_cases hl:i < args.length
  rotate_left
  ·have hl':¬ ((i:Int) < (args.length:Int)):=by omega
   have e:args.take i=args:=List.take_of_length_le (by omega)
   have hw:IntKind.i64.wrap ((depthTms args:Int)+1)=((1+depthTms args:Nat):Int):=wrapN (by omega) (by omega) (by omega)
   (have F:=ai @hl' (ai @e (ai @hw (ai @depthTm_u @tmz)));refine gG ?_;exact gT)
  have hl':(i:Int) < (args.length:Int):=by omega
  obtain ⟨a,ha⟩:∃ a,args[i]?=some a:=⟨_,List.getElem?_eq_getElem hl⟩
  have hs:=depthTms_snoc ha
  have hm:=sizeTms_mem (List.mem_of_getElem? ha)
  have hw:max (depthTms (args.take i):Int) (depthTm a:Int)=((depthTms (args.take (i+1)):Nat):Int):=by omega
  have hw1:=wrap1 (k:=i) (by omega)
  (have F:=ai @hl' (ai @tmz @ha);refine gG ?_;clear F)
  refine gB ?_
  (have F:=ai @tmz @ha;refine gC (ih a (by omega) (by unfold big;omega)) ?_;clear F)
  (have F:=@tmz;refine gC (con_l1Max _ _) ?_;clear F)
  (have F:=@hw;refine gR ?_;clear F)
  (have F:=ai @hw1 (ai @hw @tmz);refine gG ?_;exact ⟨i+1,by omega,gw,gw,by omega⟩)
theorem con_specDepth {t:Tm} (h:sizeTm t<=big):Con e0 154 [.agg (encTm t)] [.one (.lit (.int .i64 (depthTm t)))]:=con_specDepth_all _ t (Nat.lt_succ_self _) h
end Go.Proofs.YtffmjghcpgpfpaaGreatDoor
namespace Go.Proofs.YtffmjghcpgpfpaaGreatDoor
open Go.RowKit
def Lks (sb:List (Nat × A)) (mb:List (Nat × Bk)) (σ:St):Prop:=(∀ p∈sb,gs σ.s p.1=p.2)∧∀ p∈mb,gm σ.m p.1=some p.2
def keyB (k:Nat):A->Bool
 | .ref k' _=>k'==k
 | .buf k'=>k'==k
 | .row k' _ _ _=>k'==k
 | _=>false
def freeB (d:Nat) (sb:List (Nat × A)) (mb:List (Nat × Bk)):Bool:=sb.all (fun p=>p.1 != d && !keyB d p.2) && mb.all (fun p=>p.1 != d)
theorem gs_killK_keep (k t:Nat):∀ (s:List (Nat × A)),keyB k (gs s t)=false->gs (killK k s) t=gs s t
 | [],_=>rfl
 | (t',x)::r,h=>by
  have ih:=gs_killK_keep k t r
  by_cases ht:t=t'
  ·cases x <;> simp_all [killK,gs,keyB]
  ·have h2:keyB k (gs r t)=false:=by simpa [gs,ht] using h
   have h3:=ih h2
   clear h ih
   cases x <;> simp [killK,gs,ht,h3]
theorem litB_keep {d:Nat} {a:Option Addr} {n cap:Nat} {x:A} (h:keyB d x=false):litB d a n cap x=x:=by
 cases x <;> simp_all [litB,keyB]
section
variable {sb sb':List (Nat × A)} {mb mb':List (Nat × Bk)} {s:List (Nat × A)} {m:List (Nat × Bk)} {d:Nat} {α:A} {bk:Bk} {σ:St}
theorem Lks.app (h:Lks sb mb σ) (h':Lks sb' mb' σ):Lks (sb++sb') (mb++mb') σ :=
 ⟨fun p hp=>(List.mem_append.1 hp).elim (h.1 p) (h'.1 p),fun p hp=>(List.mem_append.1 hp).elim (h.2 p) (h'.2 p)⟩
theorem Lks.born (h:Lks sb mb ⟨s,m⟩) (hf:freeB d sb mb=true):Lks sb mb ⟨(d,α)::killK d s,(d,bk)::remM d m⟩:=by
 simp only [freeB,Bool.and_eq_true,List.all_eq_true,bne_iff_ne,ne_eq,Bool.not_eq_true'] at hf
 refine ⟨fun p hp=>?_,fun p hp=>?_⟩
 ·have h1:=hf.1 p hp
  have h2:=h.1 p hp
  simp only [gs,h1.1,if_false]
  rw [gs_killK_keep _ _ _ (by rw [h2];exact h1.2)]
  exact h2
 ·have h1:=hf.2 p hp
  simp only [gm,h1,if_false,gm_remM]
  exact h.2 p hp
theorem Lks.pin (h:Lks sb mb ⟨s,m⟩) (hf:freeB d sb mb=true) {a:Option Addr} {n cap:Nat}:Lks sb mb ⟨(d,α)::mapS (litB d a n cap) (killK d s),(d,bk)::remM d (remM d m)⟩:=by
 simp only [freeB,Bool.and_eq_true,List.all_eq_true,bne_iff_ne,ne_eq,Bool.not_eq_true'] at hf
 refine ⟨fun p hp=>?_,fun p hp=>?_⟩
 ·have h1:=hf.1 p hp
  have h2:=h.1 p hp
  simp only [gs,h1.1,if_false]
  rw [gs_mapS rfl,gs_killK_keep _ _ _ (by rw [h2];exact h1.2),h2]
  exact litB_keep h1.2
 ·have h1:=hf.2 p hp
  simp only [gm,h1,if_false,gm_remM]
  exact h.2 p hp
theorem Lks.slot (h:Lks sb mb ⟨s,m⟩) (hf:sb.all (fun p=>p.1 != d)=true):Lks sb mb ⟨(d,α)::s,m⟩:=by
 simp only [List.all_eq_true,bne_iff_ne,ne_eq] at hf
 refine ⟨fun p hp=>?_,h.2⟩
 simp only [gs,hf p hp,if_false]
 exact h.1 p hp
theorem Lks.own (h:Lks sb mb ⟨s,m⟩) (hf:mb.all (fun p=>p.1 != d)=true):Lks sb mb ⟨s,(d,bk)::remM d m⟩:=by
 simp only [List.all_eq_true,bne_iff_ne,ne_eq] at hf
 refine ⟨h.1,fun p hp=>?_⟩
 simp only [gm,hf p hp,if_false,gm_remM]
 exact h.2 p hp
theorem gs_lks:∀ {sb:List (Nat × A)} (t:Nat),(∀ p∈sb,gs σ.s p.1=p.2)->gs sb t=gs σ.s t∨gs sb t=.undef
 | [],t,_=>.inr rfl
 | (t',x)::r,t,h=>by
  simp only [gs]
  by_cases ht:t=t'
  ·have:=h (t',x) (by simp)
   rw [if_pos ht,ht]
   exact .inl this.symm
  ·rw [if_neg ht]
   exact gs_lks t fun p hp=>h p (by simp [hp])
theorem gm_lks:∀ {mb:List (Nat × Bk)} (t:Nat) (bk:Bk),(∀ p∈mb,gm σ.m p.1=some p.2)->gm mb t=some bk->gm σ.m t=some bk
 | [],t,bk,_,h=>by simp [gm] at h
 | (t',x)::r,t,bk,h,hg=>by
  simp only [gm] at hg
  by_cases ht:t=t'
  ·rw [if_pos ht] at hg
   injection hg with hg
   have:=h (t',x) (by simp)
   rw [ht,this,hg]
  ·rw [if_neg ht] at hg
   exact gm_lks t bk (fun p hp=>h p (by simp [hp])) hg
end
section
variable {e:Env} {mask:Nat} {Q:PX->St->Prop} {ds:List (Option Nat)}
theorem runs0_mono {os:List Oper} {σ:St} {K K':St->Prop} (h:Runs e ds 0 os σ K) (hk:∀ σ',K σ'->K' σ'):Runs e ds 0 os σ K':=by
 simp only [Runs] at h ⊢
 exact fun he U w0 S0 nt a w ops Q hds hd hQ hs=>h he U w0 S0 nt a w ops Q hds hd (fun a w σ' k1 k2=>hQ a w σ' (hk σ' k1) k2) hs
def backB (l:List Oper):Bool:=(List.range l.length).all fun i=>match l[i]? with
 | none=>true
 | some o=>o.guard.isNone && o.after.toList.all fun e=>!Region.binds .any e || decide (e.on < i)
def depsOf (o:Oper):List Nat:=(o.after.toList.filter fun e=>Region.binds .any e).map (·.on)
def depsAt (L:List Oper) (j:Nat):List Nat:=match L[j]? with
 | some o=>depsOf o
 | none=>[]
def StepsG (e:Env) (ds:List (Option Nat)) (L:List Oper) (B:St->Prop) (P:Nat->St->Prop):Nat->List Oper->Prop
 | _,[]=>True
 | i,o::os=>(∀ s m,B ⟨s,m⟩->(∀ j∈depsOf o,P j ⟨s,m⟩)->Runs e ds 0 [o] ⟨s,m⟩ (fun σ'=>B σ'∧P i σ'∧∀ j,j≠i->i ∉ depsAt L j->P j ⟨s,m⟩->P j σ'))∧StepsG e ds L B P (i+1) os
theorem StepsG.get {L:List Oper} {B:St->Prop} {P:Nat->St->Prop}:∀ {l:List Oper} {k i:Nat} {o:Oper},StepsG e ds L B P k l->l[i]?=some o->∀ s m,B ⟨s,m⟩->(∀ j∈depsOf o,P j ⟨s,m⟩)->Runs e ds 0 [o] ⟨s,m⟩ (fun σ'=>B σ'∧P (k+i) σ'∧∀ j,j≠k+i->k+i ∉ depsAt L j->P j ⟨s,m⟩->P j σ')
 | [],k,i,o,_,h=>by simp at h
 | x::l,k,0,o,h,ho=>by
  simp only [List.getElem?_cons_zero,Option.some.injEq] at ho
  subst ho
  exact h.1
 | x::l,k,i+1,o,h,ho=>by
  have:=StepsG.get (l:=l) (k:=k+1) (i:=i) (o:=o) h.2 (by simpa using ho)
  rw [show k+1+i=k+(i+1) by omega] at this
  exact this
theorem runsT_good {l:List Oper} {K B:St->Prop} {P:Nat->St->Prop} (hb:backB l=true) (hstep:StepsG e ds l B P 0 l) (hK:∀ s m,B ⟨s,m⟩->(∀ i,i < l.length->P i ⟨s,m⟩)->K ⟨s,m⟩) :
  ∀ (f:Nat) (listed:Array Bool) (σ:St),listed.size=l.length->(List.range l.length).countP (fun i=>!listed.getD i true)=f->B σ->(∀ j,listed.getD j false=true->P j σ∧∀ q∈depsAt l j,listed.getD q false=true)->RunsT e ds l.toArray K f listed σ:=by
 have hback:∀ i o,l[i]?=some o->o.guard=none∧∀ e∈o.after,Region.binds .any e=true->e.on < i:=fun i o ho=>by
  have h1:=List.all_eq_true.1 hb i (List.mem_range.2 (List.getElem?_eq_some_iff.1 ho).1)
  rw [ho] at h1
  simp only [Bool.and_eq_true,Option.isNone_iff_eq_none,List.all_eq_true,Bool.or_eq_true,Bool.not_eq_true',decide_eq_true_eq] at h1
  refine ⟨h1.1,fun e he hbe=>?_⟩
  rcases h1.2 e (Array.mem_toList_iff.2 he) with h2 | h2
  ·rw [hbe] at h2;cases h2
  ·exact h2
 have hfirst:∀ (listed:Array Bool),listed.size=l.length->Region.ready .any l.toArray listed=[]->∀ i,i < l.length->listed.getD i false=true:=fun listed hsz h0 i=>by
  induction i using Nat.strongRecOn with
  | _ i ih =>
   intro hi
   rw [<- getD_ftt (by omega:i < listed.size)]
   cases hun:listed.getD i true with
   | true=>rfl
   | false =>
   obtain ⟨o,ho⟩:∃ o,l[i]?=some o:=⟨_,List.getElem?_eq_getElem hi⟩
   have:=(mem_ready (ops:=l.toArray) (md:=.any)).2 ⟨hun,o,by simpa using ho,fun e he hbe=>ih e.on ((hback i o ho).2 e he hbe) (by have:=(hback i o ho).2 e he hbe;omega)⟩
   rw [h0] at this
   cases this
 intro f
 induction f with
 | zero =>
  intro listed σ hsz hc hB hP
  have hall:∀ i,i < l.length->listed.getD i true=true:=fun i hi=>by
   have:=List.countP_eq_zero.1 hc i (List.mem_range.2 hi)
   simpa using this
  refine ⟨?_,hK σ.s σ.m hB fun i hi=>(hP i (by rw [<- getD_ftt (by omega)];exact hall i hi)).1⟩
  cases hr:Region.ready .any l.toArray listed with
  | nil=>rfl
  | cons i r =>
   have hi:i∈Region.ready .any l.toArray listed:=by rw [hr];simp
   obtain ⟨hun,oi,hoi,_⟩:=mem_ready.1 hi
   have hil:i < l.length:=by
    have:=(Array.getElem?_eq_some_iff.1 hoi).1
    simpa using this
   rw [hall i hil] at hun
   cases hun
 | succ f ih =>
  intro listed σ hsz hc hB hP
  refine ⟨fun h0=>hK σ.s σ.m hB fun i hi=>(hP i (hfirst listed hsz h0 i hi)).1,fun i hi=>?_⟩
  obtain ⟨hun,o,hoi,hall⟩:=mem_ready.1 hi
  have ho:l[i]?=some o:=by simpa using hoi
  have hil:i < l.length:=(List.getElem?_eq_some_iff.1 ho).1
  have hls:i < listed.size:=by omega
  refine ⟨o,hoi,(hback i o ho).1,stepOk_of_runs (hback i o ho).1 ?_⟩
  have h1:=StepsG.get hstep ho σ.s σ.m hB fun j hj=>by
   simp only [depsOf,List.mem_map,List.mem_filter] at hj
   obtain ⟨e,⟨he,hbe⟩,rfl⟩:=hj
   exact (hP e.on (hall e (Array.mem_toList_iff.1 he) hbe)).1
  rw [Nat.zero_add] at h1
  refine runs0_mono h1 fun σ' ⟨k1,k2,k3⟩=>ih _ σ' (by simpa using hsz) ?_ k1 fun j hj=>?_
  ·have h1:(List.range l.length).countP (fun j=>!(listed.setIfInBounds i true).getD j true)+1=(List.range l.length).countP (fun j=>!listed.getD j true):=by
    have hperm:=List.perm_cons_erase (List.mem_range.2 hil)
    rw [hperm.countP_eq,hperm.countP_eq,List.countP_cons,List.countP_cons]
    have hcong:((List.range l.length).erase i).countP (fun j=>!(listed.setIfInBounds i true).getD j true)=((List.range l.length).erase i).countP (fun j=>!listed.getD j true):=by
     refine List.countP_congr fun j hj=>?_
     have hne:j≠i:=fun e=>by
      subst e
      exact List.Nodup.not_mem_erase (List.nodup_range) hj
     rw [getD_set_ne true (Ne.symm hne)]
    rw [hcong,hun]
    simp [hls]
   omega
  ·by_cases hji:j=i
   ·subst hji
    refine ⟨k2,fun q hq=>?_⟩
    have hda:depsAt l j=depsOf o:=by unfold depsAt;rw [ho]
    rw [hda] at hq
    simp only [depsOf,List.mem_map,List.mem_filter] at hq
    obtain ⟨e,⟨he,hbe⟩,rfl⟩:=hq
    have hlt:=(hback j o ho).2 e (Array.mem_toList_iff.1 he) hbe
    rw [getD_set_ne false (by omega)]
    exact hall e (Array.mem_toList_iff.1 he) hbe
   ·rw [getD_set_ne false (Ne.symm hji)] at hj
    obtain ⟨p1,p2⟩:=hP j hj
    have hni:i ∉ depsAt l j:=fun hm=>by
     have h2:=p2 i hm
     rw [<- getD_ftt hls,hun] at h2
     cases h2
    refine ⟨k3 j hji hni p1,fun q hq=>?_⟩
    by_cases hqi:q=i
    ·subst hqi;exact absurd hq hni
    ·rw [getD_set_ne false (Ne.symm hqi)];exact p2 q hq
theorem gGd {id:Nat} {l:List Oper} {s:List (Nat × A)} {m:List (Nat × Bk)} (B:St->Prop) (P:Nat->St->Prop) (hB:B ⟨s,m⟩) (hS:StepsG e (l.map (·.dst)) l B P 0 l) (hK:∀ s' m',B ⟨s',m'⟩->(∀ i,i < l.length->P i ⟨s',m'⟩)->∃ sf mf,Lks sf mf ⟨s',m'⟩∧Q .normal ⟨sf,mf⟩)
  (hb:backB l=true:=by decide +kernel) (hT:regT l.toArray 0=true:=by decide +kernel):pwp e mask (.region id l.toArray true) ⟨s,m⟩ Q:=fun he U w0 S0 nt a w hok hs=>by
 refine region_T he hT (K:=fun σ'=>∃ sf mf,Lks sf mf σ'∧Q .normal ⟨sf,mf⟩) (fun a w σ' ⟨sf,mf,h1,h2⟩ h3=>⟨⟨sf,mf⟩,h2,h3.weak (fun t=>gs_lks t h1.1) (fun t bk=>gm_lks t bk h1.2)⟩) (okDst hok) hs ?_
 simp only [List.take_zero,Runs]
 have:=runsT_good (K:=fun σ'=>∃ sf mf,Lks sf mf σ'∧Q .normal ⟨sf,mf⟩) hb hS hK l.length (headArr l.length 0) ⟨s,m⟩ (by simp [headArr]) (by
  rw [List.countP_eq_length.2]
  ·simp
  ·intro i hi
   have hi':=List.mem_range.1 hi
   simp [headArr,hi']) hB (fun j hj=>by
   have h0:(headArr l.length 0).getD j false=false:=by
    by_cases hjl:j < l.length
    ·simp [headArr,hjl]
    ·simp [headArr,hjl]
   rw [h0] at hj
   cases hj)
 simpa using this
def PG {X:Type} (S:X->Nat->List (Nat × A)) (M:X->Nat->List (Nat × Bk)) (i:Nat) (σ:St):Prop:=∃ x,Lks (S x i) (M x i) σ
section
variable {X:Type} {S:X->Nat->List (Nat × A)} {M:X->Nat->List (Nat × Bk)} {d i:Nat} {L:List Oper} {s:List (Nat × A)} {m:List (Nat × Bk)} {α:A} {bk:Bk}
theorem PG.slot (hf:∀ j,j≠i->i ∉ depsAt L j->∀ x,(S x j).all (fun p=>p.1 != d)=true):∀ j,j≠i->i ∉ depsAt L j->PG S M j ⟨s,m⟩->PG S M j ⟨(d,α)::s,m⟩:=fun j h1 h2 ⟨x,h⟩=>⟨x,h.slot (hf j h1 h2 x)⟩
theorem PG.born (hf:∀ j,j≠i->i ∉ depsAt L j->∀ x,freeB d (S x j) (M x j)=true):∀ j,j≠i->i ∉ depsAt L j->PG S M j ⟨s,m⟩->PG S M j ⟨(d,α)::killK d s,(d,bk)::remM d m⟩:=fun j h1 h2 ⟨x,h⟩=>⟨x,h.born (hf j h1 h2 x)⟩
theorem PG.pin (hf:∀ j,j≠i->i ∉ depsAt L j->∀ x,freeB d (S x j) (M x j)=true) {a:Option Addr} {n cap:Nat}:∀ j,j≠i->i ∉ depsAt L j->PG S M j ⟨s,m⟩->PG S M j ⟨(d,α)::mapS (litB d a n cap) (killK d s),(d,bk)::remM d (remM d m)⟩:=fun j h1 h2 ⟨x,h⟩=>⟨x,h.pin (hf j h1 h2 x)⟩
end
end
theorem turn_apart {e:Env} {σ:St} {k k' ety ety' sz sz' cap cap':Nat} {ad ad':Option Addr} {rows rows':List (List C)} (hne:k≠k') (h:gm σ.m k=some (.buf (some (ad,cap)) ety sz rows)) (h':gm σ.m k'=some (.buf (some (ad',cap')) ety' sz' rows')) (hr:0 < rows.length) (hr':0 < rows'.length):Turn e σ (fun σ'=>σ'=σ∧ad≠ad'):=fun he U w0 S0 nt act w hs=>by
 refine ⟨σ,⟨rfl,fun e=>?_⟩,hs⟩
 obtain ⟨S,L,h1⟩:=hs
 have key:∀ {k ety sz cap:Nat} {ad:Option Addr} {rows:List (List C)},gm σ.m k=some (.buf (some (ad,cap)) ety sz rows)->0 < rows.length->∃ g,vblk (L.v k)=some g∧ad=some ⟨g,0,none⟩:=fun {k ety sz cap ad rows} h hr=>by
  obtain ⟨o1,o2⟩:=h1.cls.own k _ h
  have o1:=o1 _ rfl
  rcases o2.2.2 with ⟨h3,_⟩ | ⟨g,cap2,cur,hv,hc,_⟩
  ·rw [h3] at hr;simp at hr
  ·refine ⟨g,by rw [hv];simp [vblk];omega,?_⟩
   rw [o1] at hv
   injection hv with hv _ _
 obtain ⟨g,v1,e1⟩:=key h hr
 obtain ⟨g',v2,e2⟩:=key h' hr'
 rw [e1,e2] at e
 injection e with e
 injection e with e _ _
 rw [<- e] at v2
 exact hne (h1.cls.inj k k' _ _ g h h' v1 v2)
theorem pA {e:Env} {mask:Nat} {Q:PX->St->Prop} {c:Code} {s:List (Nat × A)} {m:List (Nat × Bk)} {ety ety' sz sz' cap cap':Nat} {ad ad':Option Addr} {rows rows':List (List C)} (k k':Nat) (hK:ad≠ad'->pwp e mask c ⟨s,m⟩ Q) (hr:0 < rows.length) (hr':0 < rows'.length) (hne:k≠k':=by decide) (h:gm m k=some (.buf (some (ad,cap)) ety sz rows):=by exact snv) (h':gm m k'=some (.buf (some (ad',cap')) ety' sz' rows'):=by exact snv):pwp e mask c ⟨s,m⟩ Q :=
 pwp_turn (turn_apart hne h h' hr hr') fun σ' ⟨hσ,ha⟩=>by subst hσ;exact hK ha
end Go.Proofs.YtffmjghcpgpfpaaGreatDoor
namespace Go.Proofs.YtffmjghcpgpfpaaGreatDoor
open Go.RowKit
def ordS (s:Srt) (f:(Nat->Option Addr × Nat) × C × C × C):Nat->List (Nat × A)
 | 0=>[(20,.d (.agg (encSrt s)))]
 | 1=>[(21,.d (.one (.sl (nR (up s)))))]
 | 2=>[(22,.d (.one (.lit (.int .i64 s.names.length))))]
 | 3=>[(23,.d (.one (.lit (.slice (f.1 23).1 s.names.length (f.1 23).2))))]
 | 4=>[(24,.d (.one (.lit (.int .i64 s.names.length))))]
 | 5=>[(25,.d (.one (.lit (.slice (f.1 25).1 s.names.length (f.1 25).2))))]
 | 6=>[(26,.d (.agg [.sl (nR (up s)),.lit (.slice (f.1 23).1 s.names.length (f.1 23).2),.lit (.slice (f.1 25).1 s.names.length (f.1 25).2)]))]
 | 7=>[(5,.ref 5 0)]
 | 8=>[(5,.ref 5 0)]
 | _=>[]
def ordM (s:Srt) (f:(Nat->Option Addr × Nat) × C × C × C):Nat->List (Nat × Bk)
 | 3=>[(23,.buf (some (f.1 23)) 3 1 (nR (List.replicate s.names.length 0)))]
 | 5=>[(25,.buf (some (f.1 25)) 3 1 (nR (List.replicate s.names.length 0)))]
 | 6=>[(23,.buf (some (f.1 23)) 3 1 (nR (List.replicate s.names.length 0))),(25,.buf (some (f.1 25)) 3 1 (nR (List.replicate s.names.length 0)))]
 | 7=>[(5,.var none [f.2.1,f.2.2.1,f.2.2.2])]
 | 8=>[(5,.var none [.sl (nR (up s)),.lit (.slice (f.1 23).1 s.names.length (f.1 23).2),.lit (.slice (f.1 25).1 s.names.length (f.1 25).2)]),(23,.buf (some (f.1 23)) 3 1 (nR (List.replicate s.names.length 0))),(25,.buf (some (f.1 25)) 3 1 (nR (List.replicate s.names.length 0)))]
 | _=>[]
theorem ord_0:(∀ (u l:List Nat),downs u 0 l=l)∧∀ n,kFill n 0=List.replicate n 0:=⟨fun _ _=>rfl,fun n=>by simp [kFill]⟩
theorem ordI_0 (i:Nat) (l:List Nat):downIn i l []=l:=rfl
theorem ordI_step {ks:List Nat} {j k:Nat} (h:ks[j]?=some k) (i:Nat) (l:List Nat):downIn i l (ks.take (j+1))=(downIn i l (ks.take j)).set k ((downIn i l (ks.take j)).getD k 0 ||| 2 ^ i):=foldl_take h l
def ordB1 (s:Srt):List (Nat × A):=[(1,.ref 1 0),(2,.ref 2 0),(3,.d (.one (.lit (.bool false)))),(4,.d (.one (.lit (.int .i64 s.names.length))))]
def ordB2 (s:Srt):List (Nat × Bk):=[(1,.var none (encSrt s)),(2,.var none [.sl [],.sl [],.sl []])]
def ordB (s:Srt) (σ:St):Prop:=Lks (ordB1 s) (ordB2 s) σ
section
variable {s:Srt}
set_option maxHeartbeats 4000000 in
set_option maxRecDepth 100000 in
theorem con_newOrder_not (hok:okSrt s) (hs:¬ SortsOk s):Con e0 104 [.agg (encSrt s)] [.agg [.sl [],.sl [],.sl []],.one (.lit (.bool false))]:=by
 have cI:=con_implSorts hok
 rw [isSorts_false hs,encSrt] at cI
 rw [encSrt]
 refine gI (ts:=[.cell 2 143,.slot 3]) 569543224310601128703 Tryz.func104 ?_
 (have F:=@e0P;refine gG ?_;clear F)
 refine gB ?_
 (have F:=@e0P;refine gC (cI) ?_;clear F)
 (have F:=@e0P;refine gR ?_;clear F)
 (have F:=@e0P;refine gG ?_;exact gTd)
set_option maxHeartbeats 8000000 in
set_option maxRecDepth 100000 in
theorem con_newOrder (hok:okSrt s) (hs:SortsOk s):Con e0 104 [.agg (encSrt s)] [.agg (encOrd s),.one (.lit (.bool true))]:=by
 have cI:=con_implSorts hok
 have hSI:=SortsOk.subsIn hs.subs
 have cA:=con_implAbove hs.n1 hs.n8 hs.m16 hSI
 rw [isSorts_true hs] at cI
 rw [encSrt] at cI ⊢
 refine gI (ts:=[.cell 2 143,.slot 3]) 569543224310601128703 Tryz.func104 ?_
 (have F:=@e0P;refine gG ?_;clear F)
 refine gB ?_
 (have F:=@e0P;refine gC (cI) ?_;clear F)
 (have F:=@e0P;refine gR ?_;clear F)
 (have F:=@e0P;have NN:StopAt 4:=trivial;refine gGn ?_;clear F NN)
 have hmx:((s.names.length:Int)<=(maxApp:Int))=True:=eq_true (by have:=hs.n8;unfold maxApp;omega)
 refine gGd (ordB s) (PG (ordS s) (ordM s)) ⟨by simp [ordB1,gs],by simp [ordB2,gm,encSrt]⟩ ⟨?_,?_,?_,?_,?_,?_,?_,?_,?_,trivial⟩ ?_
 rotate_right
 all_goals (intro s' m' hB)
 all_goals (have g1:gs s' 1=.ref 1 0:=hB.1 (1,.ref 1 0) (by simp [ordB1]))
 all_goals (have g4:gs s' 4=.d (.one (.lit (.int .i64 s.names.length))):=hB.1 (4,_) (by simp [ordB1]))
 all_goals (have k1:gm m' 1=some (.var none [.sl (s.names.map encStr),.sl (s.subs.map encSub)]):=hB.2 (1,_) (by simp [ordB2,encSrt]))
 ·intro hP
  clear g1 g4 k1
  obtain ⟨f,h⟩:=hP 8 (by decide)
  refine ⟨_,_,h.app hB,?_⟩
  generalize hp:f.1 23=p
  generalize hq:f.1 25=q
  obtain ⟨a3,c3⟩:=p
  obtain ⟨a5,c5⟩:=q
  simp only [ordS,ordM,ordB1,ordB2,List.cons_append,List.nil_append,encSrt,hp,hq]
  clear hp hq h hB hP s' m' f
  refine ⟨_,Wk.refl _,?_⟩
  have hU:=up_ok hSI
  have lU:=nR_len (l:=up s)
  rw [hU.1] at lU
  have h8:=hs.n8
  have rU:=nR_rows (l:=up s)
  (have F:=@e0P;have NN:StopAt 5:=trivial;refine gGn ?_;clear F NN)
  have hn1:=hs.n1
  have l00:0 < (nR (List.replicate s.names.length 0)).length:=by rw [nR_len,List.length_replicate];omega
  refine pA 23 25 (fun hne=>?_) l00 l00
  have hn5:∀ p,(a5=a3∧p)=False:=fun p=>eq_false fun e=>hne e.1.symm
  (have F:=@lU;refine gG ?_;clear F)
  (have F:=@ord_0;refine gL (ι:=Nat) [6,7,9,30,31,36,37,38,39] [23,25] (fun i=>[(30,A.d (.one (.lit (.int .i64 i))))]) (fun i=>[(23,.buf (some (a3,c3)) 3 1 (nR (downs (up s) i (List.replicate s.names.length 0)))),(25,.buf (some (a5,c5)) 3 1 (nR (kFill s.names.length i)))]) (fun i=>i<=s.names.length) (fun i=>s.names.length - i) (0) (Nat.zero_le _) (fun i hi=>?_);clear F)
  have hDi:=UpOk.downs hU i (l:=List.replicate s.names.length 0) hi (UpOk.zeros _)
  have lK:=nR_len (l:=kFill s.names.length i)
  rw [kFill_len hi] at lK
  by_cases hlt:i < s.names.length
  ·have q1:(i:Int) < (s.names.length:Int):=by omega
   have hw:=wrap1 (k:=i) (by omega)
   obtain ⟨gi,bi⟩:=hU.get hlt
   have r1:=nR_get gi
   have p256:2 ^ s.names.length<=256:=Nat.le_trans (Nat.pow_le_pow_right (by omega) h8) (by decide)
   have cL:=con_listOf (a:=(up s).getD i 0) (by omega)
   have hdn:downs (up s) (i+1) (List.replicate s.names.length 0)=downIn i (downs (up s) i (List.replicate s.names.length 0)) (listOf ((up s).getD i 0)):=rfl
   have hks:=listOf_lt bi
   have lks:=nR_len (l:=listOf ((up s).getD i 0))
   have rks:=nR_rows (l:=listOf ((up s).getD i 0))
   have hks16:(listOf ((up s).getD i 0)).length<=64:=Nat.le_trans (bitsTo_len _ _) (by decide)
   have hsh:=shl_k (k:=i) (by omega)
   (have F:=ai @q1 (ai @lU (ai @r1 @rU));refine gG ?_;clear F)
   refine gB ?_
   (have F:=@e0P;refine gC (cL) ?_;clear F)
   (have F:=@lks;refine gR ?_;clear F)
   generalize listOf ((up s).getD i 0)=ks at hdn hks lks rks hks16 ⊢
   generalize downs (up s) i (List.replicate s.names.length 0)=l at hdn hDi ⊢
   (have F:=@lks;refine gG ?_;clear F)
   (have F:=@ordI_0;refine gL (ι:=Nat) [9,38,39] [23] (fun j=>[(38,A.d (.one (.lit (.int .i64 j))))]) (fun j=>[(23,.buf (some (a3,c3)) 3 1 (nR (downIn i l (ks.take j))))]) (fun j=>j<=ks.length) (fun j=>ks.length - j) (0) (Nat.zero_le _) (fun j hj=>?_);clear F)
   by_cases hlj:j < ks.length
   ·have q2:(j:Int) < (ks.length:Int):=by omega
    have hwj:=wrap1 (k:=j) (by omega)
    obtain ⟨k,hk⟩:∃ k,ks[j]?=some k:=⟨_,List.getElem?_eq_getElem hlj⟩
    have hkn:=hks k (List.mem_of_getElem? hk)
    have r2:=nR_get hk
    have hst:=ordI_step hk i l
    have hV:=UpOk.downIn hlt hDi (ks:=ks.take j) fun q hq=>hks q (List.mem_of_mem_take hq)
    generalize downIn i l (ks.take j)=v at hst hV ⊢
    obtain ⟨gk,bk⟩:=hV.get hkn
    have r3:=nR_get gk
    have l3:=nR_len (l:=v)
    rw [hV.1] at l3
    have l4:=nR_rows (l:=v)
    have l5:=nR_set (l:=v) k (v.getD k 0 ||| 2 ^ i)
    have p2:2 ^ i < 4611686018427387904:=pow_lt62 (by omega)
    have hor:=bits_or (a:=v.getD k 0) (b:=2 ^ i) (by omega) p2
    (have F:=ai @q2 (ai @r2 (ai @rks (ai @lks (ai @r3 (ai @l3 (ai @l4 (ai @l5 (ai @hsh (ai @hor (ai @hkn (ai @natInt (ai @hwj @hst))))))))))));refine gG ?_;exact ⟨j+1,hlj,gw,gw,by omega⟩)
   obtain rfl:j=ks.length:=by omega
   have q2:¬ ((ks.length:Int) < (ks.length:Int)):=by omega
   rw [List.take_length,<- hdn]
   have l6:=nR_rows (l:=kFill s.names.length i)
   have l7:=nR_set (l:=kFill s.names.length i) i i
   rw [kFill_set hlt] at l7
   obtain ⟨y,gy⟩:∃ y,(kFill s.names.length i)[i]?=some y:=⟨_,List.getElem?_eq_getElem (by rw [kFill_len hi];exact hlt)⟩
   have r5:=nR_get gy
   (have F:=ai @q2 (ai @hn5 (ai @lK (ai @l6 (ai @l7 (ai @r5 (ai @hlt (ai @hw @natInt)))))));refine gG ?_;exact ⟨i+1,hlt,gw,gw,by omega⟩)
  obtain rfl:i=s.names.length:=by omega
  have q1:¬ ((s.names.length:Int) < (s.names.length:Int)):=by omega
  rw [kFill_end,show downs (up s) s.names.length (List.replicate s.names.length 0)=down s from rfl]
  clear hDi lK
  have hK:=KOk.start s.names.length
  (have F:=@q1;refine gG ?_;clear F)
  (have F:=@kIter_0;refine gL (ι:=Nat) [11,12,62,63,65,66,67,68] [25] (fun j=>[(62,A.d (.one (.lit (.int .i64 j))))]) (fun j=>[(25,.buf (some (a5,c5)) 3 1 (nR (kIter s.subs j (List.range s.names.length))))]) (fun j=>j<=s.names.length) (fun j=>s.names.length - j) (0) (Nat.zero_le _) (fun j hj=>?_);clear F)
  have hKj:=KOk.iter hSI j hK
  have l0:=nR_len (l:=kIter s.subs j (List.range s.names.length))
  rw [hKj.1] at l0
  by_cases hlj:j < s.names.length
  rotate_left
  ·obtain rfl:j=s.names.length:=by omega
   have q2:¬ ((s.names.length:Int) < (s.names.length:Int)):=by omega
   rw [show kIter s.subs s.names.length (List.range s.names.length)=kinds s from rfl]
   (have F:=@q2;have NN:StopAt 25:=trivial;refine gGn ?_;clear F NN)
   have lD:=nR_len (l:=down s)
   rw [(down_ok hSI).1] at lD
   have lK:=nR_len (l:=kinds s)
   rw [(kinds_ok hSI).1] at lK
   refine pD 23 [] [5] ?_ (hr:=by simp only [pz,↓reduceIte,Nat.reduceEqDiff,Nat.reduceAdd,Nat.reduceSub,Nat.reduceMul,Nat.reduceLeDiff,Nat.reduceBEq,Bool.false_eq_true,decide_true,decide_false,Int.reduceLE,Int.reduceToNat,Int.reduceLT,Int.reduceEq,eq_self,Nat.reduceShiftRight,Nat.reduceAnd,Nat.reduceBneDiff,lD,hn5,if_false];exact rfl)
   refine pD 25 [] [5] ?_ (hr:=by simp only [pz,↓reduceIte,Nat.reduceEqDiff,Nat.reduceAdd,Nat.reduceSub,Nat.reduceMul,Nat.reduceLeDiff,Nat.reduceBEq,Bool.false_eq_true,decide_true,decide_false,Int.reduceLE,Int.reduceToNat,Int.reduceLT,Int.reduceEq,eq_self,Nat.reduceShiftRight,Nat.reduceAnd,Nat.reduceBneDiff,lK,hn5,if_false];exact rfl)
   (have F:=@encOrd_u;refine gG ?_;exact gTd)
  have q2:(j:Int) < (s.names.length:Int):=by omega
  have hwj:=wrap1 (k:=j) (by omega)
  have hnx:kIter s.subs (j+1) (List.range s.names.length)=s.subs.foldl kSub (kIter s.subs j (List.range s.names.length)):=rfl
  generalize kIter s.subs j (List.range s.names.length)=u at hKj hnx l0 ⊢
  (have F:=ai @l0 @q2;refine gG ?_;clear F)
  have hm16:=hs.m16
  (have F:=@kSub_0;refine gL (ι:=Nat) [11,12,67,68] [25] (fun i=>[(67,A.d (.one (.lit (.int .i64 i))))]) (fun i=>[(25,.buf (some (a5,c5)) 3 1 (nR ((s.subs.take i).foldl kSub u)))]) (fun i=>i<=s.subs.length) (fun i=>s.subs.length - i) (0) (Nat.zero_le _) (fun i hi=>?_);clear F)
  by_cases hli:i < s.subs.length
  rotate_left
  ·obtain rfl:i=s.subs.length:=by omega
   have q3:¬ ((s.subs.length:Int) < (s.subs.length:Int)):=by omega
   rw [List.take_length,<- hnx]
   (have F:=ai @q3 @hwj;refine gG ?_;exact ⟨j+1,hlj,gw,gw,by omega⟩)
  have q3:(i:Int) < (s.subs.length:Int):=by omega
  have hwi:=wrap1 (k:=i) (by omega)
  obtain ⟨p,hp⟩:∃ p,s.subs[i]?=some p:=⟨_,List.getElem?_eq_getElem hli⟩
  have hps:=hSI p (List.mem_of_getElem? hp)
  have hst:=kSub_step hp u
  have hUi:=KOk.foldl hKj (hSI.take i)
  generalize (s.subs.take i).foldl kSub u=v at hUi hst ⊢
  obtain ⟨g1,b1⟩:=hUi.get (i:=p.1.toNat) (by omega)
  obtain ⟨g2,b2⟩:=hUi.get (i:=p.2.toNat) (by omega)
  have l1:=nR_get g1
  have l2:=nR_get g2
  have l3:=nR_len (l:=v)
  rw [hUi.1] at l3
  have l4:=nR_rows (l:=v)
  have hmin:(if (v.getD p.2.toNat 0:Int) < (v.getD p.1.toNat 0:Int) then (v.getD p.2.toNat 0:Int) else (v.getD p.1.toNat 0:Int))=((min (v.getD p.1.toNat 0) (v.getD p.2.toNat 0):Nat):Int):=by
   split <;> omega
  generalize hmn:min (v.getD p.1.toNat 0) (v.getD p.2.toNat 0)=mn at hmin hst
  have l5:=nR_set (l:=v) p.1.toNat mn
  have l6:=nR_set (l:=v.set p.1.toNat mn) p.2.toNat mn
  have l7:=nR_len (l:=v.set p.1.toNat mn)
  rw [List.length_set,hUi.1] at l7
  have l8:=nR_rows (l:=v.set p.1.toNat mn)
  obtain ⟨x9,g9⟩:∃ x,(v.set p.1.toNat mn)[p.2.toNat]?=some x:=⟨_,List.getElem?_eq_getElem (by rw [List.length_set,hUi.1];omega)⟩
  have l9:=nR_get g9
  have i1:0<=p.1:=hps.1
  have i2:0<=p.2:=hps.2.2.1
  have i3:p.1.toNat < s.names.length:=by omega
  have i4:p.2.toNat < s.names.length:=by omega
  have hst:(s.subs.take (i+1)).foldl kSub u=(v.set p.1.toNat mn).set p.2.toNat mn:=by rw [hst];unfold kSub;rw [hmn]
  (have F:=ai @q3 (ai @hp (ai @encSub_u (ai @hn5 (ai @l1 (ai @l2 (ai @l3 (ai @l4 (ai @l5 (ai @l6 (ai @l7 (ai @l8 (ai @l9 (ai @i1 (ai @i2 (ai @i3 (ai @i4 (ai @hmin (ai @hwi @hst))))))))))))))))));refine gG ?_;exact ⟨i+1,hli,gw,gw,by omega⟩)
 ·intro _
  refine (have F:=ai g1 k1;gO3 ?_)
  exact ⟨hB.slot rfl,⟨(fun _=>(none,0),.sl [],.sl [],.sl []),by simp [ordS,gs,encSrt],by simp [ordM]⟩,PG.slot (by intro j h1 h2 x;rcases j with _ | _ | _ | _ | _ | _ | _ | _ | _ | j <;> first | rfl | exact absurd rfl h1 | exact absurd (by decide) h2)⟩
 ·intro hP
  obtain ⟨f,h0,_⟩:=hP 0 (by decide)
  have g20:gs s' 20=.d (.agg (encSrt s)):=h0 (_,_) (by simp [ordS])
  refine (have F:=g20;gC cA ?_)
  refine runs_nil ?_
  exact ⟨hB.slot rfl,⟨(fun _=>(none,0),.sl [],.sl [],.sl []),by simp [ordS,gs],by simp [ordM]⟩,PG.slot (by intro j h1 h2 x;rcases j with _ | _ | _ | _ | _ | _ | _ | _ | _ | j <;> first | rfl | exact absurd rfl h1 | exact absurd (by decide) h2)⟩
 ·intro _
  refine (have F:=g4;gO3 ?_)
  exact ⟨hB.slot rfl,⟨(fun _=>(none,0),.sl [],.sl [],.sl []),by simp [ordS,gs],by simp [ordM]⟩,PG.slot (by intro j h1 h2 x;rcases j with _ | _ | _ | _ | _ | _ | _ | _ | _ | j <;> first | rfl | exact absurd rfl h1 | exact absurd (by decide) h2)⟩
 ·intro hP
  obtain ⟨f,h0,_⟩:=hP 2 (by decide)
  have g22:gs s' 22=.d (.one (.lit (.int .i64 s.names.length))):=h0 (_,_) (by simp [ordS])
  refine (have F:=ai g22 (ai hmx (ai @Int.toNat_natCast @len_rep));gP 1 ?_)
  refine gS 23 fun a cap=>?_
  refine runs_nil ?_
  exact ⟨hB.pin rfl,⟨(fun _=>(a,cap),.sl [],.sl [],.sl []),by simp [ordS,gs],by simp [ordM,gm,nR_0]⟩,PG.pin (by intro j h1 h2 x;rcases j with _ | _ | _ | _ | _ | _ | _ | _ | _ | j <;> first | rfl | exact absurd rfl h1 | exact absurd (by decide) h2)⟩
 ·intro _
  refine (have F:=g4;gO3 ?_)
  exact ⟨hB.slot rfl,⟨(fun _=>(none,0),.sl [],.sl [],.sl []),by simp [ordS,gs],by simp [ordM]⟩,PG.slot (by intro j h1 h2 x;rcases j with _ | _ | _ | _ | _ | _ | _ | _ | _ | j <;> first | rfl | exact absurd rfl h1 | exact absurd (by decide) h2)⟩
 ·intro hP
  obtain ⟨f,h0,_⟩:=hP 4 (by decide)
  have g24:gs s' 24=.d (.one (.lit (.int .i64 s.names.length))):=h0 (_,_) (by simp [ordS])
  refine (have F:=ai g24 (ai hmx (ai @Int.toNat_natCast @len_rep));gP 1 ?_)
  refine gS 25 fun a cap=>?_
  refine runs_nil ?_
  exact ⟨hB.pin rfl,⟨(fun _=>(a,cap),.sl [],.sl [],.sl []),by simp [ordS,gs],by simp [ordM,gm,nR_0]⟩,PG.pin (by intro j h1 h2 x;rcases j with _ | _ | _ | _ | _ | _ | _ | _ | _ | j <;> first | rfl | exact absurd rfl h1 | exact absurd (by decide) h2)⟩
 ·intro hP
  obtain ⟨f1,h1,_⟩:=hP 1 (by decide)
  obtain ⟨f3,h3,h3'⟩:=hP 3 (by decide)
  obtain ⟨f5,h5,h5'⟩:=hP 5 (by decide)
  have g21:gs s' 21=.d (.one (.sl (nR (up s)))):=h1 (_,_) (by simp [ordS])
  have g23:gs s' 23=.d (.one (.lit (.slice (f3.1 23).1 s.names.length (f3.1 23).2))):=h3 (_,_) (by simp [ordS])
  have g25:gs s' 25=.d (.one (.lit (.slice (f5.1 25).1 s.names.length (f5.1 25).2))):=h5 (_,_) (by simp [ordS])
  have k23:=h3' (23,_) (by simp [ordM];rfl)
  have k25:=h5' (25,_) (by simp [ordM];rfl)
  refine (have F:=ai g21 (ai g23 g25);gO3 ?_)
  exact ⟨hB.slot rfl,⟨(fun k=>if k=23 then f3.1 23 else f5.1 25,.sl [],.sl [],.sl []),by simp [ordS,gs],by simp [ordM];exact ⟨k23,k25⟩⟩,PG.slot (by intro j h1 h2 x;rcases j with _ | _ | _ | _ | _ | _ | _ | _ | _ | j <;> first | rfl | exact absurd rfl h1 | exact absurd (by decide) h2)⟩
 ·intro _
  refine (have F:=g4;gO3 ?_)
  exact ⟨hB.born rfl,⟨(fun _=>(none,0),.sl [],.sl [],.sl []),by simp [ordS,gs],by simp [ordM,gm]⟩,PG.born (by intro j h1 h2 x;rcases j with _ | _ | _ | _ | _ | _ | _ | _ | _ | j <;> first | rfl | exact absurd rfl h1 | exact absurd (by decide) h2)⟩
 ·intro hP
  obtain ⟨f6,h6,h6'⟩:=hP 6 (by decide)
  obtain ⟨f7,h7,h7'⟩:=hP 7 (by decide)
  have g26:gs s' 26=.d (.agg [.sl (nR (up s)),.lit (.slice (f6.1 23).1 s.names.length (f6.1 23).2),.lit (.slice (f6.1 25).1 s.names.length (f6.1 25).2)]):=h6 (_,_) (by simp [ordS])
  have g5:gs s' 5=.ref 5 0:=h7 (_,_) (by simp [ordS])
  have k5:gm m' 5=some (.var none [f7.2.1,f7.2.2.1,f7.2.2.2]):=h7' (_,_) (by simp [ordM])
  have k23:=h6' (23,_) (by simp [ordM];rfl)
  have k25:=h6' (25,_) (by simp [ordM];rfl)
  refine (have F:=ai g26 (ai g5 k5);gO3 ?_)
  refine ⟨hB.own rfl,⟨f6,by simp [ordS,g5],by simp [ordM,gm,gm_remM];exact ⟨k23,k25⟩⟩,?_⟩
  intro j q1 q2 ⟨x,q⟩
  rcases j with _ | _ | _ | _ | _ | _ | _ | _ | _ | j
  all_goals first
   | exact ⟨x,q.own rfl⟩
   | exact absurd rfl q1
   | exact ⟨(fun _=>(none,0),.sl (nR (up s)),.lit (.slice (f6.1 23).1 s.names.length (f6.1 23).2),.lit (.slice (f6.1 25).1 s.names.length (f6.1 25).2)),by simp [ordS,g5],by simp [ordM,gm]⟩
end
section
variable {g:Sgn}
theorem opSeen_step {k:Nat} {o:Opr} (h:g.ops[k]?=some o):seenL (opNames (g.ops.take k))++[(o.name,.bool true)]=seenL (opNames (g.ops.take (k+1))):=by
 rw [opNames_snoc h,seenL,seenL,List.map_append]
 rfl
theorem hasStr_mono {l:List Opr} {i k m:Nat} (h:i=k+m) {s:ByteArray} (hs:hasStr (opNames (l.take k)) s=true):hasStr (opNames (l.take i)) s=true:=by
 subst h
 rw [List.take_add,opNames,List.map_append]
 unfold hasStr at hs ⊢
 rw [List.any_append]
 rw [opNames] at hs
 rw [hs,Bool.true_or]
theorem opSeen_0 (l:List Opr):seenL (opNames (l.take 0))=[]∧seenL (opNames [])=[]:=⟨rfl,rfl⟩
set_option maxHeartbeats 8000000 in
set_option maxRecDepth 100000 in
theorem con_implSgn (hg:okSgn g):Con e0 103 [.agg (encSgn g)] [.one (.lit (.bool (isSgn g)))]:=by
 have hno:¬ SgnOk g->isSgn g=false:=isSgn_false
 rw [encSgn]
 refine gI 9358620764179268287 Tryz.func103 ?_
 by_cases hs:SortsOk g.sorts
 rotate_left
 ·have cO:=con_newOrder_not hg.1 hs
  have hf:=hno fun h=>hs h.sorts
  rw [encSrt] at cO
  (have F:=@e0P;refine gG ?_;clear F)
  refine gB ?_
  (have F:=@e0P;refine gC (cO) ?_;clear F)
  (have F:=@e0P;refine gR ?_;clear F)
  (have F:=@hf;refine gG ?_;exact gT)
 have cO:=con_newOrder hg.1 hs
 rw [encSrt] at cO
 (have F:=@e0P;refine gG ?_;clear F)
 refine gB ?_
 (have F:=@e0P;refine gC (cO) ?_;clear F)
 (have F:=@encOrd_u;refine gR ?_;clear F)
 by_cases h14:g.ops.length<=14
 rotate_left
 ·have z1:((14:Int) < (g.ops.length:Int))=True:=eq_true (by omega)
  have hf:=hno fun h=>h14 h.len
  (have F:=ai @z1 @hf;refine gG ?_;exact gT)
 have z1:((14:Int) < (g.ops.length:Int))=False:=eq_false (by omega)
 (have F:=@z1;have NN:StopAt 4:=trivial;refine gGn ?_;clear F NN)
 refine gB ?_
 refine gMk fun b=>?_
 (have F:=@e0P;refine gR ?_;clear F)
 (have F:=@e0P;refine gG ?_;clear F)
 (have F:=((opSeen_0 g.ops));refine gL (ι:=Nat) [2,7,28,29,47] [24] (fun i=>[(28,A.d (.one (.lit (.int .i64 i))))]) (fun i=>[(24,mapB b (seenL (opNames (g.ops.take i))))]) (fun i=>i<=g.ops.length∧(∀ (j:Nat) (o:Opr),j < i->g.ops[j]?=some o->isName o.name=true∧hasStr (opNames (g.ops.take j)) o.name=false)∧(∀ o∈g.ops.take i,DeclsOk g.sorts o)) (fun i=>g.ops.length - i) (0) (⟨Nat.zero_le _,fun j o h=>absurd h (by omega),fun o h=>by simp at h⟩) (fun i hi=>?_);clear F)
 obtain ⟨hil,hnm,hdc⟩:=hi
 by_cases hlt:i < g.ops.length
 ·have q1:(i:Int) < (g.ops.length:Int):=by omega
  obtain ⟨o,ho⟩:∃ o,g.ops[i]?=some o:=⟨_,List.getElem?_eq_getElem hlt⟩
  have hom:=List.mem_of_getElem? ho
  have hw:=wrap1 (k:=i) (by omega)
  have hfs:=findS_seen (opNames (g.ops.take i)) o.name
  have hbad:¬ (isName o.name=true∧hasStr (opNames (g.ops.take i)) o.name=false)->isSgn g=false:=fun h=>hno fun hs=>h (hs.names i o ho)
  have hbad2:declsOk g.sorts o=false->isSgn g=false:=fun h=>hno fun hs=>by rw [declsOk_true (hs.decls o hom)] at h;cases h
  have cN:=con_implName (hg.2 o hom).1
  have cD:=con_implDecls hs o
  rw [encOpr,encOrd] at cD
  (have F:=ai @q1 (ai @ho @encOpr_u);have NN:StopAt 8:=trivial;refine gGn ?_;clear F NN)
  refine gB ?_
  (have F:=@e0P;refine gP 3 ?_;clear F)
  cases hh:hasStr (opNames (g.ops.take i)) o.name with
  | true =>
   rw [hh] at hfs hbad
   have hf:=hbad fun h=>by cases h.2
   refine (have F:=e0P;gLk 24 un_mapB un_str zv_bool (v:=.bool true) (by rw [hfs];rfl) ?_)
   (have F:=@e0P;refine gR ?_;clear F)
   (have F:=@hf;refine gG ?_;exact gT)
  | false =>
  rw [hh] at hfs hbad
  refine (have F:=e0P;gLk 24 un_mapB un_str zv_bool (v:=.bool false) (by rw [hfs];rfl) ?_)
  (have F:=@e0P;refine gC (cN) ?_;clear F)
  cases hn:isName o.name with
  | false =>
   have hf:=hbad fun h=>by rw [hn] at h;cases h.1
   (have F:=@e0P;refine gR ?_;clear F)
   (have F:=@hf;refine gG ?_;exact gT)
  | true =>
  (have F:=@encOrd_u;refine gC (cD) ?_;clear F)
  cases hd:declsOk g.sorts o with
  | false =>
   have hf:=hbad2 hd
   (have F:=@e0P;refine gR ?_;clear F)
   (have F:=@hf;refine gG ?_;exact gT)
  | true =>
  have hq:i+1<=g.ops.length∧(∀ (j:Nat) (o:Opr),j < i+1->g.ops[j]?=some o->isName o.name=true∧hasStr (opNames (g.ops.take j)) o.name=false)∧(∀ o∈g.ops.take (i+1),DeclsOk g.sorts o):=⟨hlt,fun j o' hj ho'=>by
   by_cases e:j=i
   ·subst e
    rw [ho] at ho'
    injection ho' with ho'
    subst ho'
    exact ⟨hn,hh⟩
   ·exact hnm j o' (by omega) ho',fun o' ho'=>by
   rw [take_snoc ho] at ho'
   rcases List.mem_append.1 ho' with h | h
   ·exact hdc o' h
   ·rw [List.mem_singleton.1 h];exact declsOk_iff.1 hd⟩
  have hsn:=opSeen_step ho
  (have F:=@e0P;refine gR ?_;clear F)
  (have F:=@e0P;have NN:StopAt 10:=trivial;refine gGn ?_;clear F NN)
  refine gB ?_
  (have F:=@e0P;refine gP 3 ?_;clear F)
  refine (have F:=e0P;gUp 24 un_mapB un_str (by rw [hfs];rfl) ?_)
  rw [hsn]
  (have F:=@e0P;refine gR ?_;clear F)
  (have F:=@hw;refine gG ?_;exact ⟨i+1,hq,gw,gw,by omega⟩)
 obtain rfl:i=g.ops.length:=by omega
 have q1:¬ ((g.ops.length:Int) < (g.ops.length:Int)):=by omega
 rw [List.take_length] at hdc
 have hnames:∀ (i:Nat) (o:Opr),g.ops[i]?=some o->isName o.name=true∧hasStr (opNames (g.ops.take i)) o.name=false:=fun i o ho=>hnm i o (List.getElem?_eq_some_iff.1 ho).1 ho
 (have F:=@q1;refine gG ?_;clear F)
 (have F:=@e0P;refine gL (ι:=Nat) [2,9,55,56,63] [] (fun k=>[(55,A.d (.one (.lit (.int .i64 k))))]) (fun k=>[]) (fun k=>k<=g.ops.length∧∀ o∈g.ops.take k,AxOk g o) (fun k=>g.ops.length - k) (0) (⟨Nat.zero_le _,fun o h=>by simp at h⟩) (fun k hk=>?_);clear F)
 obtain ⟨hkl,hax⟩:=hk
 by_cases hlk:k < g.ops.length
 rotate_left
 ·obtain rfl:k=g.ops.length:=by omega
  rw [List.take_length] at hax
  have q2:¬ ((g.ops.length:Int) < (g.ops.length:Int)):=by omega
  have ht:=isSgn_true ⟨hs,h14,hnames,hdc,hax⟩
  (have F:=ai @q2 @ht;refine gG ?_;exact gT)
 have q2:(k:Int) < (g.ops.length:Int):=by omega
 obtain ⟨o,ho⟩:∃ o,g.ops[k]?=some o:=⟨_,List.getElem?_eq_getElem hlk⟩
 have hom:=List.mem_of_getElem? ho
 have hw:=wrap1 (k:=k) (by omega)
 have cA:=con_implAxioms hs hdc hom h14
 rw [encOpr,encOrd,encSgn] at cA
 (have F:=ai @q2 (ai @ho @encOpr_u);refine gG ?_;clear F)
 refine gB ?_
 (have F:=@encOrd_u;refine gC (cA) ?_;clear F)
 cases ha:axOk g o with
 | false =>
  have hf:=hno fun h=>by rw [axOk_true (h.axs o hom)] at ha;cases ha
  (have F:=@e0P;refine gR ?_;clear F)
  (have F:=@hf;refine gG ?_;exact gT)
 | true =>
 have hq:k+1<=g.ops.length∧∀ o∈g.ops.take (k+1),AxOk g o:=⟨hlk,fun o' ho'=>by
  rw [take_snoc ho] at ho'
  rcases List.mem_append.1 ho' with h | h
  ·exact hax o' h
  ·rw [List.mem_singleton.1 h];exact axOk_iff.1 ha⟩
 (have F:=@e0P;refine gR ?_;clear F)
 (have F:=@hw;refine gG ?_;exact ⟨k+1,hq,gw,gw,by omega⟩)
set_option maxHeartbeats 8000000 in
set_option maxRecDepth 100000 in
theorem con_specSgn (hg:okSgn g):Con e0 94 [.agg (encSgn g)] [.one (.lit (.bool (isSgn g)))]:=by
 have hno:¬ SgnOk g->isSgn g=false:=isSgn_false
 have cS:=con_specSorts hg.1
 rw [encSrt] at cS
 rw [encSgn]
 refine gI 599807422667317870655 Tryz.func94 ?_
 (have F:=@e0P;refine gG ?_;clear F)
 refine gB ?_
 (have F:=@e0P;refine gC (cS) ?_;clear F)
 cases hss:isSorts g.sorts with
 | false =>
  have hf:=hno fun h=>by rw [isSorts_true h.sorts] at hss;cases hss
  (have F:=@e0P;refine gR ?_;clear F)
  (have F:=@hf;refine gG ?_;exact gT)
 | true =>
 have hs:=isSorts_iff.1 hss
 by_cases h14:g.ops.length<=14
 rotate_left
 ·have z1:((14:Int) < (g.ops.length:Int))=True:=eq_true (by omega)
  have hf:=hno fun h=>h14 h.len
  (have F:=@z1;refine gR ?_;clear F)
  (have F:=@hf;refine gG ?_;exact gT)
 have z1:((14:Int) < (g.ops.length:Int))=False:=eq_false (by omega)
 (have F:=@z1;refine gR ?_;clear F)
 (have F:=@e0P;refine gG ?_;clear F)
 (have F:=@e0P;refine gL (ι:=Nat) [2,3,4,20,40,43,58] [] (fun i=>[(3,A.d (.one (.lit (.int .i64 i))))]) (fun i=>[]) (fun i=>i<=g.ops.length∧(∀ (j:Nat) (o:Opr),j < i->g.ops[j]?=some o->isName o.name=true∧hasStr (opNames (g.ops.take j)) o.name=false)∧(∀ o∈g.ops.take i,DeclsOk g.sorts o)) (fun i=>g.ops.length - i) (0) (⟨Nat.zero_le _,fun j o h=>absurd h (by omega),fun o h=>by simp at h⟩) (fun i hi=>?_);clear F)
 obtain ⟨hil,hnm,hdc⟩:=hi
 by_cases hlt:i < g.ops.length
 ·have q1:(i:Int) < (g.ops.length:Int):=by omega
  obtain ⟨o,ho⟩:∃ o,g.ops[i]?=some o:=⟨_,List.getElem?_eq_getElem hlt⟩
  have hom:=List.mem_of_getElem? ho
  have hw:=wrap1 (k:=i) (by omega)
  have hbad:¬ (isName o.name=true∧hasStr (opNames (g.ops.take i)) o.name=false)->isSgn g=false:=fun h=>hno fun hs=>h (hs.names i o ho)
  have hbad2:declsOk g.sorts o=false->isSgn g=false:=fun h=>hno fun hs=>by rw [declsOk_true (hs.decls o hom)] at h;cases h
  have cN:=con_specName (hg.2 o hom).1
  have cD:=con_l4Decls (g:=g) hs o
  rw [encOpr,encSgn] at cD
  (have F:=@q1;refine gG ?_;clear F)
  refine gB ?_
  (have F:=ai @ho @encOpr_u;refine gC (cN) ?_;clear F)
  cases hn:isName o.name with
  | false =>
   have hf:=hbad fun h=>by rw [hn] at h;cases h.1
   (have F:=@e0P;refine gR ?_;clear F)
   (have F:=@hf;refine gG ?_;exact gT)
  | true =>
  (have F:=ai @ho @encOpr_u;refine gC (cD) ?_;clear F)
  cases hd:declsOk g.sorts o with
  | false =>
   have hf:=hbad2 hd
   (have F:=@e0P;refine gR ?_;clear F)
   (have F:=@hf;refine gG ?_;exact gT)
  | true =>
  (have F:=@e0P;refine gR ?_;clear F)
  (have F:=@e0P;refine gG ?_;clear F)
  (have F:=@e0P;refine gL (ι:=Nat) [2,4,43,58] [] (fun k=>[(4,A.d (.one (.lit (.int .i64 k))))]) (fun k=>[]) (fun k=>k<=i∧hasStr (opNames (g.ops.take k)) o.name=false) (fun k=>i - k) (0) (⟨Nat.zero_le _,rfl⟩) (fun k hk=>?_);clear F)
  obtain ⟨hkl,hseen⟩:=hk
  by_cases hlk:k < i
  ·have q2:(k:Int) < (i:Int):=by omega
   obtain ⟨p,hp⟩:∃ o,g.ops[k]?=some o:=⟨_,List.getElem?_eq_getElem (by omega)⟩
   have hw2:=wrap1 (k:=k) (by omega)
   have hsn:=hasStr_snoc (opNames (g.ops.take k)) p.name o.name
   rw [hseen,Bool.false_or,beq_sym,<- opNames_snoc hp] at hsn
   cases hb:(p.name.toList==o.name.toList) with
   | true =>
    rw [hb] at hsn
    have hbp:(p.name.toList==o.name.toList)=true:=hb
    have hf:=hbad fun h=>by
     obtain ⟨m,hm⟩:∃ m,i=k+1+m:=⟨i - (k+1),by omega⟩
     have h2:=h.2
     rw [hasStr_mono hm hsn] at h2
     cases h2
    (have F:=ai @q2 (ai @ho (ai @hp (ai @encOpr_u (ai @hb @hf))));refine gG ?_;exact gT)
   | false =>
    rw [hb] at hsn
    (have F:=ai @q2 (ai @ho (ai @hp (ai @encOpr_u (ai @hb @hw2))));refine gG ?_;exact ⟨k+1,⟨hlk,hsn⟩,gw,gw,by omega⟩)
  obtain rfl:k=i:=by omega
  have q2:((k:Int) < (k:Int))=False:=eq_false (by omega)
  have hq:k+1<=g.ops.length∧(∀ (j:Nat) (o:Opr),j < k+1->g.ops[j]?=some o->isName o.name=true∧hasStr (opNames (g.ops.take j)) o.name=false)∧(∀ o∈g.ops.take (k+1),DeclsOk g.sorts o):=⟨hlt,fun j o' hj ho'=>by
   by_cases e:j=k
   ·subst e
    rw [ho] at ho'
    injection ho' with ho'
    subst ho'
    exact ⟨hn,hseen⟩
   ·exact hnm j o' (by omega) ho',fun o' ho'=>by
   rw [take_snoc ho] at ho'
   rcases List.mem_append.1 ho' with h | h
   ·exact hdc o' h
   ·rw [List.mem_singleton.1 h];exact declsOk_iff.1 hd⟩
  (have F:=ai @q2 @hw;refine gG ?_;exact ⟨k+1,hq,gw,gw,by omega⟩)
 obtain rfl:i=g.ops.length:=by omega
 have q1:¬ ((g.ops.length:Int) < (g.ops.length:Int)):=by omega
 rw [List.take_length] at hdc
 have hnames:∀ (i:Nat) (o:Opr),g.ops[i]?=some o->isName o.name=true∧hasStr (opNames (g.ops.take i)) o.name=false:=fun i o ho=>hnm i o (List.getElem?_eq_some_iff.1 ho).1 ho
 (have F:=@q1;refine gG ?_;clear F)
 (have F:=@e0P;refine gL (ι:=Nat) [2,5,63,69] [] (fun k=>[(5,A.d (.one (.lit (.int .i64 k))))]) (fun k=>[]) (fun k=>k<=g.ops.length∧∀ o∈g.ops.take k,AxOk g o) (fun k=>g.ops.length - k) (0) (⟨Nat.zero_le _,fun o h=>by simp at h⟩) (fun k hk=>?_);clear F)
 obtain ⟨hkl,hax⟩:=hk
 by_cases hlk:k < g.ops.length
 rotate_left
 ·obtain rfl:k=g.ops.length:=by omega
  rw [List.take_length] at hax
  have q2:¬ ((g.ops.length:Int) < (g.ops.length:Int)):=by omega
  have ht:=isSgn_true ⟨hs,h14,hnames,hdc,hax⟩
  (have F:=ai @q2 @ht;refine gG ?_;exact gT)
 have q2:(k:Int) < (g.ops.length:Int):=by omega
 obtain ⟨o,ho⟩:∃ o,g.ops[k]?=some o:=⟨_,List.getElem?_eq_getElem hlk⟩
 have hom:=List.mem_of_getElem? ho
 have hw:=wrap1 (k:=k) (by omega)
 have cA:=con_l4Axioms hs hdc ho h14
 rw [encSgn] at cA
 (have F:=@q2;refine gG ?_;clear F)
 refine gB ?_
 (have F:=@e0P;refine gC (cA) ?_;clear F)
 cases ha:axOk g o with
 | false =>
  have hf:=hno fun h=>by rw [axOk_true (h.axs o hom)] at ha;cases ha
  (have F:=@e0P;refine gR ?_;clear F)
  (have F:=@hf;refine gG ?_;exact gT)
 | true =>
 have hq:k+1<=g.ops.length∧∀ o∈g.ops.take (k+1),AxOk g o:=⟨hlk,fun o' ho'=>by
  rw [take_snoc ho] at ho'
  rcases List.mem_append.1 ho' with h | h
  ·exact hax o' h
  ·rw [List.mem_singleton.1 h];exact axOk_iff.1 ha⟩
 (have F:=@e0P;refine gR ?_;clear F)
 (have F:=@hw;refine gG ?_;exact ⟨k+1,hq,gw,gw,by omega⟩)
end
end Go.Proofs.YtffmjghcpgpfpaaGreatDoor
namespace Go.Proofs.YtffmjghcpgpfpaaGreatDoor
open Go.RowKit
theorem str_emp (s:ByteArray):(s.toList==ByteArray.toList { data:=#[] })=decide (s=ByteArray.empty):=by
 rw [Bool.eq_iff_iff,beq_iff_eq,decide_eq_true_iff,ByteArray.toList_eq,ByteArray.toList_eq]
 constructor
 ·intro h
  cases s with
  | mk d =>
   have:d=#[]:=by apply Array.toList_inj.1;exact h
   rw [this];rfl
 ·rintro rfl;rfl
def encX (g:Sgn) (mc:C):List C:=[.sl ((casts (up g.sorts)).map encInt),.sl ((casts (down g.sorts)).map encInt),.sl ((casts (kinds g.sorts)).map encInt),.sl (g.sorts.names.map encStr),.sl (g.sorts.subs.map encSub),.sl (g.ops.map encOpr),mc]
theorem encX_u:∀ (g:Sgn) (mc:C),encX g mc=[.sl ((casts (up g.sorts)).map encInt),.sl ((casts (down g.sorts)).map encInt),.sl ((casts (kinds g.sorts)).map encInt),.sl (g.sorts.names.map encStr),.sl (g.sorts.subs.map encSub),.sl (g.ops.map encOpr),mc]:=fun _ _=>rfl
theorem up_len {s:Srt} (h:SortsOk s):(up s).length=s.names.length:=(up_ok (SortsOk.subsIn h.subs)).1
theorem kd_get {s:Srt} (h:SortsOk s) {k:Int} (h0:0<=k) (h1:k < s.names.length):(casts (kinds s))[k.toNat]?=some ((kd s k:Nat):Int):=by
 have hk:=kinds_ok (SortsOk.subsIn h.subs)
 have hl:k.toNat < (kinds s).length:=by rw [hk.1];omega
 unfold casts kd
 rw [List.getElem?_map,List.getElem?_eq_getElem hl]
 simp [List.getD,List.getElem?_eq_getElem hl]
def VarOk (g:Sgn) (t:Tm):Prop:=t.op=-1∧isName t.name=true∧0<=t.sort∧t.sort < g.sorts.names.length∧t.args=[]
open Classical in
noncomputable def isVar (g:Sgn) (t:Tm):Bool:=decide (VarOk g t)
structure AppOk (g:Sgn) (t:Tm) (o:Opr) (d:Dcl):Prop where
 lo:0<=t.op
 at':g.ops[t.op.toNat]?=some o
 fst:o.decls[0]?=some d
 nm:t.name=ByteArray.empty
 so:t.sort=0
 asc:o.assoc=true->2<=t.args.length∧t.args.length<=7
 nas:o.assoc=false->t.args.length=d.args.length
def NodeOk (g:Sgn) (t:Tm):Prop:=VarOk g t∨∃ o d,AppOk g t o d
def resOf (g:Sgn) (op:Int):Int:=((g.ops[op.toNat]?.bind (·.decls[0]?)).map (·.res)).getD 0
def kindTm (g:Sgn) (t:Tm):Int:=if t.op=-1 then kd g.sorts t.sort else kd g.sorts (resOf g t.op)
def argAt (o:Opr) (i:Nat):Nat:=if o.assoc=true then 0 else i
theorem argAt_u:∀ (o:Opr) (i:Nat),argAt o i=if o.assoc=true then 0 else i:=fun _ _=>rfl
structure ArgOk (g:Sgn) (op:Int) (o:Opr) (d:Dcl) (args:List Tm) (i:Nat) (a:Tm):Prop where
 kind:∀ k,d.args[argAt o i]?=some k->kindTm g a=kd g.sorts k
 nest:o.assoc=true->a.op≠op
 unit:o.unit≠0->a.op≠o.unit - 1
 ord:o.comm=true->∀ (j:Nat) p,i=j+1->args[j]?=some p->cmpTm p a<=0
def RightOk (g:Sgn) (op:Int) (args:List Tm):Prop:=∀ o d,g.ops[op.toNat]?=some o->o.decls[0]?=some d->∀ (i:Nat) a,args[i]?=some a->ArgOk g op o d args i a
mutual
def FormOk (g:Sgn):Tm->Prop
 | .mk op nm so args=>NodeOk g (.mk op nm so args)∧FormOks g args∧(op=-1∨RightOk g op args)
def FormOks (g:Sgn):List Tm->Prop
 | []=>True
 | t::ts=>FormOk g t∧FormOks g ts
end
theorem FormOks_iff {g:Sgn} {ts:List Tm}:FormOks g ts ↔ ∀ a∈ts,FormOk g a:=by
 induction ts with
 | nil=>simp [FormOks]
 | cons t ts ih=>simp [FormOks,ih]
theorem FormOk_iff {g:Sgn} {t:Tm}:FormOk g t ↔ NodeOk g t∧(∀ a∈t.args,FormOk g a)∧(t.op=-1∨RightOk g t.op t.args):=by
 cases t
 simp only [FormOk,FormOks_iff,Tm.args,Tm.op]
theorem FormOk.node {g:Sgn} {t:Tm} (h:FormOk g t):NodeOk g t:=(FormOk_iff.1 h).1
open Classical in
noncomputable def isForm (g:Sgn) (t:Tm):Bool:=decide (FormOk g t)
theorem isForm_true {g:Sgn} {t:Tm} (h:FormOk g t):isForm g t=true:=by simp [isForm,h]
theorem isForm_false {g:Sgn} {t:Tm} (h:¬ FormOk g t):isForm g t=false:=by simp [isForm,h]
theorem isForm_iff {g:Sgn} {t:Tm}:isForm g t=true ↔ FormOk g t:=by simp [isForm]
theorem SgnOk.first {g:Sgn} (h:SgnOk g) {i:Nat} {o:Opr} (ho:g.ops[i]?=some o):∃ d,o.decls[0]?=some d∧(0:Int)<=d.res∧d.res < (g.sorts.names.length:Int)∧∀ k:Int,k∈d.args->0<=k∧k < (g.sorts.names.length:Int):=by
 have hm:=List.mem_of_getElem? ho
 obtain ⟨d,hd,hD⟩:=(h.decls o hm).first
 exact ⟨d,hd,hD.res.1,hD.res.2,hD.args⟩
theorem resOf_eq {g:Sgn} {op:Int} {o:Opr} {d:Dcl} (ho:g.ops[op.toNat]?=some o) (hd:o.decls[0]?=some d):resOf g op=d.res:=by simp [resOf,ho,hd]
theorem AppOk.op {g:Sgn} {t:Tm} {o:Opr} {d:Dcl} (h:AppOk g t o d):t.op≠-1:=by have:=h.lo;omega
section
variable {g:Sgn} {mc:C}
set_option maxHeartbeats 4000000 in
set_option maxRecDepth 100000 in
theorem con_has (hg:SgnOk g) (k:Int):Con e0 174 [.agg [.sl ((casts (up g.sorts)).map encInt),.sl ((casts (down g.sorts)).map encInt),.sl ((casts (kinds g.sorts)).map encInt)],.one (.lit (.int .i64 k))] [.one (.lit (.bool (decide (0<=k∧k < g.sorts.names.length))))]:=by
 have hl:=up_len hg.sorts
 refine gI 23 Tryz.func174 ?_
 by_cases h0:0<=k
 ·have e:decide (0<=k∧k < (g.sorts.names.length:Int))=decide (k < (g.sorts.names.length:Int)):=by simp [h0]
  rw [e]
  (have F:=ai @h0 (ai @casts_len @hl);refine gG ?_;exact gT)
 ·have e:decide (0<=k∧k < (g.sorts.names.length:Int))=false:=by simp [h0]
  rw [e]
  (have F:=@h0;refine gG ?_;exact gT)
set_option maxHeartbeats 4000000 in
set_option maxRecDepth 100000 in
theorem con_kindOf (hg:SgnOk g) {t:Tm} (ht:NodeOk g t):Con e0 166 [.one (.ptr (encX g mc)),.agg (encTm t)] [.one (.lit (.int .i64 (kindTm g t)))]:=by
 refine gI 155 Tryz.func166 ?_
 rcases ht with ⟨h1,h2,h3,h4,h5⟩ | ⟨o,d,h⟩
 ·have hn:(-1:Int) < 0:=by omega
  have hk:=kd_get hg.sorts h3 h4
  have e:kindTm g t=kd g.sorts t.sort:=by simp [kindTm,h1]
  (have F:=ai @tmz (ai @h1 (ai @hn (ai @encX_u (ai @h3 (ai @hk (ai @encInt_u @e))))));refine gG ?_;exact gT)
 ·have hn:¬ (t.op < 0):=by have:=h.lo;omega
  obtain ⟨d',hd',hr0,hr1,_⟩:=hg.first h.at'
  rw [h.fst] at hd'
  injection hd' with hd'
  subst hd'
  have hk:=kd_get hg.sorts hr0 hr1
  have e:kindTm g t=kd g.sorts d.res:=by simp [kindTm,h.op,resOf_eq h.at' h.fst]
  have hlo:=h.lo
  have hat:=h.at'
  have hfst:=h.fst
  (have F:=ai @tmz (ai @hn (ai @encX_u (ai @hlo (ai @hat (ai @encOpr_u (ai @hfst (ai @encDcl_u (ai @hr0 (ai @hk (ai @encInt_u @e))))))))));refine gG ?_;exact gT)
set_option maxHeartbeats 4000000 in
set_option maxRecDepth 100000 in
theorem con_argKind (hg:SgnOk g) {op:Int} {i:Nat} {o:Opr} {d:Dcl} {k:Int} (h0:0<=op) (ho:g.ops[op.toNat]?=some o) (hd:o.decls[0]?=some d) (hk:d.args[argAt o i]?=some k):Con e0 167 [.one (.ptr (encX g mc)),.one (.lit (.int .i64 op)),.one (.lit (.int .i64 i))] [.one (.lit (.int .i64 (kd g.sorts k)))]:=by
 obtain ⟨d',hd',_,_,hk0⟩:=hg.first ho
 rw [hd] at hd'
 injection hd' with hd'
 subst hd'
 obtain ⟨k0,k1⟩:=hk0 k (List.mem_of_getElem? hk)
 have hkd:=kd_get hg.sorts k0 k1
 refine gI 131271 Tryz.func167 ?_
 unfold argAt at hk
 cases ha:o.assoc with
 | true =>
  rw [ha] at hk
  simp only [↓reduceIte] at hk
  (have F:=ai @encX_u (ai @h0 (ai @ho (ai @encOpr_u (ai @ha (ai @hd (ai @encDcl_u (ai @hk (ai @k0 (ai @hkd @encInt_u)))))))));refine gG ?_;exact gT)
 | false =>
  rw [ha] at hk
  simp only [Bool.false_eq_true,↓reduceIte] at hk
  (have F:=ai @encX_u (ai @h0 (ai @ho (ai @encOpr_u (ai @ha (ai @hd (ai @encDcl_u (ai @hk (ai @k0 (ai @hkd @encInt_u)))))))));refine gG ?_;exact gT)
set_option maxHeartbeats 4000000 in
set_option maxRecDepth 100000 in
theorem con_isUnit (hg:SgnOk g) {op:Int} {o:Opr} (h0:0<=op) (ho:g.ops[op.toNat]?=some o) (t:Tm):Con e0 168 [.one (.ptr (encX g mc)),.one (.lit (.int .i64 op)),.agg (encTm t)] [.one (.lit (.bool (decide (o.unit≠0∧t.op=o.unit - 1))))]:=by
 have hax:=hg.axs o (List.mem_of_getElem? ho)
 have hlo:=hax.lo
 have hhi:=hax.hi
 have hln:=hg.len
 have hw:IntKind.i64.wrap (o.unit - 1)=o.unit - 1:=wrapN rfl (by omega) (by omega)
 refine gI 103 Tryz.func168 ?_
 by_cases hu:o.unit=0
 ·have e:decide (o.unit≠0∧t.op=o.unit - 1)=false:=by simp [hu]
  rw [e]
  (have F:=ai @encX_u (ai @tmz (ai @h0 (ai @ho (ai @encOpr_u @hu))));refine gG ?_;exact gT)
 ·have e:decide (o.unit≠0∧t.op=o.unit - 1)=decide (t.op=o.unit - 1):=by simp [hu]
  rw [e]
  (have F:=ai @encX_u (ai @tmz (ai @h0 (ai @ho (ai @encOpr_u (ai @hu @hw)))));refine gG ?_;exact gT)
set_option maxHeartbeats 4000000 in
set_option maxRecDepth 100000 in
theorem con_isVariable (hg:SgnOk g) {t:Tm} (hs:t.name.size<=maxLen):Con e0 115 [.one (.ptr (encX g mc)),.agg (encTm t)] [.one (.lit (.bool (isVar g t)))]:=by
 have hno:¬ VarOk g t->isVar g t=false:=fun h=>by simp [isVar,h]
 refine gI 27 Tryz.func115 ?_
 (have F:=@tmz;refine gG ?_;clear F)
 by_cases h1:t.op=-1
 rotate_left
 ·have hf:=hno fun h=>h1 h.1
  (have F:=ai @tmz (ai @h1 @hf);refine gG ?_;exact gT)
 refine gB ?_
 (have F:=ai @tmz @h1;refine gC (con_implName hs) ?_;clear F)
 by_cases h2:isName t.name=true
 rotate_left
 ·have hf:=hno fun h=>h2 h.2.1
  have h2':isName t.name=false:=by simpa using h2
  (have F:=ai @tmz @h2';refine gR ?_;clear F)
  (have F:=ai @tmz @hf;refine gG ?_;exact gT)
 (have F:=ai @tmz (ai @h2 @encX_u);refine gC (con_has hg t.sort) ?_;clear F)
 by_cases h3:0<=t.sort∧t.sort < g.sorts.names.length
 rotate_left
 ·have hf:=hno fun h=>h3 ⟨h.2.2.1,h.2.2.2.1⟩
  have h3':decide (0<=t.sort∧t.sort < (g.sorts.names.length:Int))=false:=by simp only [decide_eq_false_iff_not];exact h3
  (have F:=ai @tmz @h3';refine gR ?_;clear F)
  (have F:=ai @tmz @hf;refine gG ?_;exact gT)
 have h3':decide (0<=t.sort∧t.sort < (g.sorts.names.length:Int))=true:=by simp only [decide_eq_true_eq];exact h3
 by_cases h4:t.args=[]
 ·have hT:isVar g t=true:=by simp only [isVar,decide_eq_true_eq];exact ⟨h1,h2,h3.1,h3.2,h4⟩
  (have F:=ai @tmz (ai @h3' @h4);refine gR ?_;clear F)
  (have F:=ai @tmz @hT;refine gG ?_;exact gT)
 ·have hf:=hno fun h=>h4 h.2.2.2.2
  have h4':¬ ((t.args.length:Int)=0):=by
   intro h;apply h4;apply List.eq_nil_of_length_eq_zero;omega
  (have F:=ai @tmz (ai @h3' @h4');refine gR ?_;clear F)
  (have F:=ai @tmz @hf;refine gG ?_;exact gT)
end
end Go.Proofs.YtffmjghcpgpfpaaGreatDoor
namespace Go.Proofs.YtffmjghcpgpfpaaGreatDoor
open Go.RowKit
theorem okTm_iff {t:Tm}:okTm t ↔ I64 t.op∧t.name.size<=maxLen∧I64 t.sort∧okTms t.args:=by cases t;simp only [okTm,Tm.op,Tm.name,Tm.sort,Tm.args]
theorem sizeTm_eq (t:Tm):sizeTm t=1+sizeTms t.args:=by cases t;simp only [sizeTm,Tm.args]
theorem depthTm_eq (t:Tm):depthTm t=1+depthTms t.args:=by cases t;simp only [depthTm,Tm.args]
theorem isForm_var {g:Sgn} {t:Tm} (h:t.op=-1):isForm g t=isVar g t:=by
 unfold isForm isVar
 congr 1
 rw [FormOk_iff]
 apply propext
 constructor
 ·rintro ⟨h1 | ⟨o,d,h1⟩,_⟩
  ·exact h1
  ·have:=h1.lo;omega
 ·intro h1
  exact ⟨.inl h1,fun a ha=>(by rw [h1.2.2.2.2] at ha;cases ha),.inl h⟩
theorem NodeOk.app {g:Sgn} {t:Tm} (h:NodeOk g t) (hop:t.op≠-1):∃ o d,AppOk g t o d:=by
 rcases h with h | h
 ·exact absurd h.1 hop
 ·exact h
theorem argAt_get {g:Sgn} (hg:SgnOk g) {i:Nat} {o:Opr} {d:Dcl} {n j:Nat} (ho:g.ops[i]?=some o) (hd:o.decls[0]?=some d) (nas:o.assoc=false->n=d.args.length) (hj:j < n):∃ k,d.args[argAt o j]?=some k:=by
 unfold argAt
 cases ha:o.assoc with
 | true =>
  have h2:=((hg.axs o (List.mem_of_getElem? ho)).two (.inl ha) d hd).1
  exact ⟨_,List.getElem?_eq_getElem (by simp only [↓reduceIte];omega)⟩
 | false=>exact ⟨_,List.getElem?_eq_getElem (by simp only [Bool.false_eq_true,↓reduceIte];have:=nas ha;omega)⟩
section
variable {g:Sgn} {mc:C}
set_option maxHeartbeats 40000000 in
set_option maxRecDepth 100000 in
theorem con_wellMade_all (hg:SgnOk g):∀ (n:Nat) (t:Tm),sizeTm t < n->okTm t->sizeTm t<=big->Con e0 107 [.one (.ptr (encX g mc)),.agg (encTm t)] [.one (.lit (.bool (isForm g t)))]:=by
 intro n
 induction n with
 | zero=>intro t h;omega
 | succ n ih =>
  intro t hn hok hb
  have hno:¬ FormOk g t->isForm g t=false:=isForm_false
  obtain ⟨k1,k2,k3,k4⟩:=okTm_iff.1 hok
  have hsz:=sizeTm_eq t
  have hal:=sizeTms_len t.args
  unfold big at hb
  refine gI 43556142965880125627826793391928073259515 Tryz.func107 ?_
  by_cases h1:t.op=-1
  ·have e:=isForm_var (g:=g) h1
   rw [e]
   (have F:=ai @tmz @h1;refine gG ?_;clear F)
   refine gB ?_
   (have F:=ai @tmz @h1;refine gC (con_isVariable hg k2) ?_;clear F)
   (have F:=@tmz;refine gR ?_;clear F)
   (have F:=@tmz;refine gG ?_;exact gT)
  by_cases h2:t.op < 0
  ·have hf:=hno fun h=>by
    obtain ⟨o,d,h⟩:=h.node.app h1
    have:=h.lo;omega
   (have F:=ai @tmz (ai @h1 (ai @h2 @hf));refine gG ?_;exact gT)
  by_cases h3:(g.ops.length:Int)<=t.op
  ·have hf:=hno fun h=>by
    obtain ⟨o,d,h⟩:=h.node.app h1
    have:=(List.getElem?_eq_some_iff.1 h.at').1;omega
   (have F:=ai @tmz (ai @h1 (ai @h2 (ai @h3 (ai @encX_u @hf))));refine gG ?_;exact gT)
  by_cases h4:t.name=ByteArray.empty
  rotate_left
  ·have hf:=hno fun h=>by
    obtain ⟨o,d,h⟩:=h.node.app h1
    exact h4 h.nm
   (have F:=ai @tmz (ai @h1 (ai @h2 (ai @h3 (ai @encX_u (ai @str_emp (ai @h4 @hf))))));refine gG ?_;exact gT)
  by_cases h5:t.sort=0
  rotate_left
  ·have hf:=hno fun h=>by
    obtain ⟨o,d,h⟩:=h.node.app h1
    exact h5 h.so
   (have F:=ai @tmz (ai @h1 (ai @h2 (ai @h3 (ai @encX_u (ai @str_emp (ai @h4 (ai @h5 @hf)))))));refine gG ?_;exact gT)
  have h0:0<=t.op:=by omega
  obtain ⟨o,ho⟩:∃ o,g.ops[t.op.toNat]?=some o:=⟨_,List.getElem?_eq_getElem (by omega)⟩
  obtain ⟨d,hd,hr0,hr1,hargs⟩:=hg.first ho
  have hgt:FormOk g t->AppOk g t o d:=fun h=>by
   obtain ⟨o',d',h⟩:=h.node.app h1
   have e1:=h.at'
   rw [ho] at e1
   injection e1 with e1
   subst e1
   have e2:=h.fst
   rw [hd] at e2
   injection e2 with e2
   subst e2
   exact h
  by_cases hW:(o.assoc=true->2<=t.args.length∧t.args.length<=7)∧(o.assoc=false->t.args.length=d.args.length)
  rotate_left
  ·have hf:=hno fun h=>hW ⟨(hgt h).asc,(hgt h).nas⟩
   cases ha:o.assoc with
   | true =>
    by_cases c1:t.args.length < 2
    ·have c1':(t.args.length:Int) < 2:=by omega
     (have F:=ai @tmz (ai @h1 (ai @h2 (ai @h3 (ai @encX_u (ai @str_emp (ai @h4 (ai @h5 (ai @h0 (ai @ho (ai @encOpr_u (ai @ha (ai @c1' @hf))))))))))));refine gG ?_;exact gT)
    ·have c1':¬ ((t.args.length:Int) < 2):=by omega
     have c2:(7:Int) < (t.args.length:Int):=by
      by_cases c2:t.args.length<=7
      ·exact absurd ⟨fun _=>⟨by omega,c2⟩,fun h=>by rw [ha] at h;cases h⟩ hW
      ·omega
     (have F:=ai @tmz (ai @h1 (ai @h2 (ai @h3 (ai @encX_u (ai @str_emp (ai @h4 (ai @h5 (ai @h0 (ai @ho (ai @encOpr_u (ai @ha (ai @c1' (ai @c2 @hf)))))))))))));refine gG ?_;exact gT)
   | false =>
    have c3:¬ ((t.args.length:Int)=(d.args.length:Int)):=fun c=>hW ⟨fun h=>(by rw [ha] at h;cases h),fun _=>by omega⟩
    (have F:=ai @tmz (ai @h1 (ai @h2 (ai @h3 (ai @encX_u (ai @str_emp (ai @h4 (ai @h5 (ai @h0 (ai @ho (ai @encOpr_u (ai @ha (ai @hd (ai @encDcl_u (ai @c3 @hf))))))))))))));refine gG ?_;exact gT)
  have hA:AppOk g t o d:=⟨h0,ho,hd,h4,h5,hW.1,hW.2⟩
  (have F:=ai @tmz (ai @h1 (ai @h2 (ai @h3 (ai @encX_u (ai @str_emp (ai @h4 (ai @h5 (ai @h0 (ai @ho @encOpr_u)))))))));refine gG ?_;clear F)
  refine gM (ι:=Unit) [75] [] (fun u=>[(75,A.d (.one (.lit (.bool false))))]) (fun u=>[]) (fun u=>True) ?_ (fun u hu=>Exists.intro _ (ai (Wk.refl _) ?_))
  ·cases ha:o.assoc with
   | true =>
    have c:=hW.1 ha
    have c1':¬ ((t.args.length:Int) < 2):=by omega
    have c2:¬ ((7:Int) < (t.args.length:Int)):=by omega
    (have F:=ai @tmz (ai @encOpr_u (ai @ha (ai @c1' @c2)));refine gG ?_;exact ⟨(),trivial,gw,gw⟩)
   | false =>
    have c3:((t.args.length:Int)=(d.args.length:Int)):=by have:=hW.2 ha;omega
    (have F:=ai @tmz (ai @encOpr_u (ai @ha (ai @hd (ai @encDcl_u @c3))));refine gG ?_;exact ⟨(),trivial,gw,gw⟩)
  (have F:=@tmz;refine gG ?_;clear F)
  (have F:=@e0P;refine gL (ι:=Nat) [4,7,8,79,80,135] [] (fun i=>[(79,A.d (.one (.lit (.int .i64 i))))]) (fun i=>[]) (fun i=>i<=t.args.length∧∀ (j:Nat) a,j < i->t.args[j]?=some a->FormOk g a∧ArgOk g t.op o d t.args j a) (fun i=>t.args.length - i) (0) (⟨by omega,fun j a h=>absurd h (by omega)⟩) (fun i hi=>?_);clear F)
  obtain ⟨hil,hall⟩:=hi
  by_cases hl:i < t.args.length
  rotate_left
  ·have hl':¬ ((i:Int) < (t.args.length:Int)):=by omega
   have hT:=isForm_true (FormOk_iff.2 ⟨.inr ⟨o,d,hA⟩,fun a ha=>by
     obtain ⟨j,hj⟩:=List.getElem?_of_mem ha
     exact (hall j a (by have:=(List.getElem?_eq_some_iff.1 hj).1;omega) hj).1,.inr fun o' d' ho' hd' j a hj=>by
     rw [ho] at ho'
     injection ho' with ho'
     subst ho'
     rw [hd] at hd'
     injection hd' with hd'
     subst hd'
     exact (hall j a (by have:=(List.getElem?_eq_some_iff.1 hj).1;omega) hj).2⟩)
   (have F:=ai @hl' @hT;refine gG ?_;exact gT)
  have hl':(i:Int) < (t.args.length:Int):=by omega
  obtain ⟨a,ha⟩:∃ a,t.args[i]?=some a:=⟨_,List.getElem?_eq_getElem hl⟩
  have hm:=List.mem_of_getElem? ha
  have hsa:=sizeTms_mem hm
  have hw1:=wrap1 (k:=i) (by omega)
  have hnoA:¬ ArgOk g t.op o d t.args i a->isForm g t=false:=fun h=>hno fun hF=>by
   obtain ⟨_,_,h3⟩:=FormOk_iff.1 hF
   rcases h3 with h3 | h3
   ·exact h1 h3
   ·exact h (h3 o d ho hd i a ha)
  obtain ⟨k,hk⟩:=argAt_get hg ho hd hA.nas hl
  (have F:=ai @hl' (ai @tmz @ha);refine gG ?_;clear F)
  refine gB ?_
  (have F:=@tmz;refine gC (ih a (by omega) (k4.mem hm) (by unfold big;omega)) ?_;clear F)
  by_cases hfa:isForm g a=true
  rotate_left
  ·have hf:=hno fun h=>hfa (isForm_true ((FormOk_iff.1 h).2.1 a hm))
   have hfa':isForm g a=false:=by simpa using hfa
   (have F:=ai @tmz @hfa';refine gR ?_;clear F)
   (have F:=@hf;refine gG ?_;exact gT)
  have hFa:=isForm_iff.1 hfa
  (have F:=ai @tmz @hfa;refine gC (con_kindOf hg hFa.node) ?_;clear F)
  (have F:=@tmz;refine gC (con_argKind hg h0 ho hd hk) ?_;clear F)
  by_cases hkd:kindTm g a=((kd g.sorts k:Nat):Int)
  rotate_left
  ·have hf:=hnoA fun h=>hkd (h.kind k hk)
   (have F:=ai @tmz @hkd;refine gR ?_;clear F)
   (have F:=@hf;refine gG ?_;exact gT)
  by_cases hN:o.assoc=true∧a.op=t.op
  ·have hf:=hnoA fun h=>h.nest hN.1 hN.2
   obtain ⟨hN1,hN2⟩:=hN
   (have F:=ai @tmz (ai @hkd (ai @encOpr_u (ai @hN1 @hN2)));refine gR ?_;clear F)
   (have F:=@hf;refine gG ?_;exact gT)
  have hne:o.assoc=true->¬ a.op=t.op:=fun h1 h2=>hN ⟨h1,h2⟩
  have cU:=con_isUnit (mc:=mc) hg h0 ho a
  generalize hU:decide (o.unit≠0∧a.op=o.unit - 1)=U at cU
  have hnext:(U=false)->(o.comm=true->∀ (j:Nat) p,i=j+1->t.args[j]?=some p->cmpTm p a<=0)->i+1<=t.args.length∧∀ (j:Nat) a,j < i+1->t.args[j]?=some a->FormOk g a∧ArgOk g t.op o d t.args j a:=fun hU' hc=>⟨by omega,fun j a' hj ha'=>by
   by_cases e:j=i
   ·subst e
    rw [ha] at ha'
    injection ha' with ha'
    subst ha'
    refine ⟨hFa,fun k' hk'=>?_,fun h1 h2=>hN ⟨h1,h2⟩,fun h1 h2=>?_,hc⟩
    ·rw [hk] at hk'
     injection hk' with hk'
     subst hk'
     exact hkd
    ·rw [hU'] at hU
     simp only [decide_eq_false_iff_not] at hU
     exact hU ⟨h1,h2⟩
   ·exact hall j a' (by omega) ha'⟩
  rcases Bool.eq_false_or_eq_true o.assoc with hac | hac
  all_goals (
   (have F:=ai @tmz (ai @hkd (ai @encOpr_u (ai @hac @hne)));refine gC (cU) ?_;clear F)
   rcases Bool.eq_false_or_eq_true U with hu | hu
   ·have hf:=hnoA fun h=>by
     rw [hu] at hU
     simp only [decide_eq_true_eq] at hU
     exact h.unit hU.1 hU.2
    (have F:=ai @tmz @hu;refine gR ?_;clear F)
    (have F:=@hf;refine gG ?_;exact gT)
   rcases Bool.eq_false_or_eq_true o.comm with hcm | hcm
   rotate_left
   ·have hq:=hnext hu (fun h=>by rw [hcm] at h;cases h)
    (have F:=ai @tmz (ai @hu (ai @encOpr_u @hcm));refine gR ?_;clear F)
    (have F:=ai @hw1 (ai @tmz (ai @encOpr_u (ai @hcm @hac)));refine gG ?_;exact ⟨i+1,hq,gw,gw,by omega⟩)
   rcases Nat.eq_zero_or_pos i with hi0 | hi0
   ·have hq:=hnext hu (fun _ j p h=>by omega)
    have hi0':¬ ((0:Int) < (i:Int)):=by omega
    (have F:=ai @tmz (ai @hu (ai @encOpr_u (ai @hcm @hi0')));refine gR ?_;clear F)
    (have F:=ai @hw1 (ai @tmz (ai @encOpr_u (ai @hcm @hac)));refine gG ?_;exact ⟨i+1,hq,gw,gw,by omega⟩)
   obtain ⟨j,rfl⟩:∃ j,i=j+1:=⟨i - 1,by omega⟩
   obtain ⟨p,hp⟩:∃ p,t.args[j]?=some p:=⟨_,List.getElem?_eq_getElem (by omega)⟩
   have cC:=con_implCmp (k4.mem (List.mem_of_getElem? hp)) (k4.mem hm)
   have hgt0:(0:Int) < ((j+1:Nat):Int):=by omega
   have hsub:IntKind.i64.wrap (((j+1:Nat):Int) - 1)=(j:Int):=wrapN (by omega) (by omega) (by omega)
   (have F:=ai @tmz (ai @hu (ai @encOpr_u (ai @hcm (ai @hgt0 (ai @hsub @hp)))));refine gC (cC) ?_;clear F)
   by_cases hc:0 < cmpTm p a
   ·have hf:=hnoA fun h=>by have:=h.ord hcm j p rfl hp;omega
    (have F:=ai @tmz @hc;refine gR ?_;clear F)
    (have F:=@hf;refine gG ?_;exact gT)
   ·have hq:=hnext hu (fun _ j' p' h hp'=>by
     have:j'=j:=by omega
     subst this
     rw [hp] at hp'
     injection hp' with hp'
     subst hp'
     omega)
    (have F:=ai @tmz @hc;refine gR ?_;clear F)
    (have F:=ai @hw1 (ai @tmz (ai @encOpr_u (ai @hcm @hac)));refine gG ?_;exact ⟨j+1+1,hq,gw,gw,by omega⟩))
theorem con_wellMade (hg:SgnOk g) {t:Tm} (hok:okTm t) (hb:sizeTm t<=big):Con e0 107 [.one (.ptr (encX g mc)),.agg (encTm t)] [.one (.lit (.bool (isForm g t)))]:=con_wellMade_all hg _ t (Nat.lt_succ_self _) hok hb
structure TermOk (g:Sgn) (t:Tm):Prop where
 size:sizeTm t<=60
 depth:depthTm t<=20
 form:FormOk g t
open Classical in
noncomputable def isTerm (g:Sgn) (t:Tm):Bool:=decide (TermOk g t)
theorem isTerm_true {g:Sgn} {t:Tm} (h:TermOk g t):isTerm g t=true:=by simp [isTerm,h]
theorem isTerm_false {g:Sgn} {t:Tm} (h:¬ TermOk g t):isTerm g t=false:=by simp [isTerm,h]
theorem isTerm_iff {g:Sgn} {t:Tm}:isTerm g t=true ↔ TermOk g t:=by simp [isTerm]
theorem isTerm_form {g:Sgn} {t:Tm} (h1:sizeTm t<=60) (h2:depthTm t<=20):isForm g t=isTerm g t:=by
 unfold isForm isTerm
 congr 1
 exact propext ⟨fun h=>⟨h1,h2,h⟩,fun h=>h.form⟩
set_option maxHeartbeats 4000000 in
set_option maxRecDepth 100000 in
theorem con_implIsT (hg:SgnOk g) {t:Tm} (hok:okTm t) (hb:sizeTm t<=big):Con e0 51 [.one (.ptr (encX g mc)),.agg (encTm t)] [.one (.lit (.bool (isTerm g t)))]:=by
 have hno:¬ TermOk g t->isTerm g t=false:=isTerm_false
 refine gI 27 Tryz.func51 ?_
 (have F:=@tmz;refine gG ?_;clear F)
 refine gB ?_
 (have F:=@tmz;refine gC (con_implSize hb) ?_;clear F)
 by_cases h1:sizeTm t<=60
 rotate_left
 ·have h1':¬ ((sizeTm t:Int)<=60):=by omega
  have hf:=hno fun h=>h1 h.size
  (have F:=ai @tmz @h1';refine gR ?_;clear F)
  (have F:=@hf;refine gG ?_;exact gT)
 have h1':((sizeTm t:Int)<=60):=by omega
 (have F:=ai @tmz @h1';refine gC (con_implDepth hb) ?_;clear F)
 by_cases h2:depthTm t<=20
 rotate_left
 ·have h2':¬ ((depthTm t:Int)<=20):=by omega
  have hf:=hno fun h=>h2 h.depth
  (have F:=ai @tmz @h2';refine gR ?_;clear F)
  (have F:=@hf;refine gG ?_;exact gT)
 have h2':((depthTm t:Int)<=20):=by omega
 (have F:=ai @tmz @h2';refine gC (con_wellMade hg hok hb) ?_;clear F)
 have e:=isTerm_form (g:=g) h1 h2
 (have F:=@tmz;refine gR ?_;clear F)
 (have F:=@e;refine gG ?_;exact gT)
end
end Go.Proofs.YtffmjghcpgpfpaaGreatDoor
namespace Go.Proofs.YtffmjghcpgpfpaaGreatDoor
open Go.RowKit
mutual
theorem cmpTm_zero:∀ {a b:Tm},cmpTm a b=0->a=b
 | .mk o n s x,.mk o' n' s' x',h=>by
  simp only [cmpTm,firstNZ] at h
  split at h
  ·rename_i h1
   split at h
   ·rename_i h2
    split at h
    ·rename_i h3
     split at h
     ·rename_i h4
      rw [cmpInt_zero.1 h1,cmpStr_zero.1 h2,cmpInt_zero.1 h3,cmpTms_zero h4]
     ·contradiction
    ·contradiction
   ·contradiction
  ·contradiction
theorem cmpTms_zero:∀ {a b:List Tm},cmpTms a b=0->a=b
 | [],[],_=>rfl
 | [],_::_,h=>by simp [cmpTms] at h
 | _::_,[],h=>by simp [cmpTms] at h
 | x::xs,y::ys,h=>by
  simp only [cmpTms,firstNZ] at h
  split at h
  ·rename_i h1
   split at h
   ·rename_i h2
    rw [cmpTm_zero h1,cmpTms_zero h2]
   ·contradiction
  ·contradiction
end
mutual
theorem cmpTm_self:∀ (a:Tm),cmpTm a a=0
 | .mk o n s x=>by simp only [cmpTm,firstNZ,cmpInt_zero.2 (rfl:o=o),cmpInt_zero.2 (rfl:s=s),cmpStr_zero.2 (rfl:n=n),cmpTms_self x,if_true]
theorem cmpTms_self:∀ (a:List Tm),cmpTms a a=0
 | []=>rfl
 | x::xs=>by simp only [cmpTms,firstNZ,cmpTm_self x,cmpTms_self xs,if_true]
end
theorem cmpTm_iff {a b:Tm}:cmpTm a b=0 ↔ a=b:=⟨cmpTm_zero,fun h=>h ▸ cmpTm_self a⟩
section
variable {g:Sgn}
set_option maxHeartbeats 4000000 in
set_option maxRecDepth 100000 in
theorem con_newAlg_not (hok:okSgn g) (hg:¬ SgnOk g):Con e0 49 [.agg (encSgn g)] [.one (.lit (.pointer none)),.one (.lit (.bool false))]:=by
 have hs:isSgn g=false:=isSgn_false hg
 have c:=con_implSgn hok
 rw [hs,encSgn] at c
 refine gI 287 Tryz.func49 ?_
 (have F:=@encSgn_u;refine gG ?_;clear F)
 refine gB ?_
 (have F:=@encSgn_u;refine gC (c) ?_;clear F)
 (have F:=@encSgn_u;refine gR ?_;clear F)
 (have F:=@encSgn_u;refine gG ?_;exact gT)
set_option maxHeartbeats 4000000 in
set_option maxRecDepth 100000 in
theorem con_l5Same {a b:Tm} (ha:okTm a) (hb:okTm b):Con e0 58 [.agg (encTm a),.agg (encTm b)] [.one (.lit (.bool (decide (cmpTm a b=0))))]:=by
 refine gI 31 Tryz.func58 ?_
 (have F:=@tmz;refine gG ?_;clear F)
 refine gB ?_
 (have F:=@tmz;refine gC (con_specCmp ha hb) ?_;clear F)
 (have F:=@tmz;refine gR ?_;clear F)
 (have F:=@tmz;refine gG ?_;exact gT)
set_option maxHeartbeats 4000000 in
set_option maxRecDepth 100000 in
theorem con_l6Kind (hok:okSgn g) (hg:SgnOk g) {t:Tm} (ht:NodeOk g t):Con e0 183 [.agg (encSgn g),.agg (encTm t)] [.one (.lit (.int .i64 (kindTm g t)))]:=by
 have c2:=con_l3Kinds hg.sorts
 rw [encSrt] at c2
 refine gI 2111 Tryz.func183 ?_
 (have F:=ai @tmz @encSgn_u;refine gG ?_;clear F)
 refine gB ?_
 (have F:=@encSgn_u;refine gC (c2) ?_;clear F)
 (have F:=@encSgn_u;refine gR ?_;clear F)
 rcases ht with ⟨h1,h2,h3,h4,h5⟩ | ⟨o,d,h⟩
 ·have hk:=kd_get hg.sorts h3 h4
  have e:kindTm g t=kd g.sorts t.sort:=by simp [kindTm,h1]
  (have F:=ai @tmz (ai @h1 (ai @h3 (ai @hk (ai @encInt_u @e))));refine gG ?_;exact gT)
 ·have hn:=h.op
  obtain ⟨d',hd',hr0,hr1,_⟩:=hg.first h.at'
  rw [h.fst] at hd'
  injection hd' with hd'
  subst hd'
  have hk:=kd_get hg.sorts hr0 hr1
  have e:kindTm g t=kd g.sorts d.res:=by simp [kindTm,h.op,resOf_eq h.at' h.fst]
  have hlo:=h.lo
  have hat:=h.at'
  have hfst:=h.fst
  (have F:=ai @tmz (ai @hn (ai @hlo (ai @hat (ai @encOpr_u (ai @hfst (ai @encDcl_u (ai @hr0 (ai @hk (ai @encInt_u @e)))))))));refine gG ?_;exact gT)
def unitTm (o:Opr):Tm:=.mk (if o.unit=0 then 0 else o.unit - 1) .empty 0 []
set_option maxHeartbeats 4000000 in
set_option maxRecDepth 100000 in
theorem con_l6Unit (hg:SgnOk g) {op:Int} {o:Opr} (h0:0<=op) (ho:g.ops[op.toNat]?=some o):Con e0 182 [.agg (encSgn g),.one (.lit (.int .i64 op))] [.agg (encTm (unitTm o)),.one (.lit (.bool (!decide (o.unit=0))))]:=by
 have hax:=hg.axs o (List.mem_of_getElem? ho)
 have hlo:=hax.lo
 have hhi:=hax.hi
 have hln:=hg.len
 have hw:IntKind.i64.wrap (o.unit - 1)=o.unit - 1:=wrapN rfl (by omega) (by omega)
 refine gI 4151 Tryz.func182 ?_
 by_cases hu:o.unit=0
 ·(have F:=ai @encSgn_u (ai @h0 (ai @ho (ai @encOpr_u @hu)));refine gG ?_;clear F)
  refine pwp_ret (ret_ok ?_)
  simp [resOk,resA,resSlots,gs,hu,unitTm,encTm,encTms,gm,ptrA,varA,e0P,pz,tt_0,tt_1]
 ·(have F:=ai @encSgn_u (ai @h0 (ai @ho (ai @encOpr_u (ai @hu @hw))));refine gG ?_;clear F)
  refine pwp_ret (ret_ok ?_)
  simp [resOk,resA,resSlots,gs,hu,unitTm,encTm,encTms,gm,ptrA,varA,e0P,pz]
end
end Go.Proofs.YtffmjghcpgpfpaaGreatDoor
namespace Go.Proofs.YtffmjghcpgpfpaaGreatDoor
open Go.RowKit
def Tri (a b c:Int):Prop:=((a<=0->b<=0->c<=0)∧(a < 0->b<=0->c < 0)∧(a<=0->b < 0->c < 0))∧((0<=a->0<=b->0<=c)∧(0 < a->0<=b->0 < c)∧(0<=a->0 < b->0 < c))
theorem first2 (p q:Int):firstNZ [p,q]=if p=0 then q else p:=by
 simp only [firstNZ]
 split
 ·split <;> simp_all
 ·rfl
theorem first4 (p q r s:Int):firstNZ [p,q,r,s]=firstNZ [p,firstNZ [q,firstNZ [r,s]]]:=by
 simp only [first2,firstNZ]
 by_cases h1:p=0 <;> by_cases h2:q=0 <;> by_cases h3:r=0 <;> by_cases h4:s=0 <;> simp [h1,h2,h3,h4]
theorem Tri.lex {a b c a' b' c':Int} (h:Tri a b c) (h':Tri a' b' c'):Tri (firstNZ [a,a']) (firstNZ [b,b']) (firstNZ [c,c']):=by
 simp only [first2]
 unfold Tri at *
 by_cases h1:a=0
 ·by_cases h2:b=0
  ·by_cases h3:c=0
   ·simp only [h1,h2,h3,if_true];exact h'
   ·omega
  ·by_cases h3:c=0
   ·omega
   ·simp only [h1,h2,h3,if_true,if_false];omega
 ·by_cases h2:b=0
  ·by_cases h3:c=0
   ·omega
   ·simp only [h1,h2,h3,if_true,if_false];omega
  ·by_cases h3:c=0
   ·simp only [h1,h2,h3,if_true,if_false];omega
   ·simp only [h1,h2,h3,if_false];omega
theorem firstNZ_neg (p q:Int):firstNZ [-p,-q]=-firstNZ [p,q]:=by
 simp only [first2]
 by_cases h:p=0
 ·simp [h]
 ·have:¬ -p=0:=by omega
  simp [h,this]
theorem cmpInt_tri (a b c:Int):Tri (cmpInt a b) (cmpInt b c) (cmpInt a c):=by
 unfold Tri cmpInt
 by_cases h1:a < b <;> by_cases h2:b < c <;> by_cases h3:a < c <;> by_cases h4:b < a <;> by_cases h5:c < b <;> by_cases h6:c < a <;> simp only [h1,h2,h3,h4,h5,h6,if_true,if_false] <;> omega
theorem cmpInt_neg (a b:Int):cmpInt b a=-cmpInt a b:=by
 unfold cmpInt
 by_cases h1:a < b <;> by_cases h2:b < a <;> simp only [h1,h2,if_true,if_false] <;> omega
theorem bytes_first (x y:UInt8) (xs ys:List UInt8):Lib.compareBytes (x::xs) (y::ys)=firstNZ [cmpInt x.toNat y.toNat,Lib.compareBytes xs ys]:=by
 rw [first2]
 simp only [Lib.compareBytes,cmpInt,UInt8.lt_iff_toNat_lt]
 by_cases h1:x.toNat < y.toNat
 ·have:((x.toNat:Int) < y.toNat):=by omega
  simp [h1,this]
 ·have h1':¬ ((x.toNat:Int) < y.toNat):=by omega
  by_cases h2:y.toNat < x.toNat
  ·have:((y.toNat:Int) < x.toNat):=by omega
   simp [h1,h2,h1',this]
  ·have:¬ ((y.toNat:Int) < x.toNat):=by omega
   simp [h1,h2,h1',this]
theorem bytes_tri:∀ (a b c:List UInt8),Tri (Lib.compareBytes a b) (Lib.compareBytes b c) (Lib.compareBytes a c)
 | [],[],[]=>by simp [Lib.compareBytes,Tri]
 | [],[],_::_=>by simp [Lib.compareBytes,Tri]
 | [],_::_,[]=>by simp [Lib.compareBytes,Tri]
 | [],y::ys,z::zs=>by
  have:Lib.compareBytes [] (y::ys)=-1:=rfl
  have h2:Lib.compareBytes [] (z::zs)=-1:=rfl
  rw [this,h2];unfold Tri;omega
 | _::_,[],[]=>by simp [Lib.compareBytes,Tri]
 | x::xs,[],z::zs=>by
  have:Lib.compareBytes (x::xs) []=1:=rfl
  have h2:Lib.compareBytes [] (z::zs)=-1:=rfl
  rw [this,h2];unfold Tri;omega
 | x::xs,y::ys,[]=>by
  have:Lib.compareBytes (x::xs) []=1:=rfl
  have h2:Lib.compareBytes (y::ys) []=1:=rfl
  rw [this,h2];unfold Tri;omega
 | x::xs,y::ys,z::zs=>by
  simp only [bytes_first]
  exact (cmpInt_tri _ _ _).lex (bytes_tri xs ys zs)
theorem bytes_neg:∀ (a b:List UInt8),Lib.compareBytes b a=-Lib.compareBytes a b
 | [],[]=>rfl
 | [],_::_=>rfl
 | _::_,[]=>rfl
 | x::xs,y::ys=>by rw [bytes_first,bytes_first,cmpInt_neg,bytes_neg xs ys,firstNZ_neg]
mutual
theorem cmpTm_neg:∀ (a b:Tm),cmpTm b a=-cmpTm a b
 | .mk o n s a,.mk o' n' s' a'=>by
  simp only [cmpTm,first4]
  rw [cmpInt_neg o o',cmpInt_neg s s',cmpTms_neg a a',show cmpStr n' n=-cmpStr n n' from bytes_neg _ _,firstNZ_neg,firstNZ_neg,firstNZ_neg]
theorem cmpTms_neg:∀ (a b:List Tm),cmpTms b a=-cmpTms a b
 | [],[]=>by simp [cmpTms]
 | [],_::_=>by simp [cmpTms]
 | _::_,[]=>by simp [cmpTms]
 | x::xs,y::ys=>by
  simp only [cmpTms]
  rw [cmpTm_neg x y,cmpTms_neg xs ys,firstNZ_neg]
end
mutual
theorem cmpTm_tri:∀ (a b c:Tm),Tri (cmpTm a b) (cmpTm b c) (cmpTm a c)
 | .mk o n s a,.mk o' n' s' a',.mk o'' n'' s'' a''=>by
  simp only [cmpTm,first4]
  exact (cmpInt_tri _ _ _).lex ((bytes_tri _ _ _).lex ((cmpInt_tri _ _ _).lex (cmpTms_tri a a' a'')))
theorem cmpTms_tri:∀ (a b c:List Tm),Tri (cmpTms a b) (cmpTms b c) (cmpTms a c)
 | [],[],[]=>by simp [cmpTms,Tri]
 | [],[],_::_=>by simp [cmpTms,Tri]
 | [],_::_,[]=>by simp [cmpTms,Tri]
 | [],_::_,_::_=>by simp only [cmpTms];unfold Tri;omega
 | _::_,[],[]=>by simp [cmpTms,Tri]
 | _::_,[],_::_=>by simp only [cmpTms];unfold Tri;omega
 | _::_,_::_,[]=>by simp only [cmpTms];unfold Tri;omega
 | x::xs,y::ys,z::zs=>by
  simp only [cmpTms]
  exact (cmpTm_tri x y z).lex (cmpTms_tri xs ys zs)
end
theorem cmpTm_le_trans {a b c:Tm} (h1:cmpTm a b<=0) (h2:cmpTm b c<=0):cmpTm a c<=0:=(cmpTm_tri a b c).1.1 h1 h2
def Asc (l:List Tm):Prop:=l.Pairwise fun a b=>cmpTm a b < 0
theorem Asc.ext {l l':List Tm} (h:Asc l) (h':Asc l') (hm:∀ t,t∈l ↔ t∈l'):l=l':=by
 induction l generalizing l' with
 | nil =>
  cases l' with
  | nil=>rfl
  | cons y ys=>exact absurd ((hm y).2 (by simp)) (by simp)
 | cons x xs ih =>
  cases l' with
  | nil=>exact absurd ((hm x).1 (by simp)) (by simp)
  | cons y ys =>
   have h1:=List.pairwise_cons.1 h
   have h2:=List.pairwise_cons.1 h'
   have e:x=y:=by
    rcases List.mem_cons.1 ((hm x).1 (by simp)) with e | hx
    ·exact e
    ·rcases List.mem_cons.1 ((hm y).2 (by simp)) with e | hy
     ·exact e.symm
     ·have a1:=h1.1 y hy
      have a2:=h2.1 x hx
      rw [cmpTm_neg x y] at a2
      omega
   subst e
   refine congrArg (x::·) (ih h1.2 h2.2 fun t=>⟨fun ht=>?_,fun ht=>?_⟩)
   ·rcases List.mem_cons.1 ((hm t).1 (List.mem_cons_of_mem _ ht)) with e | h3
    ·subst e;have:=h1.1 t ht;rw [cmpTm_self] at this;omega
    ·exact h3
   ·rcases List.mem_cons.1 ((hm t).2 (List.mem_cons_of_mem _ ht)) with e | h3
    ·subst e;have:=h2.1 t ht;rw [cmpTm_self] at this;omega
    ·exact h3
end Go.Proofs.YtffmjghcpgpfpaaGreatDoor
namespace Go.Proofs.YtffmjghcpgpfpaaGreatDoor
open Go.RowKit
def Up (l:List Tm):Prop:=l.Pairwise fun a b=>cmpTm a b<=0
def sortTm (l:List Tm):List Tm:=l.mergeSort fun a b=>decide (cmpTm a b<=0)
theorem sortTm_perm (l:List Tm):(sortTm l).Perm l:=List.mergeSort_perm l _
theorem sortTm_up (l:List Tm):Up (sortTm l):=by
 have h:=List.pairwise_mergeSort (le:=fun a b=>decide (cmpTm a b<=0)) (fun a b c h1 h2=>by simp only [decide_eq_true_eq] at *;exact cmpTm_le_trans h1 h2) (fun a b=>by
  simp only [Bool.or_eq_true,decide_eq_true_eq]
  have:=cmpTm_neg a b
  omega) l
 exact h.imp fun h=>by simpa using h
theorem up_perm:∀ {l l':List Tm},Up l->Up l'->l.Perm l'->l=l'
 | [],l',_,_,h=>by have:=h.length_eq;cases l' with | nil=>rfl | cons _ _=>simp at this
 | x::xs,[],_,_,h=>by have:=h.length_eq;simp at this
 | x::xs,y::ys,h1,h2,h=>by
  have p1:=List.pairwise_cons.1 h1
  have p2:=List.pairwise_cons.1 h2
  have hx:x∈y::ys:=h.mem_iff.1 List.mem_cons_self
  have hy:y∈x::xs:=h.mem_iff.2 List.mem_cons_self
  have e:x=y:=by
   rcases List.mem_cons.1 hx with e | hx
   ·exact e
   ·rcases List.mem_cons.1 hy with e | hy
    ·exact e.symm
    ·have a1:=p2.1 x hx
     have a2:=p1.1 y hy
     refine cmpTm_zero ?_
     rw [cmpTm_neg x y] at a1
     omega
  subst e
  rw [up_perm p1.2 p2.2 h.cons_inv]
theorem encTms_take (l:List Tm) (k:Nat):(encTms l).take k=encTms (l.take k):=by rw [encTms_eq,encTms_eq,List.map_take]
theorem encTms_drop (l:List Tm) (k:Nat):(encTms l).drop k=encTms (l.drop k):=by rw [encTms_eq,encTms_eq,List.map_drop]
theorem encTms_app (a b:List Tm):encTms (a++b)=encTms a++encTms b:=by rw [encTms_eq,encTms_eq,encTms_eq,List.map_append]
theorem encTms_one (t:Tm):encTms [t]=[encTm t]:=by simp [encTms]
theorem con_implSame (a b:Tm):Con e0 62 [.agg (encTm a),.agg (encTm b)] [.one (.lit (.bool (decide (cmpTm a b=0))))]:=by
 refine gI (ts:=[.slot 4]) 31 Tryz.func62 ?_
 (have F:=@tmz;refine gG ?_;clear F)
 refine gB ?_
 (have F:=@tmz;refine gC (con_1 (con_cmp1 a b)) ?_;clear F)
 (have F:=@tmz;refine gR ?_;clear F)
 (have F:=@tmz;refine gG ?_;exact gTd)
end Go.Proofs.YtffmjghcpgpfpaaGreatDoor
namespace Go.Proofs.YtffmjghcpgpfpaaGreatDoor
open Go.RowKit
theorem sortTm_of {l m:List Tm} (hp:m.Perm l) (hu:Up m):m=sortTm l:=up_perm hu (sortTm_up l) (hp.trans (sortTm_perm l).symm)
theorem sortTm_self {l:List Tm} (hu:Up l):sortTm l=l:=(sortTm_of (List.Perm.refl _) hu).symm
theorem sortTm_len (l:List Tm):(sortTm l).length=l.length:=(sortTm_perm l).length_eq
theorem sortTm_congr {l m:List Tm} (h:l.Perm m):sortTm l=sortTm m:=up_perm (sortTm_up l) (sortTm_up m) ((sortTm_perm l).trans (h.trans (sortTm_perm m).symm))
theorem Up.get {l:List Tm} (h:Up l) {i j:Nat} {x y:Tm} (hij:i<=j) (hx:l[i]?=some x) (hy:l[j]?=some y):cmpTm x y<=0:=by
 rcases Nat.lt_or_ge i j with hl | hl
 ·obtain ⟨h1,rfl⟩:=List.getElem?_eq_some_iff.1 hx
  obtain ⟨h2,rfl⟩:=List.getElem?_eq_some_iff.1 hy
  exact List.pairwise_iff_getElem.1 h i j h1 h2 hl
 ·obtain rfl:i=j:=by omega
  rw [hx] at hy
  injection hy with hy
  subst hy
  rw [cmpTm_self];omega
theorem mem_take_get {l:List Tm} {k:Nat} {x:Tm} (h:x∈l.take k):∃ i,i < k∧l[i]?=some x:=by
 obtain ⟨i,hi⟩:=List.getElem?_of_mem h
 rw [List.getElem?_take] at hi
 split at hi
 ·exact ⟨i,by assumption,hi⟩
 ·cases hi
theorem mem_drop_get {l:List Tm} {k:Nat} {x:Tm} (h:x∈l.drop k):∃ i,k<=i∧l[i]?=some x:=by
 obtain ⟨i,hi⟩:=List.getElem?_of_mem h
 rw [List.getElem?_drop] at hi
 exact ⟨k+i,by omega,hi⟩
theorem le_ge {x y:Tm} (h:¬ cmpTm x y < 0):cmpTm y x<=0:=by rw [cmpTm_neg x y];omega
theorem Up.append {l m:List Tm} (hl:Up l) (hm:Up m) (h:∀ x∈l,∀ y∈m,cmpTm x y<=0):Up (l++m):=List.pairwise_append.2 ⟨hl,hm,h⟩
theorem Up.left {l m:List Tm} (h:Up (l++m)):Up l:=(List.pairwise_append.1 h).1
theorem Up.take {l:List Tm} (h:Up l) (k:Nat):Up (l.take k):=List.Pairwise.sublist (List.take_sublist k l) h
theorem Up.drop {l:List Tm} (h:Up l) (k:Nat):Up (l.drop k):=List.Pairwise.sublist (List.drop_sublist k l) h
theorem Up.put {B:List Tm} {x:Tm} (hB:Up B) {s:Nat} (h1:0 < s->∃ y,B[s - 1]?=some y∧cmpTm y x<=0) (h2:s < B.length->∃ y,B[s]?=some y∧cmpTm x y<=0):Up (B.take s++x::B.drop s):=by
 have k2:∀ z∈B.drop s,cmpTm x z<=0:=fun z hz=>by
  obtain ⟨i,hi,hz⟩:=mem_drop_get hz
  have hl:=(List.getElem?_eq_some_iff.1 hz).1
  obtain ⟨y,hy,hc⟩:=h2 (by omega)
  exact cmpTm_le_trans hc (hB.get hi hy hz)
 have k1:∀ z∈B.take s,cmpTm z x<=0:=fun z hz=>by
  obtain ⟨i,hi,hz⟩:=mem_take_get hz
  obtain ⟨y,hy,hc⟩:=h1 (by omega)
  exact cmpTm_le_trans (hB.get (by omega) hz hy) hc
 refine (hB.take s).append (List.pairwise_cons.2 ⟨k2,hB.drop s⟩) fun z hz u hu=>?_
 rcases List.mem_cons.1 hu with rfl | hu
 ·exact k1 z hz
 ·obtain ⟨i,hi,hz⟩:=mem_take_get hz
  obtain ⟨j,hj,hu⟩:=mem_drop_get hu
  exact hB.get (by omega) hz hu
theorem put_perm {B:List Tm} {x:Tm} (s:Nat):(B.take s++x::B.drop s).Perm (x::B):=by
 refine List.perm_middle.trans ?_
 rw [List.take_append_drop]
theorem sym_cut {A B:List Tm} (hA:Up A) (hB:Up B) {s e:Nat} (h1:e < B.length->0 < s->∃ x y,A[s - 1]?=some x∧B[e]?=some y∧cmpTm x y<=0) (h2:0 < e->s < A.length->∃ x y,B[e - 1]?=some x∧A[s]?=some y∧cmpTm x y<=0):∀ x∈A.take s++B.take e,∀ y∈A.drop s++B.drop e,cmpTm x y<=0:=by
 intro x hx y hy
 rcases List.mem_append.1 hx with hx | hx <;> rcases List.mem_append.1 hy with hy | hy <;> obtain ⟨i,hi,hx⟩:=mem_take_get hx <;> obtain ⟨j,hj,hy⟩:=mem_drop_get hy
 ·exact hA.get (by omega) hx hy
 ·have hl:=(List.getElem?_eq_some_iff.1 hy).1
  obtain ⟨u,v,hu,hv,huv⟩:=h1 (by omega) (by omega)
  exact cmpTm_le_trans (cmpTm_le_trans (hA.get (by omega) hx hu) huv) (hB.get hj hv hy)
 ·have hl:=(List.getElem?_eq_some_iff.1 hy).1
  obtain ⟨u,v,hu,hv,huv⟩:=h2 (by omega) (by omega)
  exact cmpTm_le_trans (cmpTm_le_trans (hB.get (by omega) hx hu) huv) (hA.get hj hv hy)
 ·exact hB.get (by omega) hx hy
theorem sort_split {A1 A2 B1 B2:List Tm} (h:∀ x∈A1++B1,∀ y∈A2++B2,cmpTm x y<=0):sortTm (A1++B1)++sortTm (A2++B2)=sortTm ((A1++A2)++(B1++B2)):=by
 refine sortTm_of ?_ ((sortTm_up _).append (sortTm_up _) fun x hx y hy=>h x ((sortTm_perm _).mem_iff.1 hx) y ((sortTm_perm _).mem_iff.1 hy))
 refine ((sortTm_perm _).append (sortTm_perm _)).trans ?_
 rw [List.append_assoc,List.append_assoc]
 refine List.Perm.append_left _ ?_
 rw [<- List.append_assoc,<- List.append_assoc]
 exact List.Perm.append_right _ List.perm_append_comm
inductive Blks (k:Nat):List Tm->Prop where
 | last {l:List Tm} (hl:l.length<=k) (hu:Up l):Blks k l
 | cons {X r:List Tm} (hl:X.length=k) (hu:Up X) (hr:Blks k r):Blks k (X++r)
inductive Full (k:Nat):List Tm->Prop where
 | nil:Full k []
 | cons {X r:List Tm} (hl:X.length=k) (hu:Up X) (hr:Full k r):Full k (X++r)
theorem Full.snoc {k:Nat} {X Z:List Tm} (h:Full k X) (hl:Z.length=k) (hu:Up Z):Full k (X++Z):=by
 induction h with
 | nil=>have:=Full.cons hl hu Full.nil;rwa [List.append_nil] at this
 | cons h1 h2 _ ih=>rw [List.append_assoc];exact .cons h1 h2 ih
theorem Full.blks {k:Nat} {X Z:List Tm} (h:Full k X) (hl:Z.length<=k) (hu:Up Z):Blks k (X++Z):=by
 induction h with
 | nil=>exact .last hl hu
 | cons h1 h2 _ ih=>rw [List.append_assoc];exact .cons h1 h2 ih
theorem Blks.up {k:Nat} {l:List Tm} (h:Blks k l) (hl:l.length<=k):Up l:=by
 cases h with
 | last h1 h2=>exact h2
 | @cons X r h1 h2 h3 =>
  rw [List.length_append] at hl
  have:r=[]:=List.eq_nil_of_length_eq_zero (by omega)
  subst this
  rwa [List.append_nil]
theorem Blks.split {k:Nat} {l:List Tm} (h:Blks k l) (hl:k < l.length):∃ X r,l=X++r∧X.length=k∧Up X∧Blks k r:=by
 cases h with
 | last h1 h2=>omega
 | cons h1 h2 h3=>exact ⟨_,_,rfl,h1,h2,h3⟩
theorem Blks.two {k:Nat} {l:List Tm} (h:Blks k l) (hk:0 < k) (hl:2 * k<=l.length):∃ A B r,l=A++B++r∧A.length=k∧B.length=k∧Up A∧Up B∧Blks k r:=by
 obtain ⟨A,r,rfl,h1,h2,h3⟩:=h.split (by omega)
 rw [List.length_append] at hl
 rcases Nat.lt_or_ge k r.length with h4 | h4
 ·obtain ⟨B,r',rfl,h5,h6,h7⟩:=h3.split h4
  exact ⟨A,B,r',by rw [List.append_assoc],h1,h5,h2,h6,h7⟩
 ·exact ⟨A,r,[],by rw [List.append_nil],h1,by omega,h2,h3.up h4,.last (by simp) List.Pairwise.nil⟩
theorem set_at {A B:List Tm} {x y:Tm} {k:Nat} (h:A.length=k):(A++x::B).set k y=A++y::B:=by
 subst h
 rw [List.set_append_right _ _ (Nat.le_refl _),Nat.sub_self,List.set_cons_zero]
theorem get_at {A B:List Tm} {x:Tm} {k:Nat} (h:A.length=k):(A++x::B)[k]?=some x:=by
 subst h
 rw [List.getElem?_append_right (Nat.le_refl _),Nat.sub_self,List.getElem?_cons_zero]
theorem swap_at {A B:List Tm} {x y:Tm} {k:Nat} (h:A.length=k):((A++y::x::B).set (k+1) y).set k x=A++x::y::B:=by
 have e1:(A++y::x::B).set (k+1) y=A++y::y::B:=by
  have:=set_at (A:=A++[y]) (B:=B) (x:=x) (y:=y) (k:=k+1) (by simp [h])
  simpa using this
 rw [e1,set_at h]
theorem swap_at' {A B:List Tm} {x y:Tm} {k:Nat} (h:A.length=k):((A++y::x::B).set k x).set (k+1) y=A++x::y::B:=by
 have e1:(A++x::x::B).set (k+1) y=A++x::y::B:=by
  have:=set_at (A:=A++[x]) (B:=B) (x:=x) (y:=y) (k:=k+1) (by simp [h])
  simpa using this
 rw [set_at h,e1]
theorem get_at1 {A B:List Tm} {x y:Tm} {k:Nat} (h:A.length=k):(A++y::x::B)[k+1]?=some x:=by
 have:=get_at (A:=A++[y]) (B:=B) (x:=x) (k:=k+1) (by simp [h])
 simpa using this
theorem drop_cons_of {l:List Tm} {i:Nat} {x:Tm} (h:l[i]?=some x):l.drop i=x::l.drop (i+1):=by
 obtain ⟨h1,rfl⟩:=List.getElem?_eq_some_iff.1 h
 exact List.drop_eq_getElem_cons h1
theorem take_snoc_of {l:List Tm} {i:Nat} {x:Tm} (h:l[i]?=some x):l.take (i+1)=l.take i++[x]:=by
 rw [List.take_add_one,h];rfl
def swR (P X Z Y Q:List Tm) (i:Nat):List Tm:=P++(Y.take i++X.drop i)++Z++(X.take i++Y.drop i)++Q
theorem swR_zero (P X Z Y Q:List Tm):swR P X Z Y Q 0=P++X++Z++Y++Q:=by simp [swR]
theorem swR_all {P X Z Y Q:List Tm} (h:X.length=Y.length):swR P X Z Y Q X.length=P++Y++Z++X++Q:=by
 unfold swR
 rw [List.take_length,List.drop_length,h,List.take_length,List.drop_length];simp
theorem swR_len {P X Z Y Q:List Tm} (i:Nat) (h:X.length=Y.length):(swR P X Z Y Q i).length=P.length+X.length+Z.length+Y.length+Q.length:=by
 simp only [swR,List.length_append,List.length_take,List.length_drop];omega
theorem swR_get {P X Z Y Q:List Tm} {i:Nat} {x y:Tm} (h:X.length=Y.length) (hx:X[i]?=some x) (hy:Y[i]?=some y) :
  (swR P X Z Y Q i)[P.length+i]?=some x∧(swR P X Z Y Q i)[P.length+X.length+Z.length+i]?=some y∧((swR P X Z Y Q i).set (P.length+i) y).set (P.length+X.length+Z.length+i) x=swR P X Z Y Q (i+1):=by
 have hi:=(List.getElem?_eq_some_iff.1 hx).1
 have hi':=(List.getElem?_eq_some_iff.1 hy).1
 have e:swR P X Z Y Q i=(P++Y.take i)++x::(X.drop (i+1)++Z++X.take i++y::(Y.drop (i+1)++Q)):=by
  unfold swR;rw [drop_cons_of hx,drop_cons_of hy];simp
 have e2:swR P X Z Y Q i=((P++Y.take i)++x::(X.drop (i+1)++Z++X.take i))++y::(Y.drop (i+1)++Q):=by rw [e];simp
 have l1:(P++Y.take i).length=P.length+i:=by simp;omega
 have l2:∀ z:Tm,((P++Y.take i)++z::(X.drop (i+1)++Z++X.take i)).length=P.length+X.length+Z.length+i:=fun z=>by simp;omega
 refine ⟨by rw [e];exact get_at l1,by rw [e2];exact get_at (l2 x),?_⟩
 rw [e,set_at l1]
 rw [show (P++Y.take i)++y::(X.drop (i+1)++Z++X.take i++y::(Y.drop (i+1)++Q))=((P++Y.take i)++y::(X.drop (i+1)++Z++X.take i))++y::(Y.drop (i+1)++Q) by simp,set_at (l2 y)]
 unfold swR
 rw [take_snoc_of hy,take_snoc_of hx];simp
theorem ins_done {M1 M2:List Tm} {x:Tm} (h:Up (M1++M2)) (h2:∀ y∈M2,cmpTm x y<=0) (h1:∀ y,M1.getLast?=some y->cmpTm y x<=0):Up (M1++x::M2):=by
 obtain ⟨u1,u2,u3⟩:=List.pairwise_append.1 h
 refine Up.append u1 (List.pairwise_cons.2 ⟨h2,u2⟩) fun z hz u hu=>?_
 rcases List.mem_cons.1 hu with rfl | hu
 ·obtain ⟨M0,y,rfl⟩:∃ M0 y,M1=M0++[y]:=⟨M1.dropLast,M1.getLast (List.ne_nil_of_mem hz),(List.dropLast_concat_getLast _).symm⟩
  have hy:=h1 y (by simp)
  rcases List.mem_append.1 hz with hz | hz
  ·exact cmpTm_le_trans ((List.pairwise_append.1 u1).2.2 z hz y (by simp)) hy
  ·simp only [List.mem_singleton] at hz
   subst hz
   exact hy
 ·exact u3 z hz u hu
theorem ins_sort {M1 M2 L:List Tm} {x:Tm} (e:M1++M2=sortTm L) (h2:∀ y∈M2,cmpTm x y<=0) (h1:∀ y,M1.getLast?=some y->cmpTm y x<=0):M1++x::M2=sortTm (L++[x]):=by
 have hu:Up (M1++M2):=by rw [e];exact sortTm_up _
 refine sortTm_of ?_ (ins_done hu h2 h1)
 refine List.perm_middle.trans ?_
 rw [e]
 exact ((sortTm_perm L).cons x).trans (List.perm_append_comm (l₁:=[x]) (l₂:=L))
end Go.Proofs.YtffmjghcpgpfpaaGreatDoor
namespace Go.Proofs.YtffmjghcpgpfpaaGreatDoor
open Go.RowKit
mutual
def leftTm:Tm->Int->Int
 | .mk _ _ _ args,l=>leftTms args (l - 1)
def leftTms:List Tm->Int->Int
 | [],l=>l
 | t::ts,l=>if 0<=l then leftTms ts (leftTm t l) else l
end
theorem leftTms_u:∀ l,leftTms [] l=l:=fun _=>by rw [leftTms]
mutual
theorem leftTm_spec:∀ (t:Tm) (l:Int),0<=l->(-1<=leftTm t l∧leftTm t l<=l∧((sizeTm t:Int)<=l->leftTm t l=l - sizeTm t)∧(l < sizeTm t->leftTm t l < 0))
 | .mk _ _ _ args,l,hl=>by
  have:=leftTms_spec args (l - 1) (by omega)
  simp only [leftTm,sizeTm]
  refine ⟨this.1,by omega,fun h=>?_,fun h=>?_⟩
  ·have:=this.2.2.1 (by omega);omega
  ·by_cases h1:0<=l - 1
   ·exact this.2.2.2 (by omega)
   ·have h2:=this.2.1;omega
theorem leftTms_spec:∀ (ts:List Tm) (l:Int),-1<=l->(-1<=leftTms ts l∧leftTms ts l<=l∧((sizeTms ts:Int)<=l->leftTms ts l=l - sizeTms ts)∧(l < sizeTms ts->leftTms ts l < 0))
 | [],l,hl=>by simp only [leftTms,sizeTms];omega
 | t::ts,l,hl=>by
  simp only [leftTms,sizeTms]
  by_cases h0:0<=l
  ·rw [if_pos h0]
   have h1:=leftTm_spec t l h0
   have h2:=leftTms_spec ts (leftTm t l) h1.1
   refine ⟨h2.1,by omega,fun h=>?_,fun h=>?_⟩
   ·have e1:=h1.2.2.1 (by omega)
    have e2:=h2.2.2.1 (by omega)
    omega
   ·by_cases h3:(sizeTm t:Int)<=l
    ·have e1:=h1.2.2.1 h3
     exact h2.2.2.2 (by omega)
    ·have e1:=h1.2.2.2 (by omega)
     omega
  ·rw [if_neg h0]
   have:=sizeTms_len ts
   refine ⟨hl,Int.le_refl _,fun h=>by omega,fun h=>by omega⟩
end
theorem leftTms_neg {ts:List Tm} {l:Int} (h:¬ 0<=l):leftTms ts l=l:=by
 cases ts with
 | nil=>rfl
 | cons t ts=>simp only [leftTms,if_neg h]
theorem leftTms_app:∀ (a b:List Tm) (l:Int),leftTms (a++b) l=leftTms b (leftTms a l)
 | [],b,l=>rfl
 | t::ts,b,l=>by
  simp only [List.cons_append,leftTms]
  by_cases h:0<=l
  ·rw [if_pos h,if_pos h,leftTms_app]
  ·rw [if_neg h,if_neg h,leftTms_neg h]
theorem leftTms_snoc {ts:List Tm} {i:Nat} {t:Tm} {l:Int} (h:ts[i]?=some t) (h0:0<=leftTms (ts.take i) l):leftTms (ts.take (i+1)) l=leftTm t (leftTms (ts.take i) l):=by
 rw [take_snoc h,leftTms_app]
 simp only [leftTms,if_pos h0]
theorem leftTms_stop {ts:List Tm} {i:Nat} {l:Int} (h0:¬ 0<=leftTms (ts.take i) l):leftTms ts l=leftTms (ts.take i) l:=by
 conv=>lhs;rw [<- List.take_append_drop i ts]
 rw [leftTms_app,leftTms_neg h0]
theorem leftTm_eq (t:Tm) (l:Int):leftTm t l=leftTms t.args (l - 1):=by cases t;simp only [leftTm,Tm.args]
set_option maxHeartbeats 4000000 in
set_option maxRecDepth 100000 in
theorem con_l6Left_all:∀ (n:Nat) (t:Tm) (l:Int),sizeTm t < n->sizeTm t<=big->0<=l->l<=60->Con e0 153 [.agg (encTm t),.one (.lit (.int .i64 l))] [.one (.lit (.int .i64 (leftTm t l)))]:=by
 intro n
 induction n with
 | zero=>intro t l h;omega
 | succ n ih =>
  intro t l hn hb hl0 hl1
  have hsz:=sizeTm_eq t
  have hal:=sizeTms_len t.args
  unfold big at hb
  have hw:IntKind.i64.wrap (l - 1)=l - 1:=wrapN rfl (by omega) (by omega)
  rw [leftTm_eq]
  refine gI 65591 Tryz.func153 ?_
  (have F:=ai @tmz @hw;refine gG ?_;clear F)
  (have F:=@leftTms_u;refine gL (ι:=Nat) [1,5,16] [] (fun i=>[(5,A.d (.one (.lit (.int .i64 i)))),(1,A.d (.one (.lit (.int .i64 (leftTms (t.args.take i) (l - 1))))))]) (fun i=>[]) (fun i=>i<=t.args.length) (fun i=>t.args.length - i) (0) (by omega) (fun i hi=>?_);clear F)
  have hsp:=leftTms_spec (t.args.take i) (l - 1) (by omega)
  by_cases hl:i < t.args.length
  rotate_left
  ·have hl':¬ ((i:Int) < (t.args.length:Int)):=by omega
   have e:t.args.take i=t.args:=List.take_of_length_le (by omega)
   (have F:=ai @hl' (ai @e @tmz);refine gG ?_;exact gT)
  have hl':(i:Int) < (t.args.length:Int):=by omega
  by_cases h0:0<=leftTms (t.args.take i) (l - 1)
  rotate_left
  ·have e:=leftTms_stop h0
   (have F:=ai @hl' (ai @h0 (ai @e @tmz));refine gG ?_;exact gT)
  obtain ⟨a,ha⟩:∃ a,t.args[i]?=some a:=⟨_,List.getElem?_eq_getElem hl⟩
  have hm:=sizeTms_mem (List.mem_of_getElem? ha)
  have hw1:=wrap1 (k:=i) (by omega)
  have hs:=leftTms_snoc ha h0
  (have F:=ai @hl' (ai @h0 (ai @tmz @ha));refine gG ?_;clear F)
  refine gB ?_
  (have F:=ai @tmz @ha;refine gC (ih a _ (by omega) (by unfold big;omega) h0 (by omega)) ?_;clear F)
  (have F:=@tmz;refine gR ?_;clear F)
  (have F:=ai @hw1 (ai @hs @tmz);refine gG ?_;exact ⟨i+1,by omega,gw,gw,by omega⟩)
theorem small_iff {t:Tm}:0<=leftTm t 60 ↔ sizeTm t<=60:=by
 have:=leftTm_spec t 60 (by omega)
 by_cases h:sizeTm t<=60
 ·have:=this.2.2.1 (by omega);omega
 ·have:=this.2.2.2 (by omega);omega
set_option maxHeartbeats 4000000 in
set_option maxRecDepth 100000 in
theorem con_l6Small {t:Tm} (hb:sizeTm t<=big):Con e0 95 [.agg (encTm t)] [.one (.lit (.bool (decide (sizeTm t<=60∧depthTm t<=20))))]:=by
 refine gI 7 Tryz.func95 ?_
 (have F:=@tmz;refine gG ?_;clear F)
 refine gB ?_
 (have F:=@tmz;refine gC (con_l6Left_all _ t 60 (Nat.lt_succ_self _) hb (by omega) (by omega)) ?_;clear F)
 by_cases h1:sizeTm t<=60
 rotate_left
 ·have h1':¬ (0<=leftTm t 60):=fun h=>h1 (small_iff.1 h)
  (have F:=ai @tmz @h1';refine gR ?_;clear F)
  (have F:=@h1;refine gG ?_;exact gT)
 have h1':(0<=leftTm t 60):=small_iff.2 h1
 (have F:=ai @tmz @h1';refine gC (con_specDepth hb) ?_;clear F)
 by_cases h2:depthTm t<=20
 ·have h2':((depthTm t:Int)<=20):=by omega
  (have F:=ai @tmz @h2';refine gR ?_;clear F)
  (have F:=ai @h1 @h2;refine gG ?_;exact gT)
 ·have h2':¬ ((depthTm t:Int)<=20):=by omega
  (have F:=ai @tmz @h2';refine gR ?_;clear F)
  (have F:=ai @h1 @h2;refine gG ?_;exact gT)
section
variable {g:Sgn}
open Classical in
noncomputable def isNode (g:Sgn) (t:Tm):Bool:=decide (NodeOk g t)
theorem isNode_true {t:Tm} (h:NodeOk g t):isNode g t=true:=by simp [isNode,h]
theorem isNode_false {t:Tm} (h:¬ NodeOk g t):isNode g t=false:=by simp [isNode,h]
theorem isNode_iff {t:Tm}:isNode g t=true ↔ NodeOk g t:=by simp [isNode]
set_option maxHeartbeats 4000000 in
set_option maxRecDepth 100000 in
theorem con_l6Node (hg:SgnOk g) {t:Tm} (hok:okTm t) (hb:sizeTm t<=big):Con e0 155 [.agg (encSgn g),.agg (encTm t)] [.one (.lit (.bool (isNode g t)))]:=by
 have hno:¬ NodeOk g t->isNode g t=false:=isNode_false
 obtain ⟨k1,k2,k3,k4⟩:=okTm_iff.1 hok
 have hsz:=sizeTm_eq t
 have hal:=sizeTms_len t.args
 have hn8:=hg.sorts.n8
 have hn1:=hg.sorts.n1
 have hln:=hg.len
 unfold big at hb
 have hwn:IntKind.i64.wrap ((g.sorts.names.length:Int) - 1)=(g.sorts.names.length:Int) - 1:=wrapN rfl (by omega) (by omega)
 have hwo:IntKind.i64.wrap ((g.ops.length:Int) - 1)=(g.ops.length:Int) - 1:=wrapN rfl (by omega) (by omega)
 refine gI 9444733036108034605695 Tryz.func155 ?_
 by_cases h1:t.op=-1
 ·have hV:NodeOk g t->VarOk g t:=fun h=>by
   rcases h with h | ⟨o,d,h⟩
   ·exact h
   ·exact absurd h1 h.op
  (have F:=ai @tmz (ai @encSgn_u @h1);refine gG ?_;clear F)
  refine gB ?_
  (have F:=@tmz;refine gC (con_specName k2) ?_;clear F)
  by_cases h2:isName t.name=true
  rotate_left
  ·have h2':isName t.name=false:=by simpa using h2
   have hf:=hno fun h=>h2 (hV h).2.1
   (have F:=ai @tmz @h2';refine gR ?_;clear F)
   (have F:=@hf;refine gG ?_;exact gT)
  (have F:=ai @tmz (ai @h2 @hwn);refine gC (con_l1In _ _ _) ?_;clear F)
  by_cases h3:0<=t.sort∧t.sort < g.sorts.names.length
  rotate_left
  ·have h3':decide (0<=t.sort∧t.sort<=(g.sorts.names.length:Int) - 1)=false:=by simp only [decide_eq_false_iff_not];omega
   have hf:=hno fun h=>h3 ⟨(hV h).2.2.1,(hV h).2.2.2.1⟩
   (have F:=ai @tmz @h3';refine gR ?_;clear F)
   (have F:=@hf;refine gG ?_;exact gT)
  have h3':decide (0<=t.sort∧t.sort<=(g.sorts.names.length:Int) - 1)=true:=by simp only [decide_eq_true_eq];omega
  by_cases h4:t.args=[]
  ·have hT:=isNode_true (g:=g) (.inl ⟨h1,h2,h3.1,h3.2,h4⟩)
   (have F:=ai @tmz (ai @h3' @h4);refine gR ?_;clear F)
   (have F:=@hT;refine gG ?_;exact gT)
  ·have hf:=hno fun h=>h4 (hV h).2.2.2.2
   have h4':¬ ((t.args.length:Int)=0):=by
    intro h;apply h4;apply List.eq_nil_of_length_eq_zero;omega
   (have F:=ai @tmz (ai @h3' @h4');refine gR ?_;clear F)
   (have F:=@hf;refine gG ?_;exact gT)
 (have F:=ai @tmz (ai @encSgn_u @h1);refine gG ?_;clear F)
 refine gB ?_
 (have F:=ai @tmz @hwo;refine gC (con_l1In _ _ _) ?_;clear F)
 by_cases h2:0<=t.op∧t.op < g.ops.length
 rotate_left
 ·have h2':decide (0<=t.op∧t.op<=(g.ops.length:Int) - 1)=false:=by simp only [decide_eq_false_iff_not];omega
  have hf:=hno fun h=>by
   obtain ⟨o,d,h⟩:=h.app h1
   have:=(List.getElem?_eq_some_iff.1 h.at').1
   have:=h.lo
   omega
  (have F:=ai @tmz @h2';refine gR ?_;clear F)
  (have F:=@hf;refine gG ?_;exact gT)
 have h2':decide (0<=t.op∧t.op<=(g.ops.length:Int) - 1)=true:=by simp only [decide_eq_true_eq];omega
 by_cases h4:t.name=ByteArray.empty
 rotate_left
 ·have hf:=hno fun h=>by
   obtain ⟨o,d,h⟩:=h.app h1
   exact h4 h.nm
  (have F:=ai @tmz (ai @h2' (ai @str_emp @h4));refine gR ?_;clear F)
  (have F:=@hf;refine gG ?_;exact gT)
 by_cases h5:t.sort=0
 rotate_left
 ·have hf:=hno fun h=>by
   obtain ⟨o,d,h⟩:=h.app h1
   exact h5 h.so
  (have F:=ai @tmz (ai @h2' (ai @str_emp (ai @h4 @h5)));refine gR ?_;clear F)
  (have F:=@hf;refine gG ?_;exact gT)
 have h0:=h2.1
 obtain ⟨o,ho⟩:∃ o,g.ops[t.op.toNat]?=some o:=⟨_,List.getElem?_eq_getElem (by omega)⟩
 obtain ⟨d,hd,hr0,hr1,hargs⟩:=hg.first ho
 have hgt:NodeOk g t->AppOk g t o d:=fun h=>by
  obtain ⟨o',d',h⟩:=h.app h1
  have e1:=h.at'
  rw [ho] at e1
  injection e1 with e1
  subst e1
  have e2:=h.fst
  rw [hd] at e2
  injection e2 with e2
  subst e2
  exact h
 have cA:=con_l4Arity hd
 rw [encOpr] at cA
 (have F:=ai @tmz (ai @h2' (ai @str_emp (ai @h4 @h5)));refine gR ?_;clear F)
 (have F:=ai @tmz (ai @h0 (ai @ho @encOpr_u));refine gG ?_;clear F)
 cases ha:o.assoc with
 | false =>
  rw [ha] at cA
  refine gB ?_
  (have F:=ai @tmz @ha;refine gC (cA) ?_;clear F)
  by_cases c:t.args.length=d.args.length
  ·have hT:=isNode_true (g:=g) (.inr ⟨o,d,h0,ho,hd,h4,h5,fun h=>(by rw [ha] at h;cases h),fun _=>c⟩)
   have c':((t.args.length:Int)=(d.args.length:Int)):=by omega
   (have F:=ai @tmz (ai @c' @ha);refine gR ?_;clear F)
   (have F:=@hT;refine gG ?_;exact gT)
  ·have hf:=hno fun h=>c ((hgt h).nas ha)
   have c':¬ ((t.args.length:Int)=(d.args.length:Int)):=by omega
   (have F:=ai @tmz (ai @c' @ha);refine gR ?_;clear F)
   (have F:=@hf;refine gG ?_;exact gT)
 | true =>
  refine gB ?_
  (have F:=ai @tmz @ha;refine gC (con_l1In _ _ _) ?_;clear F)
  by_cases c:2<=t.args.length∧t.args.length<=7
  ·have hT:=isNode_true (g:=g) (.inr ⟨o,d,h0,ho,hd,h4,h5,fun _=>c,fun h=>(by rw [ha] at h;cases h)⟩)
   have c':decide ((2:Int)<=(t.args.length:Int)∧(t.args.length:Int)<=7)=true:=by simp only [decide_eq_true_eq];omega
   (have F:=ai @tmz (ai @c' @ha);refine gR ?_;clear F)
   (have F:=@hT;refine gG ?_;exact gT)
  ·have hf:=hno fun h=>c ((hgt h).asc ha)
   have c':decide ((2:Int)<=(t.args.length:Int)∧(t.args.length:Int)<=7)=false:=by simp only [decide_eq_false_iff_not];omega
   (have F:=ai @tmz (ai @c' @ha);refine gR ?_;clear F)
   (have F:=@hf;refine gG ?_;exact gT)
end
end Go.Proofs.YtffmjghcpgpfpaaGreatDoor
namespace Go.Proofs.YtffmjghcpgpfpaaGreatDoor
open Go.RowKit
section
variable {g:Sgn}
open Classical in
noncomputable def isRight (g:Sgn) (op:Int) (args:List Tm):Bool:=decide (RightOk g op args)
theorem unit_form (hg:SgnOk g) {op:Int} {o:Opr} (ho:g.ops[op.toNat]?=some o) (hu:o.unit≠0) {a:Tm} (ha:FormOk g a) (hop:a.op=o.unit - 1):a=unitTm o:=by
 have hax:=hg.axs o (List.mem_of_getElem? ho)
 have hlo:=hax.lo
 obtain ⟨p,u,h⟩:=ha.node.app (by omega)
 obtain ⟨d,hd,_⟩:=hg.first ho
 have e:a.op.toNat=o.unit.toNat - 1:=by omega
 have hz:u.args.length=0:=by
  have h2:=hax.two (.inr (.inr hu)) d hd
  obtain ⟨d0,hd0⟩:∃ x,d.args[0]?=some x:=⟨_,List.getElem?_eq_getElem (by omega)⟩
  obtain ⟨d1,hd1⟩:∃ x,d.args[1]?=some x:=⟨_,List.getElem?_eq_getElem (by omega)⟩
  exact ((h2.2 d0 d1 hd0 hd1).2.2 hu p u (by rw [<- e];exact h.at') h.fst).1
 have has:p.assoc=false:=by
  cases hp:p.assoc with
  | false=>rfl
  | true =>
   have:=((hg.axs p (List.mem_of_getElem? h.at')).two (.inl hp) u h.fst).1
   omega
 have hl:=h.nas has
 have hnil:a.args=[]:=List.eq_nil_of_length_eq_zero (by omega)
 have hnm:=h.nm
 have hso:=h.so
 cases a with
 | mk x n s l =>
  simp only [Tm.args,Tm.name,Tm.sort,Tm.op] at *
  subst hnil hnm hso hop
  simp only [unitTm,if_neg hu]
theorem okTm_unit {o:Opr} (h0:0<=o.unit) (h1:o.unit<=14):okTm (unitTm o):=by
 rw [okTm_iff]
 simp only [unitTm,Tm.op,Tm.name,Tm.sort,Tm.args,okTms,and_true]
 refine ⟨?_,by simp [maxLen],?_⟩
 ·unfold I64;split <;> omega
 ·unfold I64;omega
set_option maxHeartbeats 40000000 in
set_option maxRecDepth 100000 in
theorem con_l6Right (hokg:okSgn g) (hg:SgnOk g) {t:Tm} {o:Opr} {d:Dcl} (hA:AppOk g t o d) (hF:∀ a∈t.args,FormOk g a) (hok:okTm t) (hb:sizeTm t<=big):Con e0 156 [.agg (encSgn g),.agg (encTm t)] [.one (.lit (.bool (isRight g t.op t.args)))]:=by
 have hno:¬ RightOk g t.op t.args->isRight g t.op t.args=false:=fun h=>by simp [isRight,h]
 obtain ⟨k1,k2,k3,k4⟩:=okTm_iff.1 hok
 have hsz:=sizeTm_eq t
 have hal:=sizeTms_len t.args
 unfold big at hb
 have h0:=hA.lo
 have ho:=hA.at'
 have hd:=hA.fst
 obtain ⟨d',hd',hr0,hr1,hargs⟩:=hg.first ho
 rw [hd] at hd'
 injection hd' with hd'
 subst hd'
 have hax:=hg.axs o (List.mem_of_getElem? ho)
 have hlo:=hax.lo
 have hhi:=hax.hi
 have hln:=hg.len
 have cK:=con_l3Kinds hg.sorts
 rw [encSrt] at cK
 have cUn:=con_l6Unit hg h0 ho
 rw [encSgn] at cUn
 have hnoA:∀ (i:Nat) a,t.args[i]?=some a->¬ ArgOk g t.op o d t.args i a->isRight g t.op t.args=false:=fun i a ha h=>hno fun hR=>h (hR o d ho hd i a ha)
 refine gI 9903595872146772515857895423 Tryz.func156 ?_
 (have F:=ai @tmz (ai @encSgn_u (ai @h0 (ai @ho @encOpr_u)));refine gG ?_;clear F)
 refine gB ?_
 (have F:=@tmz;refine gC (cK) ?_;clear F)
 (have F:=@tmz;refine gR ?_;clear F)
 (have F:=@tmz;refine gG ?_;clear F)
 refine gB ?_
 (have F:=@tmz;refine gC (cUn) ?_;clear F)
 (have F:=@tmz;refine gR ?_;clear F)
 (have F:=@tmz;refine gG ?_;clear F)
 (have F:=@e0P;refine gL (ι:=Nat) [4,9,10,11,32,42,76,93] [] (fun i=>[(9,A.d (.one (.lit (.int .i64 i))))]) (fun i=>[]) (fun i=>i<=t.args.length∧∀ (j:Nat) a,j < i->t.args[j]?=some a->ArgOk g t.op o d t.args j a) (fun i=>t.args.length - i) (0) (⟨by omega,fun j a h=>absurd h (by omega)⟩) (fun i hi=>?_);clear F)
 obtain ⟨hil,hall⟩:=hi
 by_cases hl:i < t.args.length
 rotate_left
 ·have hl':¬ ((i:Int) < (t.args.length:Int)):=by omega
  have hT:isRight g t.op t.args=true:=by
   simp only [isRight,decide_eq_true_eq]
   intro o' d' ho' hd' j a hj
   rw [ho] at ho'
   injection ho' with ho'
   subst ho'
   rw [hd] at hd'
   injection hd' with hd'
   subst hd'
   exact hall j a (by have:=(List.getElem?_eq_some_iff.1 hj).1;omega) hj
  (have F:=ai @tmz (ai @hl' @hT);refine gG ?_;exact gT)
 have hl':(i:Int) < (t.args.length:Int):=by omega
 obtain ⟨a,ha⟩:∃ a,t.args[i]?=some a:=⟨_,List.getElem?_eq_getElem hl⟩
 have hm:=List.mem_of_getElem? ha
 have hFa:=hF a hm
 have hw1:=wrap1 (k:=i) (by omega)
 obtain ⟨k,hk⟩:=argAt_get hg ho hd hA.nas hl
 obtain ⟨hk0,hk1⟩:=hargs k (List.mem_of_getElem? hk)
 have hkd:=kd_get hg.sorts hk0 hk1
 have cKa:=con_l6Kind hokg hg hFa.node
 rw [encSgn] at cKa
 have cU:=con_l5Same (k4.mem hm) (okTm_unit (o:=o) hlo (by omega))
 have hUiff:o.unit≠0->(cmpTm a (unitTm o)=0 ↔ a.op=o.unit - 1):=fun hu=>by
  rw [cmpTm_iff]
  constructor
  ·rintro h;rw [h];simp [unitTm,Tm.op,hu]
  ·exact unit_form hg ho hu hFa
 generalize hU:decide (cmpTm a (unitTm o)=0)=U at cU
 have hnext:kindTm g a=((kd g.sorts k:Nat):Int)->(o.assoc=true->¬ a.op=t.op)->(o.unit≠0->U=false)->(o.comm=true->∀ (j:Nat) p,i=j+1->t.args[j]?=some p->cmpTm p a<=0)->i+1<=t.args.length∧∀ (j:Nat) a,j < i+1->t.args[j]?=some a->ArgOk g t.op o d t.args j a:=fun hkk hne hU' hc=>⟨by omega,fun j a' hj ha'=>by
  by_cases e:j=i
  ·subst e
   rw [ha] at ha'
   injection ha' with ha'
   subst ha'
   refine ⟨fun k' hk'=>?_,hne,fun h1 h2=>?_,hc⟩
   ·rw [hk] at hk'
    injection hk' with hk'
    subst hk'
    exact hkk
   ·have:=hU' h1
    rw [this] at hU
    simp only [decide_eq_false_iff_not] at hU
    exact hU ((hUiff h1).2 h2)
  ·exact hall j a' (by omega) ha'⟩
 have hkN:d.args[(argAt o i:Nat)]?=some k:=hk
 (have F:=ai @tmz (ai @hl' @ha);refine gG ?_;clear F)
 refine gM (ι:=Unit) [11] [] (fun u=>[(11,A.d (.one (.lit (.int .i64 (argAt o i:Nat)))))]) (fun u=>[]) (fun u=>True) ?_ (fun u hu=>Exists.intro _ (ai (Wk.refl _) ?_))
 ·rcases Bool.eq_false_or_eq_true o.assoc with hac | hac
  ·(have F:=ai @encOpr_u (ai @hac @argAt_u);refine gG ?_;exact ⟨(),trivial,gw,gw⟩)
  ·(have F:=ai @encOpr_u (ai @hac (ai @argAt_u @if_false.{1}));refine gG ?_;exact ⟨(),trivial,gw,gw⟩)
 (have F:=@tmz;refine gG ?_;clear F)
 refine gM (ι:=Bool) [76] [] (fun x=>[(76,A.d (.one (.lit (.bool x))))]) (fun x=>[]) (fun x=>(x=true->isRight g t.op t.args=false)∧(x=false->kindTm g a=((kd g.sorts k:Nat):Int)∧(o.assoc=true->¬ a.op=t.op)∧(o.unit≠0->U=false))) ?_ (fun x hx=>Exists.intro _ (ai (Wk.refl _) ?_))
 ·refine gB ?_
  (have F:=@tmz;refine gC (cKa) ?_;clear F)
  by_cases hkk:kindTm g a=((kd g.sorts k:Nat):Int)
  rotate_left
  ·have hf:=hnoA i a ha fun h=>hkk (h.kind k hk)
   (have F:=ai @tmz (ai @encOpr_u (ai @hd (ai @encDcl_u (ai @hkN (ai @hk0 (ai @hkd (ai @encInt_u @hkk)))))));refine gR ?_;clear F)
   (have F:=@tmz;refine gG ?_;exact ⟨true,⟨fun _=>hf,fun h=>by cases h⟩,gw,gw⟩)
  by_cases hN:o.assoc=true∧a.op=t.op
  ·have hf:=hnoA i a ha fun h=>h.nest hN.1 hN.2
   obtain ⟨hN1,hN2⟩:=hN
   (have F:=ai @tmz (ai @encOpr_u (ai @hd (ai @encDcl_u (ai @hkN (ai @hk0 (ai @hkd (ai @encInt_u (ai @hkk (ai @hN1 @hN2)))))))));refine gR ?_;clear F)
   (have F:=ai @tmz @hN1;refine gG ?_;exact ⟨true,⟨fun _=>hf,fun h=>by cases h⟩,gw,gw⟩)
  have hne:o.assoc=true->¬ a.op=t.op:=fun h1 h2=>hN ⟨h1,h2⟩
  rcases Bool.eq_false_or_eq_true o.assoc with hac | hac
  all_goals (
   by_cases hu:o.unit=0
   ·(have F:=ai @tmz (ai @encOpr_u (ai @hd (ai @encDcl_u (ai @hkN (ai @hk0 (ai @hkd (ai @encInt_u (ai @hkk (ai @hac (ai @hne @hu))))))))));refine gR ?_;clear F)
    (have F:=ai @tmz (ai @hac @hu);refine gG ?_;exact ⟨false,⟨fun h=>(by cases h),fun _=>⟨hkk,hne,fun h=>absurd hu h⟩⟩,gw,gw⟩)
   (have F:=ai @tmz (ai @encOpr_u (ai @hd (ai @encDcl_u (ai @hkN (ai @hk0 (ai @hkd (ai @encInt_u (ai @hkk (ai @hac (ai @hne @hu))))))))));refine gC (cU) ?_;clear F)
   rcases Bool.eq_false_or_eq_true U with hub | hub
   ·have hf:=hnoA i a ha fun h=>by
     rw [hub] at hU
     simp only [decide_eq_true_eq] at hU
     exact h.unit hu ((hUiff hu).1 hU)
    (have F:=ai @tmz @hub;refine gR ?_;clear F)
    (have F:=ai @tmz (ai @hac @hu);refine gG ?_;exact ⟨true,⟨fun _=>hf,fun h=>by cases h⟩,gw,gw⟩)
   ·(have F:=ai @tmz @hub;refine gR ?_;clear F)
    (have F:=ai @tmz (ai @hac @hu);refine gG ?_;exact ⟨false,⟨fun h=>(by cases h),fun _=>⟨hkk,hne,fun _=>hub⟩⟩,gw,gw⟩))
 cases x with
 | true =>
  have hf:=hx.1 rfl
  (have F:=@hf;refine gG ?_;exact gT)
 | false =>
  obtain ⟨hkk,hne,hub⟩:=hx.2 rfl
  (have F:=@tmz;refine gG ?_;clear F)
  rcases Bool.eq_false_or_eq_true o.comm with hcm | hcm
  rotate_left
  ·have hq:=hnext hkk hne hub (fun h=>by rw [hcm] at h;cases h)
   (have F:=ai @hw1 (ai @tmz (ai @encOpr_u @hcm));refine gG ?_;exact ⟨i+1,hq,gw,gw,by omega⟩)
  rcases Nat.eq_zero_or_pos i with hi0 | hi0
  ·have hq:=hnext hkk hne hub (fun _ j p h=>by omega)
   have hi0':¬ ((0:Int) < (i:Int)):=by omega
   (have F:=ai @hw1 (ai @tmz (ai @encOpr_u (ai @hcm @hi0')));refine gG ?_;exact ⟨i+1,hq,gw,gw,by omega⟩)
  obtain ⟨j,hj⟩:∃ j,i=j+1:=⟨i - 1,by omega⟩
  obtain ⟨p,hp⟩:∃ p,t.args[j]?=some p:=⟨_,List.getElem?_eq_getElem (by omega)⟩
  have cC:=con_specCmp (k4.mem (List.mem_of_getElem? hp)) (k4.mem hm)
  have hgt0:(0:Int) < (i:Int):=by omega
  have hsub:IntKind.i64.wrap ((i:Int) - 1)=(j:Int):=wrapN (by omega) (by omega) (by omega)
  refine gB ?_
  (have F:=ai @tmz (ai @encOpr_u (ai @hcm (ai @hgt0 (ai @hsub @hp))));refine gC (cC) ?_;clear F)
  by_cases hc:0 < cmpTm p a
  ·have hf:=hnoA i a ha fun h=>by have:=h.ord hcm j p hj hp;omega
   (have F:=ai @tmz @hc;refine gR ?_;clear F)
   (have F:=@hf;refine gG ?_;exact gT)
  ·have hq:=hnext hkk hne hub (fun _ j' p' h hp'=>by
    have:j'=j:=by omega
    subst this
    rw [hp] at hp'
    injection hp' with hp'
    subst hp'
    omega)
   (have F:=ai @tmz @hc;refine gR ?_;clear F)
   (have F:=ai @hw1 (ai @tmz (ai @encOpr_u @hcm));refine gG ?_;exact ⟨i+1,hq,gw,gw,by omega⟩)
set_option maxHeartbeats 40000000 in
set_option maxRecDepth 100000 in
theorem con_l6Form_all (hokg:okSgn g) (hg:SgnOk g):∀ (n:Nat) (t:Tm),sizeTm t < n->okTm t->sizeTm t<=big->Con e0 96 [.agg (encSgn g),.agg (encTm t)] [.one (.lit (.bool (isForm g t)))]:=by
 intro n
 induction n with
 | zero=>intro t h;omega
 | succ n ih =>
  intro t hn hok hb
  have hno:¬ FormOk g t->isForm g t=false:=isForm_false
  obtain ⟨k1,k2,k3,k4⟩:=okTm_iff.1 hok
  have hsz:=sizeTm_eq t
  have hal:=sizeTms_len t.args
  have cN:=con_l6Node hg hok hb
  have hb':=hb
  unfold big at hb'
  rw [encSgn] at cN
  have ih':=fun a h1 h2 h3=>ih a h1 h2 h3
  simp only [encSgn] at ih'
  refine gI 16794175 Tryz.func96 ?_
  (have F:=ai @tmz @encSgn_u;refine gG ?_;clear F)
  refine gB ?_
  (have F:=@tmz;refine gC (cN) ?_;clear F)
  by_cases hN:isNode g t=true
  rotate_left
  ·have hf:=hno fun h=>hN (isNode_true h.node)
   have hN':isNode g t=false:=by simpa using hN
   (have F:=ai @tmz @hN';refine gR ?_;clear F)
   (have F:=@hf;refine gG ?_;exact gT)
  have hNd:=isNode_iff.1 hN
  (have F:=ai @tmz @hN;refine gR ?_;clear F)
  (have F:=@tmz;refine gG ?_;clear F)
  (have F:=@e0P;refine gL (ι:=Nat) [4,5,14,24] [] (fun i=>[(5,A.d (.one (.lit (.int .i64 i))))]) (fun i=>[]) (fun i=>i<=t.args.length∧∀ (j:Nat) a,j < i->t.args[j]?=some a->FormOk g a) (fun i=>t.args.length - i) (0) (⟨by omega,fun j a h=>absurd h (by omega)⟩) (fun i hi=>?_);clear F)
  obtain ⟨hil,hall⟩:=hi
  by_cases hl:i < t.args.length
  rotate_left
  ·have hl':¬ ((i:Int) < (t.args.length:Int)):=by omega
   have hF:∀ a∈t.args,FormOk g a:=fun a ha=>by
    obtain ⟨j,hj⟩:=List.getElem?_of_mem ha
    exact hall j a (by have:=(List.getElem?_eq_some_iff.1 hj).1;omega) hj
   by_cases h1:t.op=-1
   ·have hT:=isForm_true (g:=g) (t:=t) (FormOk_iff.2 ⟨hNd,hF,.inl h1⟩)
    (have F:=ai @tmz (ai @hl' (ai @h1 @hT));refine gG ?_;exact gT)
   obtain ⟨o,d,hA⟩:=hNd.app h1
   have cR:=con_l6Right hokg hg hA hF hok hb
   rw [encSgn] at cR
   have e:isRight g t.op t.args=isForm g t:=by
    unfold isRight isForm
    congr 1
    rw [FormOk_iff]
    exact propext ⟨fun h=>⟨hNd,hF,.inr h⟩,fun h=>h.2.2.resolve_left h1⟩
   (have F:=ai @tmz (ai @hl' @h1);refine gG ?_;clear F)
   refine gB ?_
   (have F:=ai @tmz @h1;refine gC (cR) ?_;clear F)
   (have F:=@tmz;refine gR ?_;clear F)
   (have F:=@e;refine gG ?_;exact gT)
  have hl':(i:Int) < (t.args.length:Int):=by omega
  obtain ⟨a,ha⟩:∃ a,t.args[i]?=some a:=⟨_,List.getElem?_eq_getElem hl⟩
  have hm:=List.mem_of_getElem? ha
  have hsa:=sizeTms_mem hm
  have hw1:=wrap1 (k:=i) (by omega)
  (have F:=ai @tmz (ai @hl' @ha);refine gG ?_;clear F)
  refine gB ?_
  (have F:=ai @tmz @ha;refine gC (ih' a (by omega) (k4.mem hm) (by unfold big;omega)) ?_;clear F)
  by_cases hfa:isForm g a=true
  rotate_left
  ·have hf:=hno fun h=>hfa (isForm_true ((FormOk_iff.1 h).2.1 a hm))
   have hfa':isForm g a=false:=by simpa using hfa
   (have F:=ai @tmz @hfa';refine gR ?_;clear F)
   (have F:=@hf;refine gG ?_;exact gT)
  have hq:i+1<=t.args.length∧∀ (j:Nat) a,j < i+1->t.args[j]?=some a->FormOk g a:=⟨by omega,fun j a' hj ha'=>by
   by_cases e:j=i
   ·subst e
    rw [ha] at ha'
    injection ha' with ha'
    subst ha'
    exact isForm_iff.1 hfa
   ·exact hall j a' (by omega) ha'⟩
  (have F:=ai @tmz @hfa;refine gR ?_;clear F)
  (have F:=ai @hw1 @tmz;refine gG ?_;exact ⟨i+1,hq,gw,gw,by omega⟩)
theorem con_l6Form (hokg:okSgn g) (hg:SgnOk g) {t:Tm} (hok:okTm t) (hb:sizeTm t<=big):Con e0 96 [.agg (encSgn g),.agg (encTm t)] [.one (.lit (.bool (isForm g t)))]:=con_l6Form_all hokg hg _ t (Nat.lt_succ_self _) hok hb
set_option maxHeartbeats 4000000 in
set_option maxRecDepth 100000 in
theorem con_specIsTerm (hokg:okSgn g) {t:Tm} (hok:okTm t) (hb:sizeTm t<=big):Con e0 44 [.agg (encSgn g),.agg (encTm t)] [.one (.lit (.bool (isSgn g && isTerm g t)))]:=by
 have cS:=con_specSgn hokg
 rw [encSgn] at cS
 refine gI 31 Tryz.func44 ?_
 (have F:=ai @tmz @encSgn_u;refine gG ?_;clear F)
 refine gB ?_
 (have F:=@tmz;refine gC (cS) ?_;clear F)
 by_cases hs:isSgn g=true
 rotate_left
 ·have hs':isSgn g=false:=by simpa using hs
  (have F:=ai @tmz @hs';refine gR ?_;clear F)
  (have F:=@hs';refine gG ?_;exact gT)
 have hg:=isSgn_iff.1 hs
 have cF:=con_l6Form hokg hg hok hb
 rw [encSgn] at cF
 (have F:=ai @tmz @hs;refine gC (con_l6Small hb) ?_;clear F)
 by_cases h1:sizeTm t<=60∧depthTm t<=20
 rotate_left
 ·have hf:isTerm g t=false:=isTerm_false fun h=>h1 ⟨h.size,h.depth⟩
  have h1':decide (sizeTm t<=60∧depthTm t<=20)=false:=by simp only [decide_eq_false_iff_not];exact h1
  (have F:=ai @tmz (ai @h1' @hs);refine gR ?_;clear F)
  (have F:=ai @hs @hf;refine gG ?_;exact gT)
 have h1':decide (sizeTm t<=60∧depthTm t<=20)=true:=by simp only [decide_eq_true_eq];exact h1
 have e:=isTerm_form (g:=g) h1.1 h1.2
 (have F:=ai @tmz (ai @h1' @hs);refine gC (cF) ?_;clear F)
 (have F:=ai @tmz (ai @h1' @hs);refine gR ?_;clear F)
 (have F:=ai @hs @e;refine gG ?_;exact gT)
end
end Go.Proofs.YtffmjghcpgpfpaaGreatDoor
namespace Go.Proofs.YtffmjghcpgpfpaaGreatDoor
open Go.RowKit
def flArg (o:Opr) (op:Int) (a:Tm):List Tm:=if o.assoc=true∧a.op=op then a.args else if o.unit≠0∧a.op=o.unit - 1 then [] else [a]
def flArgs (o:Opr) (op:Int) (xs:List Tm):List Tm:=xs.flatMap (flArg o op)
def KArg (g:Sgn) (o:Opr) (d:Dcl) (i:Nat) (a:Tm):Prop:=∃ k,d.args[argAt o i]?=some k∧kindTm g a=kd g.sorts k
def srtO (o:Opr) (l:List Tm):List Tm:=if o.comm=true then sortTm l else l
def appT (op:Int) (l:List Tm):Tm:=.mk op ByteArray.empty 0 l
def BigT (o:Opr) (op:Int) (l:List Tm):Prop:=(o.assoc=true∧7 < l.length)∨60 < sizeTm (appT op l)∨20 < depthTm (appT op l)
def ArB (o:Opr) (d:Dcl) (n:Nat):Prop:=(o.assoc=true∧n < 2)∨(o.assoc=false∧n≠d.args.length)
open Classical in
noncomputable def mkL (o:Opr) (op:Int) (l:List Tm):Option Tm:=if o.unit≠0∧l.length < 2 then some (l.headD (unitTm o)) else if BigT o op (srtO o l) then none else some (appT op (srtO o l))
open Classical in
noncomputable def mkO (g:Sgn) (o:Opr) (d:Dcl) (op:Int) (xs:List Tm):Option Tm:=if ArB o d xs.length then none else if ∀ (i:Nat) a,xs[i]?=some a->KArg g o d i a then mkL o op (flArgs o op xs) else none
noncomputable def mkT (g:Sgn) (op:Int) (xs:List Tm):Option Tm:=match g.ops[op.toNat]? with
 | none=>none
 | some o=>match o.decls[0]? with
  | none=>none
  | some d=>mkO g o d op xs
theorem mkT_eq {g:Sgn} {op:Int} {o:Opr} {d:Dcl} (ho:g.ops[op.toNat]?=some o) (hd:o.decls[0]?=some d) (xs:List Tm):mkT g op xs=mkO g o d op xs:=by simp only [mkT,ho,hd]
theorem flArgs_snoc {o:Opr} {op:Int} {xs:List Tm} {i:Nat} {a:Tm} (h:xs[i]?=some a):flArgs o op (xs.take (i+1))=flArgs o op (xs.take i)++flArg o op a:=by
 rw [take_snoc_of h];simp [flArgs]
theorem flArgs_len_take (o:Opr) (op:Int) (xs:List Tm) (i:Nat):(flArgs o op (xs.take i)).length<=(flArgs o op xs).length:=by
 have:flArgs o op xs=flArgs o op (xs.take i)++flArgs o op (xs.drop i):=by
  unfold flArgs
  rw [<- List.flatMap_append,List.take_append_drop]
 rw [this,List.length_append];omega
theorem srtO_perm (o:Opr) (l:List Tm):(srtO o l).Perm l:=by
 unfold srtO
 split
 ·exact sortTm_perm l
 ·exact List.Perm.refl _
theorem srtO_len (o:Opr) (l:List Tm):(srtO o l).length=l.length:=(srtO_perm o l).length_eq
theorem sizeTms_perm {l m:List Tm} (h:l.Perm m):sizeTms l=sizeTms m:=by
 induction h with
 | nil=>rfl
 | cons x h ih=>simp only [sizeTms,ih]
 | swap x y l=>simp only [sizeTms];omega
 | trans h1 h2 a b=>rw [a,b]
theorem depthTms_perm {l m:List Tm} (h:l.Perm m):depthTms l=depthTms m:=by
 induction h with
 | nil=>rfl
 | cons x h ih=>simp only [depthTms,ih]
 | swap x y l=>simp only [depthTms];omega
 | trans h1 h2 a b=>rw [a,b]
theorem Opr.two {g:Sgn} (hg:SgnOk g) {i:Nat} {o:Opr} {d:Dcl} (ho:g.ops[i]?=some o) (hd:o.decls[0]?=some d) (h:o.assoc=true∨o.comm=true∨o.unit≠0):∃ k1 k2,d.args=[k1,k2]∧kd g.sorts k1=kd g.sorts k2∧((o.assoc=true∨o.unit≠0)->kd g.sorts k1=kd g.sorts d.res):=by
 have h2:=(hg.axs o (List.mem_of_getElem? ho)).two h d hd
 obtain ⟨a,b,hab⟩:=two_of h2.1
 have h3:=h2.2 a b (by rw [hab];rfl) (by rw [hab];rfl)
 exact ⟨a,b,hab,h3.1,h3.2.1⟩
theorem unitTm_ok {g:Sgn} (hg:SgnOk g) {i:Nat} {o:Opr} {d:Dcl} (ho:g.ops[i]?=some o) (hd:o.decls[0]?=some d) (hu:o.unit≠0):TermOk g (unitTm o)∧kindTm g (unitTm o)=kd g.sorts d.res:=by
 have hax:=hg.axs o (List.mem_of_getElem? ho)
 have hlo:=hax.lo
 have hhi:=hax.hi
 obtain ⟨k1,k2,hk,_⟩:=Opr.two hg ho hd (.inr (.inr hu))
 obtain ⟨p,hp⟩:∃ p,g.ops[o.unit.toNat - 1]?=some p:=⟨_,List.getElem?_eq_getElem (by omega)⟩
 obtain ⟨u,hfu,_⟩:=hg.first hp
 have h2:=((hax.two (.inr (.inr hu)) d hd).2 k1 k2 (by rw [hk];rfl) (by rw [hk];rfl)).2.2 hu p u hp hfu
 have e:unitTm o=.mk (o.unit - 1) ByteArray.empty 0 []:=by simp only [unitTm,if_neg hu]
 have hop:((o.unit - 1:Int)).toNat=o.unit.toNat - 1:=by omega
 have has:p.assoc=false:=by
  cases hpa:p.assoc with
  | false=>rfl
  | true=>have:=((hg.axs p (List.mem_of_getElem? hp)).two (.inl hpa) u hfu).1;omega
 have hA:AppOk g (unitTm o) p u:=by
  rw [e]
  exact ⟨by simp only [Tm.op];omega,by simp only [Tm.op];rw [hop];exact hp,hfu,rfl,rfl,fun h=>(by rw [has] at h;cases h),fun _=>by simp only [Tm.args,List.length_nil];omega⟩
 refine ⟨⟨?_,?_,FormOk_iff.2 ⟨.inr ⟨p,u,hA⟩,?_,.inr ?_⟩⟩,?_⟩
 ·rw [e];simp only [sizeTm,sizeTms];omega
 ·rw [e];simp only [depthTm,depthTms];omega
 ·rw [e];intro a ha;simp [Tm.args] at ha
 ·rw [e];intro o' d' _ _ j a ha;simp [Tm.args] at ha
 ·have hneg:¬ ((unitTm o).op=-1):=hA.op
  rw [kindTm,if_neg hneg,e]
  simp only [Tm.op]
  rw [resOf_eq (by rw [hop];exact hp) hfu,h2.2]
structure FlOk (g:Sgn) (o:Opr) (op:Int) (b:Tm):Prop where
 form:FormOk g b
 size:sizeTm b<=60
 depth:depthTm b<=20
 nest:o.assoc=true->b.op≠op
 unit:o.unit≠0->b.op≠o.unit - 1
theorem fl_ok {g:Sgn} (hg:SgnOk g) {op:Int} {o:Opr} {d:Dcl} (h0:0<=op) (ho:g.ops[op.toNat]?=some o) (hd:o.decls[0]?=some d) {a:Tm} (ha:TermOk g a):∀ b∈flArg o op a,FlOk g o op b:=by
 intro b hb
 unfold flArg at hb
 split at hb
 ·rename_i h
  obtain ⟨h1,h2⟩:=h
  obtain ⟨_,f2,f3⟩:=FormOk_iff.1 ha.form
  have hR:=f3.resolve_left (by omega)
  rw [h2] at hR
  obtain ⟨j,hj⟩:=List.getElem?_of_mem hb
  have hA:=hR o d ho hd j b hj
  have s1:=sizeTms_mem hb
  have s2:=depthTms_mem hb
  have s3:=ha.size
  have s4:=ha.depth
  rw [sizeTm_eq] at s3
  rw [depthTm_eq] at s4
  exact ⟨f2 b hb,by omega,by omega,hA.nest,hA.unit⟩
 ·rename_i h
  split at hb
  ·simp at hb
  ·rename_i h'
   simp only [List.mem_singleton] at hb
   subst hb
   exact ⟨ha.form,ha.size,ha.depth,fun h1 h2=>h ⟨h1,h2⟩,fun h1 h2=>h' ⟨h1,h2⟩⟩
theorem flArgs_ok {g:Sgn} (hg:SgnOk g) {op:Int} {o:Opr} {d:Dcl} (h0:0<=op) (ho:g.ops[op.toNat]?=some o) (hd:o.decls[0]?=some d) {xs:List Tm} (ha:∀ a∈xs,TermOk g a):∀ b∈flArgs o op xs,FlOk g o op b:=by
 intro b hb
 obtain ⟨a,h1,h2⟩:=List.mem_flatMap.1 hb
 exact fl_ok hg h0 ho hd (ha a h1) b h2
theorem fl_kind {g:Sgn} (hg:SgnOk g) {op:Int} {o:Opr} {d:Dcl} {k1 k2:Int} (h0:0<=op) (ho:g.ops[op.toNat]?=some o) (hd:o.decls[0]?=some d) (hk:d.args=[k1,k2]) (hkk:kd g.sorts k1=kd g.sorts k2) {a:Tm} (ha:TermOk g a) {i:Nat} (hK:KArg g o d i a):∀ b∈flArg o op a,kindTm g b=kd g.sorts k1:=by
 have hat:∀ (j:Nat) k,d.args[j]?=some k->kd g.sorts k=kd g.sorts k1:=fun j k h=>by
  rw [hk] at h
  match j,h with
  | 0,h=>simp only [List.getElem?_cons_zero,Option.some.injEq] at h;rw [h]
  | 1,h=>simp only [List.getElem?_cons_succ,List.getElem?_cons_zero,Option.some.injEq] at h;rw [<- h,hkk]
  | j+2,h=>simp at h
 intro b hb
 unfold flArg at hb
 split at hb
 ·rename_i h
  obtain ⟨h1,h2⟩:=h
  obtain ⟨_,f2,f3⟩:=FormOk_iff.1 ha.form
  have hR:=f3.resolve_left (by omega)
  rw [h2] at hR
  obtain ⟨j,hj⟩:=List.getElem?_of_mem hb
  exact (hR o d ho hd j b hj).kind k1 (by rw [argAt,if_pos h1,hk];rfl)
 ·split at hb
  ·simp at hb
  ·simp only [List.mem_singleton] at hb
   subst hb
   obtain ⟨k,h1,h2⟩:=hK
   rw [h2,hat _ _ h1]
theorem flArgs_kind {g:Sgn} (hg:SgnOk g) {op:Int} {o:Opr} {d:Dcl} {k1 k2:Int} (h0:0<=op) (ho:g.ops[op.toNat]?=some o) (hd:o.decls[0]?=some d) (hk:d.args=[k1,k2]) (hkk:kd g.sorts k1=kd g.sorts k2) {xs:List Tm} (ha:∀ a∈xs,TermOk g a) (hK:∀ (i:Nat) a,xs[i]?=some a->KArg g o d i a):∀ b∈flArgs o op xs,kindTm g b=kd g.sorts k1:=by
 intro b hb
 obtain ⟨a,h1,h2⟩:=List.mem_flatMap.1 hb
 obtain ⟨i,hi⟩:=List.getElem?_of_mem h1
 exact fl_kind hg h0 ho hd hk hkk (ha a h1) (hK i a hi) b h2
theorem flArg_len {o:Opr} {op:Int} (has:o.assoc=false) (a:Tm):(flArg o op a).length<=1∧((flArg o op a).length=1->flArg o op a=[a]):=by
 unfold flArg
 rw [if_neg fun h=>by rw [has] at h;cases h.1]
 split <;> simp
theorem flArgs_short {o:Opr} {op:Int} (has:o.assoc=false):∀ (xs:List Tm),(flArgs o op xs).length<=xs.length∧((flArgs o op xs).length=xs.length->flArgs o op xs=xs)
 | []=>⟨Nat.le_refl _,fun _=>rfl⟩
 | a::xs=>by
  obtain ⟨i1,i2⟩:=flArgs_short (op:=op) has xs
  obtain ⟨j1,j2⟩:=flArg_len (op:=op) has a
  have e:flArgs o op (a::xs)=flArg o op a++flArgs o op xs:=rfl
  rw [e,List.length_append,List.length_cons]
  refine ⟨by omega,fun h=>?_⟩
  rw [j2 (by omega),i2 (by omega)];rfl
theorem flArgs_free {o:Opr} {op:Int} (has:o.assoc=false) (hu:o.unit=0) (xs:List Tm):flArgs o op xs=xs:=by
 induction xs with
 | nil=>rfl
 | cons a xs ih =>
  have e:flArgs o op (a::xs)=flArg o op a++flArgs o op xs:=rfl
  rw [e,ih]
  unfold flArg
  rw [if_neg (fun h=>by rw [has] at h;cases h.1),if_neg fun h=>h.1 hu];rfl
theorem flArgs_two {o:Opr} {op:Int} {g:Sgn} (hg:SgnOk g) (h0:0<=op) (ho:g.ops[op.toNat]?=some o) (hac:o.assoc=true) (hu:o.unit=0):∀ {xs:List Tm},(∀ a∈xs,TermOk g a)->xs.length<=(flArgs o op xs).length
 | [],_=>Nat.le_refl _
 | a::xs,ha=>by
  have ih:=flArgs_two hg h0 ho hac hu (xs:=xs) fun x hx=>ha x (List.mem_cons_of_mem _ hx)
  have e:flArgs o op (a::xs)=flArg o op a++flArgs o op xs:=rfl
  rw [e,List.length_append,List.length_cons]
  have:1<=(flArg o op a).length:=by
   unfold flArg
   split
   ·rename_i h
    obtain ⟨o',d',hA⟩:=(ha a List.mem_cons_self).form.node.app (by omega)
    have:o'=o:=by have:=hA.at';rw [h.2,ho] at this;injection this with this;exact this.symm
    subst this
    have:=(hA.asc hac).1
    omega
   ·rw [if_neg fun h=>h.1 hu];simp
  omega
theorem mkO_ok {g:Sgn} (hg:SgnOk g) {op:Int} {o:Opr} {d:Dcl} (h0:0<=op) (ho:g.ops[op.toNat]?=some o) (hd:o.decls[0]?=some d) {xs:List Tm} (ha:∀ a∈xs,TermOk g a) {t:Tm} (h:mkO g o d op xs=some t):TermOk g t∧kindTm g t=kd g.sorts d.res:=by
 unfold mkO at h
 split at h
 ·cases h
 rename_i hAr
 split at h
 rotate_left
 ·cases h
 rename_i hK
 have hfl:=flArgs_ok hg h0 ho hd ha
 unfold mkL at h
 split at h
 ·rename_i hu
  obtain ⟨hu,hl⟩:=hu
  injection h with h
  have hU:=unitTm_ok hg ho hd hu
  obtain ⟨k1,k2,hk,hkk,hkr⟩:=Opr.two hg ho hd (.inr (.inr hu))
  have hfk:=flArgs_kind hg h0 ho hd hk hkk ha hK
  cases hf:flArgs o op xs with
  | nil=>rw [hf] at h;simp only [List.headD] at h;subst h;exact hU
  | cons b bs =>
   rw [hf] at h hfl hfk
   simp only [List.headD] at h
   subst h
   have hb:=hfl b List.mem_cons_self
   exact ⟨⟨hb.size,hb.depth,hb.form⟩,by rw [hfk b List.mem_cons_self,hkr (.inr hu)]⟩
 ·rename_i hu
  split at h
  ·cases h
  rename_i hB
  injection h with h
  subst h
  have hB1:¬ (o.assoc=true∧7 < (srtO o (flArgs o op xs)).length):=fun q=>hB (.inl q)
  have hB2:¬ 60 < sizeTm (appT op (srtO o (flArgs o op xs))):=fun q=>hB (.inr (.inl q))
  have hB3:¬ 20 < depthTm (appT op (srtO o (flArgs o op xs))):=fun q=>hB (.inr (.inr q))
  have hp:=srtO_perm o (flArgs o op xs)
  have hsl:=hp.length_eq
  have hmem:∀ b,b∈srtO o (flArgs o op xs) ↔ b∈flArgs o op xs:=fun b=>hp.mem_iff
  have hneg:¬ ((appT op (srtO o (flArgs o op xs))).op=-1):=by simp only [appT,Tm.op];omega
  refine ⟨⟨by omega,by omega,FormOk_iff.2 ⟨.inr ⟨o,d,h0,ho,hd,rfl,rfl,fun hac=>?_,fun has=>?_⟩,fun a hm=>(hfl a ((hmem a).1 hm)).form,.inr ?_⟩⟩,?_⟩
  ·simp only [appT,Tm.args]
   have:¬ (xs.length < 2):=fun q=>hAr (.inl ⟨hac,q⟩)
   by_cases hu0:o.unit=0
   ·have:=flArgs_two hg h0 ho hac hu0 ha
    exact ⟨by omega,by have:¬ (7 < (srtO o (flArgs o op xs)).length):=fun q=>hB1 ⟨hac,q⟩;omega⟩
   ·exact ⟨by have:¬ ((flArgs o op xs).length < 2):=fun q=>hu ⟨hu0,q⟩;omega,by have:¬ (7 < (srtO o (flArgs o op xs)).length):=fun q=>hB1 ⟨hac,q⟩;omega⟩
  ·simp only [appT,Tm.args]
   have hlen:xs.length=d.args.length:=Classical.byContradiction fun q=>hAr (.inr ⟨has,q⟩)
   rw [hsl]
   by_cases hu0:o.unit=0
   ·rw [flArgs_free has hu0,hlen]
   ·obtain ⟨k1,k2,hk,_⟩:=Opr.two hg ho hd (.inr (.inr hu0))
    have h1:=(flArgs_short (op:=op) has xs).1
    have:¬ ((flArgs o op xs).length < 2):=fun q=>hu ⟨hu0,q⟩
    rw [hlen,hk] at h1
    rw [hk]
    simp only [List.length_cons,List.length_nil] at h1 ⊢
    omega
  ·intro o' d' ho' hd' i a hi
   simp only [appT,Tm.op] at ho'
   rw [ho] at ho'
   injection ho' with ho'
   subst ho'
   rw [hd] at hd'
   injection hd' with hd'
   subst hd'
   simp only [appT,Tm.args] at hi ⊢
   have hm:=List.mem_of_getElem? hi
   have hf:=hfl a ((hmem a).1 hm)
   refine ⟨fun k hk=>?_,hf.nest,hf.unit,fun hc j p hij hj=>?_⟩
   ·by_cases hax:o.assoc=true∨o.comm=true∨o.unit≠0
    ·obtain ⟨k1,k2,hka,hkk,_⟩:=Opr.two hg ho hd hax
     have hfk:=flArgs_kind hg h0 ho hd hka hkk ha hK a ((hmem a).1 hm)
     rw [hfk]
     have:kd g.sorts k=kd g.sorts k1:=by
      generalize argAt o i=n at hk
      rw [hka] at hk
      match n,hk with
      | 0,hk=>simp only [List.getElem?_cons_zero,Option.some.injEq] at hk;rw [hk]
      | 1,hk=>simp only [List.getElem?_cons_succ,List.getElem?_cons_zero,Option.some.injEq] at hk;rw [<- hk,hkk]
      | n+2,hk=>simp at hk
     rw [this]
    ·have has:o.assoc=false:=by cases h:o.assoc with | false=>rfl | true=>exact absurd (.inl h) hax
     have hc:o.comm=false:=by cases h:o.comm with | false=>rfl | true=>exact absurd (.inr (.inl h)) hax
     have hu0:o.unit=0:=Classical.byContradiction fun q=>hax (.inr (.inr q))
     rw [srtO,if_neg (by rw [hc];simp),flArgs_free has hu0] at hi
     obtain ⟨k',h1,h2⟩:=hK i a hi
     rw [hk] at h1
     injection h1 with h1
     rw [h2,h1]
   ·rw [srtO,if_pos hc] at hi hj
    exact (sortTm_up _).get (by omega) hj hi
  ·rw [kindTm,if_neg hneg]
   simp only [appT,Tm.op]
   rw [resOf_eq ho hd]
theorem FormOk.ok {g:Sgn} (hg:SgnOk g):∀ (n:Nat) (t:Tm),sizeTm t < n->FormOk g t->okTm t:=by
 intro n
 induction n with
 | zero=>intro t h;omega
 | succ n ih =>
  intro t hn hf
  obtain ⟨h1,h2,_⟩:=FormOk_iff.1 hf
  have hargs:okTms t.args:=by
   have:∀ l:List Tm,(∀ a∈l,okTm a)->okTms l:=fun l=>by
    induction l with
    | nil=>intro _;trivial
    | cons x xs ih=>intro h;exact ⟨h x List.mem_cons_self,ih fun a ha=>h a (List.mem_cons_of_mem _ ha)⟩
   refine this _ fun a ha=>ih a ?_ (h2 a ha)
   have:=sizeTms_mem ha
   rw [sizeTm_eq] at hn
   omega
  rw [okTm_iff]
  have hsn:g.sorts.names.length<=8:=hg.sorts.n8
  rcases h1 with hv | ⟨o,d,hA⟩
  ·obtain ⟨v1,v2,v3,v4,v5⟩:=hv
   have:t.name.size<=12:=by unfold isName at v2;simp only [Bool.and_eq_true,decide_eq_true_eq] at v2;exact v2.1.1.1.2
   exact ⟨by unfold I64;omega,by unfold maxLen;omega,by unfold I64;omega,hargs⟩
  ·have h3:=hA.lo
   have h4:=(List.getElem?_eq_some_iff.1 hA.at').1
   have h5:=hg.len
   rw [hA.nm,hA.so]
   exact ⟨by unfold I64;omega,by simp [maxLen],by unfold I64;omega,hargs⟩
theorem TermOk.ok {g:Sgn} (hg:SgnOk g) {t:Tm} (h:TermOk g t):okTm t:=FormOk.ok hg _ t (Nat.lt_succ_self _) h.form
end Go.Proofs.YtffmjghcpgpfpaaGreatDoor
namespace Go.Proofs.YtffmjghcpgpfpaaGreatDoor
open Go.RowKit
theorem TermOk.arg {g:Sgn} {t a:Tm} (h:TermOk g t) (ha:a∈t.args):TermOk g a:=by
 have s1:=sizeTms_mem ha
 have s2:=depthTms_mem ha
 have s3:=h.size
 have s4:=h.depth
 rw [sizeTm_eq] at s3
 rw [depthTm_eq] at s4
 exact ⟨by omega,by omega,(FormOk_iff.1 h.form).2.1 a ha⟩
theorem TermOk.app {g:Sgn} {t a:Tm} (h:TermOk g t) (ha:a∈t.args):∃ o d,AppOk g t o d:=by
 rcases h.form.node with hv | h
 ·rw [hv.2.2.2.2] at ha;cases ha
 ·exact h
theorem mkT_ok {g:Sgn} (hg:SgnOk g) {op:Int} (h0:0<=op) {xs:List Tm} (ha:∀ a∈xs,TermOk g a) {t:Tm} (h:mkT g op xs=some t):TermOk g t:=by
 unfold mkT at h
 cases ho:g.ops[op.toNat]? with
 | none=>rw [ho] at h;cases h
 | some o =>
  rw [ho] at h
  simp only at h
  cases hd:o.decls[0]? with
  | none=>rw [hd] at h;cases h
  | some d =>
   rw [hd] at h
   exact (mkO_ok hg h0 ho hd ha h).1
theorem args_len {g:Sgn} {t:Tm} (h:TermOk g t):t.args.length<=60:=by
 have h1:=h.size
 rw [sizeTm_eq] at h1
 have:=sizeTms_len t.args
 omega
end Go.Proofs.YtffmjghcpgpfpaaGreatDoor
namespace Go.Proofs.YtffmjghcpgpfpaaGreatDoor
open Go.RowKit
theorem okRow_Binding {r:List C} (h:okRow (fieldsOf .binding) r):∃ (i0:Int) (t1:ByteArray) (i2:Int) (r3:List (List C)) (i4:Int) (t5:ByteArray) (i6:Int) (r7:List (List C)),r=[.lit (.int .i64 i0),.lit (.string t1),.lit (.int .i64 i2),.sl r3,.lit (.int .i64 i4),.lit (.string t5),.lit (.int .i64 i6),.sl r7]∧I64 i0∧t1.size<=maxLen∧I64 i2∧okRows (fieldsOf .term) r3∧I64 i4∧t5.size<=maxLen∧I64 i6∧okRows (fieldsOf .term) r7:=by
 obtain ⟨c0,c1,c2,c3,c4,c5,c6,c7,rfl⟩:=len8 h.len
 simp only [fieldsOf,termF,occF,sortsF,sigF,moduleF,algF,List.cons_append,List.nil_append,okRow,and_true] at h
 obtain ⟨h0,h1,h2,h3,h4,h5,h6,h7⟩:=h
 obtain ⟨i0,rfl,g0⟩:=okC_int h0
 obtain ⟨t1,rfl,g1⟩:=okC_str h1
 obtain ⟨i2,rfl,g2⟩:=okC_int h2
 obtain ⟨r3,rfl,g3⟩:=okC_sl h3
 obtain ⟨i4,rfl,g4⟩:=okC_int h4
 obtain ⟨t5,rfl,g5⟩:=okC_str h5
 obtain ⟨i6,rfl,g6⟩:=okC_int h6
 obtain ⟨r7,rfl,g7⟩:=okC_sl h7
 exact ⟨i0,t1,i2,r3,i4,t5,i6,r7,rfl,g0,g1,g2,g3,g4,g5,g6,g7⟩
theorem repVals_Binding {w:World} {S:Nat->Prop} {i0:Int} {t1:ByteArray} {i2:Int} {r3:List (List C)} {i4:Int} {t5:ByteArray} {i6:Int} {r7:List (List C)} {us:List Value} (h:RepVals w S [.lit (.int .i64 i0),.lit (.string t1),.lit (.int .i64 i2),.sl r3,.lit (.int .i64 i4),.lit (.string t5),.lit (.int .i64 i6),.sl r7] us):∃ v3 v7,us=[.int .i64 i0,.string t1,.int .i64 i2,v3,.int .i64 i4,.string t5,.int .i64 i6,v7]∧Rep w S (.sl r3) v3∧Rep w S (.sl r7) v7:=by
 obtain ⟨u0,u1,u2,u3,u4,u5,u6,u7,rfl⟩:=len8 h.len
 simp only [RepVals,Rep.lit_iff,and_true] at h
 obtain ⟨rfl,rfl,rfl,e3,rfl,rfl,rfl,e7⟩:=h
 exact ⟨u3,u7,rfl,e3,e7⟩
def szBindingC (row:List C):Prop:=∀ (S:Nat->Prop) (us:List Value) (left:Int) (w:World),okRow (fieldsOf .binding) row->RepVals w S row us->0<=left->left<=1048576 ->
 Calls Tryz.prog 57 #[.agg us.toArray,.int .i64 left] w fun e w'=>e=.returned (.int .i64 (sub left (bulkRow row)))∧Below w.heap.size w w'
def eqBindingC (row:List C):Prop:=∀ (S S':Nat->Prop) (us us':List Value) (w:World),okRow (fieldsOf .binding) row->RepVals w S row us->RepVals w S' row us' ->
 Calls Tryz.prog 63 #[.agg us.toArray,.agg us'.toArray] w fun e w'=>e=.returned (.bool true)∧Below w.heap.size w w'
def toBindingC (row:List C):Prop:=∀ (S:Nat->Prop) (us:List Value) (w:World),okRow (fieldsOf .binding) row->RepVals w S row us->bulkRow row<=1048576 ->
 Calls Tryz.prog 59 #[.agg us.toArray] w fun e w'=>∃ us':List Value,e=.returned (.agg us'.toArray)∧OwnVals w' row (fun x=>w.heap.size<=x∧x < w'.heap.size) us'∧Below w.heap.size w w'
def szBindingSC (rows:List (List C)):Prop:=∀ (S:Nat->Prop) (v:Value) (left:Int) (w:World),okRows (fieldsOf .binding) rows->Rep w S (.sl rows) v->0<=left->left<=1048576 ->
 Calls Tryz.prog 19 #[v,.int .i64 left] w fun e w'=>e=.returned (.int .i64 (sub left (rows.length+bulkRows rows)))∧Below w.heap.size w w'
def eqBindingSC (rows:List (List C)):Prop:=∀ (S S':Nat->Prop) (v v':Value) (w:World),okRows (fieldsOf .binding) rows->Rep w S (.sl rows) v->Rep w S' (.sl rows) v' ->
 Calls Tryz.prog 23 #[v,v'] w fun e w'=>e=.returned (.bool true)∧Below w.heap.size w w'
def toBindingSC (rows:List (List C)):Prop:=∀ (S:Nat->Prop) (v:Value) (w:World),okRows (fieldsOf .binding) rows->Rep w S (.sl rows) v->rows.length+bulkRows rows<=1048576 ->
 Calls Tryz.prog 21 #[v] w fun e w'=>∃ v',e=.returned v'∧Own w' (.sl rows) (fun x=>w.heap.size<=x∧x < w'.heap.size) v'∧Below w.heap.size w w'
set_option maxHeartbeats 1000000 in
theorem szBinding_of (row:List C):szBindingC row:=by
 intro S us left w hok hv h0 h1
 obtain ⟨i0,t1,i2,r3,i4,t5,i6,r7,rfl,g0,g1,g2,g3,g4,g5,g6,g7⟩:=okRow_Binding hok
 obtain ⟨v3,v7,rfl,e3,e7⟩:=repVals_Binding hv
 have HC0:=Lib.hid (szTerm_any [.lit (.int .i64 i0),.lit (.string t1),.lit (.int .i64 i2),.sl r3])
 have HC4:=Lib.hid (szTerm_any [.lit (.int .i64 i4),.lit (.string t5),.lit (.int .i64 i6),.sl r7])
 have HB:=Lib.hid (show bulkRow [.lit (.int .i64 i0),.lit (.string t1),.lit (.int .i64 i2),.sl r3,.lit (.int .i64 i4),.lit (.string t5),.lit (.int .i64 i6),.sl r7]=(bulkRow [.lit (.int .i64 i0),.lit (.string t1),.lit (.int .i64 i2),.sl r3])+(bulkRow [.lit (.int .i64 i4),.lit (.string t5),.lit (.int .i64 i6),.sl r7]) from by simp only [bulkRow,bulkC];omega)
 have G0:=Lib.hid g0
 have G1:=Lib.hid g1
 have G2:=Lib.hid g2
 have G3:=Lib.hid g3
 have G4:=Lib.hid g4
 have G5:=Lib.hid g5
 have G6:=Lib.hid g6
 have G7:=Lib.hid g7
 clear g0 g1 g2 g3 g4 g5 g6 g7 hok
 have E3:=Lib.hid e3
 have E7:=Lib.hid e7
 clear hv e3 e7
 generalize hrow:bulkRow [.lit (.int .i64 i0),.lit (.string t1),.lit (.int .i64 i2),.sl r3,.lit (.int .i64 i4),.lit (.string t5),.lit (.int .i64 i6),.sl r7]=total at HB ⊢
 clear hrow
 have hbw:=(Below.refl w.heap.size w).alloc (Nat.le_refl _) (.cells #[.int .i64 i0,.string t1,.int .i64 i2,v3,.int .i64 i4,.string t5,.int .i64 i6,v7] 100)
 go_enter Tryz.func57,Tryz.ntmps57
 go_wp2_with fail
 by_cases q0:left < ((bulkRow [.lit (.int .i64 i0),.lit (.string t1),.lit (.int .i64 i2),.sl r3]):Nat)
 ·refine (HC0.out S _ _ _ (mkRow_Term G0.out G1.out G2.out G3.out) (mkVals_Term (E3.out.below hbw)) (by omega) (by omega)).mono ?_
  rw [sub_neg (by omega)]
  rintro e w1 ⟨rfl,hb1⟩
  go_wp2
  go_ret
  exact ⟨ret_int (a:=-1) (sub_neg (by have:=HB.out;omega)).symm,hbw.trans (hb1.mono hbw.size)⟩
 refine (HC0.out S _ _ _ (mkRow_Term G0.out G1.out G2.out G3.out) (mkVals_Term (E3.out.below hbw)) (by omega) (by omega)).mono ?_
 rw [sub_pos (by omega)]
 rintro e w1 ⟨rfl,hb1⟩
 obtain ⟨hc1,hf1⟩:=bcell hb1
 have hz1:w.heap.size < w1.heap.size:=(by have:=hb1.size;(try simp at this);omega)
 replace hbw:=hbw.trans (hb1.mono hbw.size)
 go_wp2_with fail
 by_cases q4:(left - (((bulkRow [.lit (.int .i64 i0),.lit (.string t1),.lit (.int .i64 i2),.sl r3]):Nat):Int)) < ((bulkRow [.lit (.int .i64 i4),.lit (.string t5),.lit (.int .i64 i6),.sl r7]):Nat)
 ·refine (HC4.out S _ _ _ (mkRow_Term G4.out G5.out G6.out G7.out) (mkVals_Term (E7.out.below hbw)) (by omega) (by omega)).mono ?_
  rw [sub_neg (by omega)]
  rintro e w2 ⟨rfl,hb2⟩
  go_wp2
  go_ret
  exact ⟨ret_int (a:=-1) (sub_neg (by have:=HB.out;omega)).symm,hbw.trans (hb2.mono hbw.size)⟩
 refine (HC4.out S _ _ _ (mkRow_Term G4.out G5.out G6.out G7.out) (mkVals_Term (E7.out.below hbw)) (by omega) (by omega)).mono ?_
 rw [sub_pos (by omega)]
 rintro e w2 ⟨rfl,hb2⟩
 obtain ⟨hc2,hf2⟩:=bcell hb2
 have hz2:w.heap.size < w2.heap.size:=(by have:=hb2.size;(try simp at this);omega)
 replace hbw:=hbw.trans (hb2.mono hbw.size)
 go_wp2
 go_ret
 exact ⟨ret_int (by have:=HB.out;rw [sub_pos (by omega)];omega),hbw⟩
set_option maxHeartbeats 1000000 in
theorem eqBinding_of (row:List C):eqBindingC row:=by
 intro S S' us us' w hok hv hv'
 obtain ⟨i0,t1,i2,r3,i4,t5,i6,r7,rfl,g0,g1,g2,g3,g4,g5,g6,g7⟩:=okRow_Binding hok
 obtain ⟨v3,v7,rfl,e3,e7⟩:=repVals_Binding hv
 obtain ⟨x3,x7,rfl,d3,d7⟩:=repVals_Binding hv'
 have HC0:=Lib.hid (eqTerm_any [.lit (.int .i64 i0),.lit (.string t1),.lit (.int .i64 i2),.sl r3])
 have HC4:=Lib.hid (eqTerm_any [.lit (.int .i64 i4),.lit (.string t5),.lit (.int .i64 i6),.sl r7])
 have G0:=Lib.hid g0
 have G1:=Lib.hid g1
 have G2:=Lib.hid g2
 have G3:=Lib.hid g3
 have G4:=Lib.hid g4
 have G5:=Lib.hid g5
 have G6:=Lib.hid g6
 have G7:=Lib.hid g7
 clear g0 g1 g2 g3 g4 g5 g6 g7 hok
 have E3:=Lib.hid e3
 have D3:=Lib.hid d3
 have E7:=Lib.hid e7
 have D7:=Lib.hid d7
 clear hv hv' e3 d3 e7 d7
 have hbw:=((Below.refl w.heap.size w).alloc (Nat.le_refl _) (.cells #[.int .i64 i0,.string t1,.int .i64 i2,v3,.int .i64 i4,.string t5,.int .i64 i6,v7] 102)).alloc (by simp) (.cells #[.int .i64 i0,.string t1,.int .i64 i2,x3,.int .i64 i4,.string t5,.int .i64 i6,x7] 102)
 go_enter Tryz.func63,Tryz.ntmps63
 go_wp2_with fail
 refine (HC0.out S S' _ _ _ (mkRow_Term G0.out G1.out G2.out G3.out) (mkVals_Term (E3.out.below hbw)) (mkVals_Term (D3.out.below hbw))).mono ?_
 rintro e w1 ⟨rfl,hb1⟩
 obtain ⟨hc1,hf1⟩:=bcell hb1
 have hz1:w.heap.size+1 < w1.heap.size:=(by have:=hb1.size;(try simp at this);omega)
 have ha1:w.heap.size < w1.heap.size:=by omega
 replace hbw:=hbw.trans (hb1.mono hbw.size)
 go_wp2_with fail
 refine (HC4.out S S' _ _ _ (mkRow_Term G4.out G5.out G6.out G7.out) (mkVals_Term (E7.out.below hbw)) (mkVals_Term (D7.out.below hbw))).mono ?_
 rintro e w2 ⟨rfl,hb2⟩
 obtain ⟨hc2,hf2⟩:=bcell hb2
 have hz2:w.heap.size+1 < w2.heap.size:=(by have:=hb2.size;(try simp at this);omega)
 have ha2:w.heap.size < w2.heap.size:=by omega
 replace hbw:=hbw.trans (hb2.mono hbw.size)
 go_wp2
 go_ret
 exact ⟨rfl,hbw⟩
set_option maxHeartbeats 2000000 in
theorem toBinding_of (row:List C):toBindingC row:=by
 intro S us w hok hv hlen
 obtain ⟨i0,t1,i2,r3,i4,t5,i6,r7,rfl,g0,g1,g2,g3,g4,g5,g6,g7⟩:=okRow_Binding hok
 obtain ⟨v3,v7,rfl,e3,e7⟩:=repVals_Binding hv
 have HC0:=Lib.hid (toTerm_any [.lit (.int .i64 i0),.lit (.string t1),.lit (.int .i64 i2),.sl r3])
 have HC4:=Lib.hid (toTerm_any [.lit (.int .i64 i4),.lit (.string t5),.lit (.int .i64 i6),.sl r7])
 have G0:=Lib.hid g0
 have G1:=Lib.hid g1
 have G2:=Lib.hid g2
 have G3:=Lib.hid g3
 have G4:=Lib.hid g4
 have G5:=Lib.hid g5
 have G6:=Lib.hid g6
 have G7:=Lib.hid g7
 clear g0 g1 g2 g3 g4 g5 g6 g7 hok
 have E3:=Lib.hid e3
 have E7:=Lib.hid e7
 clear hv e3 e7
 have hl0:(bulkRow [.lit (.int .i64 i0),.lit (.string t1),.lit (.int .i64 i2),.sl r3])<=1048576:=by
  have e:(bulkRow [.lit (.int .i64 i0),.lit (.string t1),.lit (.int .i64 i2),.sl r3])<=bulkRow [.lit (.int .i64 i0),.lit (.string t1),.lit (.int .i64 i2),.sl r3,.lit (.int .i64 i4),.lit (.string t5),.lit (.int .i64 i6),.sl r7]:=by simp only [bulkRow,bulkC];omega
  exact Nat.le_trans e hlen
 have hl4:(bulkRow [.lit (.int .i64 i4),.lit (.string t5),.lit (.int .i64 i6),.sl r7])<=1048576:=by
  have e:(bulkRow [.lit (.int .i64 i4),.lit (.string t5),.lit (.int .i64 i6),.sl r7])<=bulkRow [.lit (.int .i64 i0),.lit (.string t1),.lit (.int .i64 i2),.sl r3,.lit (.int .i64 i4),.lit (.string t5),.lit (.int .i64 i6),.sl r7]:=by simp only [bulkRow,bulkC];omega
  exact Nat.le_trans e hlen
 clear hlen
 go_enter Tryz.func59,Tryz.ntmps59
 go_wp2_with fail
 refine (HC0.out S _ _ (mkRow_Term G0.out G1.out G2.out G3.out) (by exact mkVals_Term (E3.out.below (by repeat (first | refine Below.alloc ?_ (by simp;try omega) _ | exact Below.refl _ _)))) hl0).mono ?_
 rintro e w1 ⟨ys0,rfl,hown0,hb1⟩
 obtain ⟨y3,rfl,f3⟩:=repVals_Term (OwnVals.rep _ _ (fun _=>True) _ (fun _ _=>trivial) hown0)
 obtain ⟨A3,n3,cap3,rfl,_,_,_⟩:=f3.form
 clear f3
 have hz1:=hb1.size
 simp at hz1 hown0
 have HOWN0:=Lib.hid hown0
 clear hown0
 have hbw1:Below w.heap.size w w1:=Below.trans (by repeat (first | refine Below.alloc ?_ (by simp;try omega) _ | exact Below.refl _ _)) (hb1.mono (by simp;try omega))
 obtain ⟨hc1,hf1⟩:=bcell hb1
 have ha1:w.heap.size < w1.heap.size:=by omega
 have hbb1:w.heap.size+1 < w1.heap.size:=by omega
 have hcc1:w.heap.size+1+1 < w1.heap.size:=by omega
 go_wp2_with fail
 refine (HC4.out S _ _ (mkRow_Term G4.out G5.out G6.out G7.out) (by exact mkVals_Term (E7.out.below (by repeat (first | refine Below.setCell ?_ (by simp;try omega) _ | exact hbw1)))) hl4).mono ?_
 rintro e w2 ⟨ys4,rfl,hown4,hb2⟩
 obtain ⟨y7,rfl,f7⟩:=repVals_Term (OwnVals.rep _ _ (fun _=>True) _ (fun _ _=>trivial) hown4)
 obtain ⟨A7,n7,cap7,rfl,_,_,_⟩:=f7.form
 clear f7
 have hz2:=hb2.size
 simp at hz2 hown4
 have HOWN4:=Lib.hid hown4
 clear hown4
 have hbw2:Below w.heap.size w w2:=Below.trans (by repeat (first | refine Below.setCell ?_ (by simp;try omega) _ | exact hbw1)) (hb2.mono (by simp;try omega))
 obtain ⟨hc2,hf2⟩:=bcell hb2
 have ha2:w.heap.size < w2.heap.size:=by omega
 have hbb2:w.heap.size+1 < w2.heap.size:=by omega
 have hcc2:w.heap.size+1+1 < w2.heap.size:=by omega
 go_wp2
 refine bodyPost_ret (v:=.agg #[.int .i64 i0,.string t1,.int .i64 i2,.slice A3 n3 cap3,.int .i64 i4,.string t5,.int .i64 i6,.slice A7 n7 cap7]) (by simp [results,Tryz.results59,go_sem,hc1,ha1,hbb1,hcc1,hc2,ha2,hbb2,hcc2]) rfl ⟨[.int .i64 i0,.string t1,.int .i64 i2,.slice A3 n3 cap3,.int .i64 i4,.string t5,.int .i64 i6,.slice A7 n7 cap7],rfl,?_,(by repeat (first | refine Below.setCell ?_ (by simp;try omega) _ | exact hbw2))⟩
 simp
 exact (OwnVals.append (cs:=[.lit (.int .i64 i0),.lit (.string t1),.lit (.int .i64 i2),.sl r3]) (ds:=[.lit (.int .i64 i4),.lit (.string t5),.lit (.int .i64 i6),.sl r7]) (us:=[.int .i64 i0,.string t1,.int .i64 i2,.slice A3 n3 cap3]) (vs:=[.int .i64 i4,.string t5,.int .i64 i6,.slice A7 n7 cap7]) (fun x=>w.heap.size+1+1+1<=x∧x < w1.heap.size) (fun x=>w1.heap.size<=x∧x < w2.heap.size) (HOWN0.out.same (by repeat (first | refine Same.trans ?_ (Same.setCell _ _ _ _ (by simp;try omega)) | refine Same.trans ?_ ((Same.below hb2).mono (fun x hx=>by simp at hx ⊢;omega)) | exact Same.refl _ _))) (OwnVals.append (cs:=[.lit (.int .i64 i4),.lit (.string t5),.lit (.int .i64 i6),.sl r7]) (ds:=[]) (us:=[.int .i64 i4,.string t5,.int .i64 i6,.slice A7 n7 cap7]) (vs:=[]) (fun x=>w1.heap.size<=x∧x < w2.heap.size) (fun x=>w2.heap.size<=x∧x < w2.heap.size) (HOWN4.out.same (by repeat (first | refine Same.trans ?_ (Same.setCell _ _ _ _ (by simp;try omega)) | exact Same.refl _ _))) OwnVals.nil (fun x hx=>⟨by omega,by omega⟩) (fun x hx=>⟨by omega,by omega⟩) (fun x hx hy=>by omega)) (fun x hx=>⟨by omega,by omega⟩) (fun x hx=>⟨by omega,by omega⟩) (fun x hx hy=>by omega))
theorem szBinding_any (row:List C):szBindingC row:=szBinding_of row
theorem eqBinding_any (row:List C):eqBindingC row:=eqBinding_of row
theorem toBinding_any (row:List C):toBindingC row:=toBinding_of row
set_option maxHeartbeats 1000000 in
theorem szBindingS_of (rows:List (List C)) (h:∀ (i:Nat) r,rows[i]?=some r->szBindingC r):szBindingSC rows:=by
 intro S v left w hok hv h0 h1
 obtain ⟨A,m,cap,rfl,hm,hmc,hcm⟩:=hv.form
 have H:=Lib.hid h
 have HV:=Lib.hid hv
 have HM:=Lib.hid hm
 have HOK:=Lib.hid hok
 clear h hv hm hok
 unfold maxLen at hcm
 by_cases hlt:left - m < 0
 ·rw [sub_neg (by have:=HM.out;omega)]
  go_enter Tryz.func19,Tryz.ntmps19
  go_wp2
  go_ret
  exact ⟨rfl,Below.refl _ _⟩
 ·go_enter Tryz.func19,Tryz.ntmps19
  go_wp2
  go_loopw [1,5] (fun l i wr=>∃ k:Nat,k<=m∧i=.int .i64 k∧l=.int .i64 (left - m - (bulkRows (rows.take k):Int))∧0<=left - m - (bulkRows (rows.take k):Int)∧Below w.heap.size w wr) (fun _ i _=>m - (intOf i).toNat)
  case atStart=>exact ⟨0,Nat.zero_le _,rfl,by simp [bulkRows],by simp [bulkRows];omega,Below.refl _ _⟩
  case round =>
   obtain ⟨k,hk,rfl,rfl,hl0,hb⟩:=hrel
   by_cases hkm:k < m
   ·obtain ⟨b,off,r,rfl,hS,hbz,hget,hokr,hrow⟩:=(HV.out.below hb).get HOK.out hkm
    obtain ⟨u0,u1,u2,u3,u4,u5,u6,u7,c0,c1,c2,c3,c4,c5,c6,c7,hvals⟩:=hrow.vals8 hokr.len
    have HT:=H.out k r hget
    have HVALS:=Lib.hid hvals
    have HOKR:=Lib.hid hokr
    have HBT:=Lib.hid (bulk_take hget)
    have hle:=bulk_take_le rows (k+1)
    clear hvals hokr hrow hget
    simp only [fieldsOf,termF,occF,sortsF,sigF,moduleF,algF,List.cons_append,List.nil_append,List.length_cons,List.length_nil,Nat.reduceAdd,Nat.mul_one] at c0 c1 c2 c3 c4 c5 c6 c7
    by_cases h2:left - m - (bulkRows (rows.take k):Int) < bulkRow r
    ·go_wp2_with fail
     refine (HT S _ _ _ HOKR.out HVALS.out (by omega) (by omega)).mono ?_
     rw [sub_neg h2]
     rintro e w' ⟨rfl,hb2⟩
     go_wp2
     go_ret
     exact ⟨ret_int (a:=-1) (sub_neg (by have:=HBT.out;have:=HM.out;omega)).symm,hb.trans (hb2.mono hb.size)⟩
    ·go_wp2_with fail
     refine (HT S _ _ _ HOKR.out HVALS.out (by omega) (by omega)).mono ?_
     rw [sub_pos (by omega)]
     rintro e w' ⟨rfl,hb2⟩
     go_wp2
     go_roundw
     case rel=>exact ⟨k+1,by omega,by go_num,by have:=HBT.out;congr 1;omega,by have:=HBT.out;omega,hb.trans (hb2.mono hb.size)⟩
     case measure=>simp [intOf];omega
   ·go_wp2
    go_ret
    have e:k=m:=by omega
    subst e
    have:rows.take k=rows:=List.take_of_length_le (by have:=HM.out;omega)
    rw [this] at hl0 ⊢
    exact ⟨ret_int (by have:=HM.out;rw [sub_pos (by omega)];omega),hb⟩
set_option maxHeartbeats 1000000 in
theorem eqBindingS_of (rows:List (List C)) (h:∀ (i:Nat) r,rows[i]?=some r->eqBindingC r):eqBindingSC rows:=by
 intro S S' v v' w hok hv hv'
 obtain ⟨A,m,cap,rfl,hm,hmc,hcm⟩:=hv.form
 obtain ⟨A',m',cap',rfl,hm',hmc',hcm'⟩:=hv'.form
 obtain rfl:m=m':=by omega
 have H:=Lib.hid h
 have HV:=Lib.hid hv
 have HV':=Lib.hid hv'
 have HM:=Lib.hid hm
 have HOK:=Lib.hid hok
 clear h hv hm hok hm' hv'
 unfold maxLen at hcm hcm'
 go_enter Tryz.func23,Tryz.ntmps23
 go_wp2
 go_loopw [5] (fun i wr=>∃ k:Nat,k<=m∧i=.int .i64 k∧Below w.heap.size w wr) (fun i _=>m - (intOf i).toNat)
 case atStart=>exact ⟨0,Nat.zero_le _,rfl,Below.refl _ _⟩
 case round =>
  obtain ⟨k,hk,rfl,hb⟩:=hrel
  by_cases hkm:k < m
  ·obtain ⟨b,off,r,rfl,hS,hbz,hget,hokr,hrow⟩:=(HV.out.below hb).get HOK.out hkm
   obtain ⟨b',off',r',rfl,hS',hbz',hget',hokr',hrow'⟩:=(HV'.out.below hb).get HOK.out hkm
   obtain rfl:r=r':=by rw [hget] at hget';exact Option.some.inj hget'
   obtain ⟨u0,u1,u2,u3,u4,u5,u6,u7,c0,c1,c2,c3,c4,c5,c6,c7,hvals⟩:=hrow.vals8 hokr.len
   obtain ⟨x0,x1,x2,x3,x4,x5,x6,x7,d0,d1,d2,d3,d4,d5,d6,d7,hvals'⟩:=hrow'.vals8 hokr.len
   have HT:=H.out k r hget
   have HVALS:=Lib.hid hvals
   have HVALS':=Lib.hid hvals'
   have HOKR:=Lib.hid hokr
   clear hvals hvals' hokr hokr' hrow hrow' hget hget'
   simp only [fieldsOf,termF,occF,sortsF,sigF,moduleF,algF,List.cons_append,List.nil_append,List.length_cons,List.length_nil,Nat.reduceAdd,Nat.mul_one] at c0 c1 c2 c3 c4 c5 c6 c7 d0 d1 d2 d3 d4 d5 d6 d7
   have k0:(0:Int)<=(k:Int):=by omega
   have k1:(k:Int) < (m:Int):=by omega
   go_wp2_with fail
   go_region_held3 (fun w'=>∀ b o,b < wr.heap.size->w'.cell? ⟨b,o,none⟩=wr.cell? ⟨b,o,none⟩) (first | go_keep | exact fun b o h=>hb2.cell (p:=⟨b,o,none⟩) h) (first | (go_at_call 63;refine (HT S S' _ _ _ HOKR.out (HVALS.out.below (Below.refl _ _).drew) (HVALS'.out.below (Below.refl _ _).drew)).mono ?_;rintro e w' ⟨rfl,hb2⟩))
   go_wp2
   go_roundw
   case rel=>exact ⟨k+1,by omega,by go_num,hb.trans ((Below.refl _ _).drew.trans (hb2.mono hb.size))⟩
   case measure=>simp [intOf];omega
  ·go_wp2
   go_ret
   exact ⟨rfl,hb⟩
theorem info_Binding:(Tryz.prog.info? 102).map (fun i=>(i.zero,i.size,i.bytes))=some (some (.agg #[.int .i64 0,.string .empty,.int .i64 0,.slice none 0 0,.int .i64 0,.string .empty,.int .i64 0,.slice none 0 0]),8,112):=by kernel_rfl
set_option maxHeartbeats 1000000 in
theorem toBindingS_of (rows:List (List C)) (h:∀ (i:Nat) r,rows[i]?=some r->toBindingC r):toBindingSC rows:=by
 intro S v w hok hv hlen
 obtain ⟨A,m,cap,rfl,hm,hmc,hcm⟩:=hv.form
 obtain ⟨i0,hi,hz0,hz1,hz2⟩:=info_parts info_Binding
 have H:=Lib.hid h
 have HV:=Lib.hid hv
 have HM:=Lib.hid hm
 have HOK:=Lib.hid hok
 have hml:m<=1048576:=by omega
 clear h hv hm hok
 unfold maxLen at hcm
 have hmk:=run_make (P:=Tryz.prog) w 55 102 i0 _ Tryz.underlying55 hi hz0 .i64 .i64 (m:Int) (m:Int) (by omega) (by omega) (by rw [hz2];omega) (by omega)
 go_enter Tryz.func21,Tryz.ntmps21
 go_wp2
 clear hmk
 go_loopw [4] (fun i wr=>∃ k:Nat,k<=m∧i=.int .i64 k∧Filling w w.heap.size 102 m 8 rows k wr) (fun i _=>m - (intOf i).toNat)
 case atStart=>exact ⟨0,Nat.zero_le _,rfl,Filling.start (size_madeCells _ _)⟩
 case round =>
  obtain ⟨k,hk,rfl,hfill⟩:=hrel
  have hb:=hfill.1
  by_cases hkm:k < m
  ·obtain ⟨b,off,r,rfl,hS,hbz,hget,hokr,hrow⟩:=(HV.out.below hb).get HOK.out hkm
   obtain ⟨u0,u1,u2,u3,u4,u5,u6,u7,c0,c1,c2,c3,c4,c5,c6,c7,hvals⟩:=hrow.vals8 hokr.len
   have HT:=H.out k r hget
   have HVALS:=Lib.hid hvals
   have HOKR:=Lib.hid hokr
   have HGET:=Lib.hid hget
   have HF:=Lib.hid hfill
   have hbg:=bulk_get hget
   clear hvals hokr hrow hget hfill
   simp only [fieldsOf,termF,occF,sortsF,sigF,moduleF,algF,List.cons_append,List.nil_append,List.length_cons,List.length_nil,Nat.reduceAdd,Nat.mul_one] at c0 c1 c2 c3 c4 c5 c6 c7
   go_wp2_with fail
   refine (HT S _ _ HOKR.out HVALS.out (by omega)).mono ?_
   rintro e w2 ⟨us,rfl,hown,hb2⟩
   have hone:=HOKR.out.one (OwnVals.rep _ _ (fun _=>True) _ (fun _ _=>trivial) hown)
   obtain ⟨y0,y1,y2,y3,y4,y5,y6,y7,rfl⟩:=len8 (hown.len.trans HOKR.out.len)
   have HOWN:=Lib.hid hown
   have HONE:=Lib.hid hone
   obtain ⟨cur,hcur,hcs⟩:=HF.out.row hb2
   have HCUR:=Lib.hid hcur
   have HCS:=Lib.hid hcs
   clear hown hone hcur hcs
   go_wp2_with (refine wpList_store_put rfl 102 _ _ rfl w.heap.size (k * 8) rfl [y0,y1,y2,y3,y4,y5,y6,y7] rfl i0 hi hz1 102 cur HCUR.out (by have:=HCS.out;simp only [List.length_cons,List.length_nil];omega) HONE.out ?_;intro w3 hput)
   go_roundw
   case rel=>exact ⟨k+1,by omega,by go_num,HF.out.step (fs:=fieldsOf .binding) HOK.out HGET.out hb2 HOWN.out hput⟩
   case measure=>simp [intOf];omega
  ·go_wp2
   go_ret
   have e:k=m:=by omega
   subst e
   exact ⟨_,rfl,hfill.done HM.out (by unfold maxLen;omega) (by decide) HOK.out.lens⟩
theorem szBindingS_any (rows:List (List C)):szBindingSC rows:=szBindingS_of rows (fun _ r _=>szBinding_any r)
theorem eqBindingS_any (rows:List (List C)):eqBindingSC rows:=eqBindingS_of rows (fun _ r _=>eqBinding_any r)
theorem toBindingS_any (rows:List (List C)):toBindingSC rows:=toBindingS_of rows (fun _ r _=>toBinding_any r)
end Go.Proofs.YtffmjghcpgpfpaaGreatDoor
namespace Go.Proofs.YtffmjghcpgpfpaaGreatDoor
open Go.RowKit
structure Bd where
 var:Tm
 to:Tm
def encBd (b:Bd):List C:=encTm b.var++encTm b.to
def okBd (b:Bd):Prop:=okTm b.var∧okTm b.to
def okBds (l:List Bd):Prop:=∀ b∈l,okBd b
def encBds (l:List Bd):List (List C):=l.map encBd
theorem decBds:∀ {rows:List (List C)},okRows (fieldsOf .binding) rows->∃ l,rows=encBds l∧okBds l
 | [],_=>⟨[],by simp [encBds],by simp [okBds]⟩
 | r::rs,h=>by
  simp only [okRows] at h
  obtain ⟨i0,t1,i2,r3,i4,t5,i6,r7,rfl,g0,g1,g2,g3,g4,g5,g6,g7⟩:=okRow_Binding h.1
  obtain ⟨l,rfl,hl⟩:=decBds h.2
  obtain ⟨a,rfl,ha⟩:=decTms g3
  obtain ⟨a',rfl,ha'⟩:=decTms g7
  refine ⟨⟨.mk i0 t1 i2 a,.mk i4 t5 i6 a'⟩::l,by simp [encBds,encBd,encTm],fun m hm=>?_⟩
  rcases List.mem_cons.1 hm with rfl | hm
  ·exact ⟨by simp only [okTm];exact ⟨g0,g1,g2,ha⟩,by simp only [okTm];exact ⟨g4,g5,g6,ha'⟩⟩
  ·exact hl m hm
theorem encBds_len (l:List Bd):(encBds l).length=l.length:=by simp [encBds]
theorem encBds_get (l:List Bd) (i:Nat):(encBds l)[i]?=l[i]?.map encBd:=by simp [encBds]
end Go.Proofs.YtffmjghcpgpfpaaGreatDoor
namespace Go.Proofs.YtffmjghcpgpfpaaGreatDoor
theorem land_bit (m p:Nat) (a b:Bool):(2 * m+a.toNat) &&& (2 * p+b.toNat)=2 * (m &&& p)+(a && b).toNat:=by
 apply Nat.eq_of_testBit_eq
 intro i
 rw [Nat.testBit_and]
 cases i with
 | zero=>simp only [Nat.testBit_zero];cases a <;> cases b <;> simp [Nat.add_mod]
 | succ i =>
  simp only [Nat.testBit_succ]
  have h:∀ (n:Nat) (c:Bool),(2 * n+c.toNat) / 2=n:=fun n c=>by cases c <;> simp <;> omega
  rw [h,h,h,Nat.testBit_and]
theorem bit_split (n:Nat):∃ m,∃ a:Bool,n=2 * m+a.toNat:=by
 refine ⟨n / 2,decide (n % 2=1),?_⟩
 rcases Nat.mod_two_eq_zero_or_one n with h | h
 ·rw [h];simp;omega
 ·rw [h];simp;omega
theorem bit_inj {m p:Nat} {a b:Bool}:2 * m+a.toNat=2 * p+b.toNat ↔ m=p∧a=b:=by
 constructor
 ·intro h;cases a <;> cases b <;> simp_all <;> omega
 ·rintro ⟨rfl,rfl⟩;rfl
theorem sub_first {q m:Nat} (h:q &&& m=q):q<=m:=by rw [<- h];exact Nat.and_le_right
theorem sub_next:∀ (m p q:Nat),p &&& m=p->q &&& m=q->q < p->q<=(p - 1) &&& m:=by
 intro m
 induction m using Nat.strongRecOn with
 | ind m ih =>
 intro p q hp hq hlt
 by_cases hm:m=0
 ·subst hm;simp at hp hq;omega
 obtain ⟨m',a,rfl⟩:=bit_split m
 obtain ⟨p',b,rfl⟩:=bit_split p
 obtain ⟨q',c,rfl⟩:=bit_split q
 rw [land_bit,bit_inj] at hp hq
 have hm':m' < 2 * m'+a.toNat:=by cases a <;> simp at hm ⊢ <;> omega
 cases b with
 | true =>
  have e:2 * p'+true.toNat - 1=2 * p'+false.toNat:=by simp
  rw [e,land_bit,hp.1]
  cases c <;> simp at hlt hq ⊢ <;> omega
 | false =>
  have hlt':q' < p':=by cases c <;> simp at hlt <;> omega
  have e:2 * p'+false.toNat - 1=2 * (p' - 1)+true.toNat:=by simp;omega
  rw [e,land_bit]
  have:=ih m' hm' p' q' hp.1 hq.1 hlt'
  have h2:=hq.2
  cases c <;> cases a <;> simp at h2 ⊢ <;> omega
open Classical in
noncomputable def ofB (P:Nat->Prop):Nat->Nat
 | 0=>0
 | n+1=>ofB P n ||| (if P n then 2 ^ n else 0)
theorem ofB_bit (P:Nat->Prop):∀ (n i:Nat),(ofB P n).testBit i=true ↔ i < n∧P i
 | 0,i=>by simp [ofB]
 | n+1,i=>by
  rw [ofB,Nat.testBit_or,Bool.or_eq_true,ofB_bit P n i]
  by_cases h:P n
  ·rw [if_pos h,Nat.testBit_two_pow]
   simp only [decide_eq_true_eq]
   constructor
   ·rintro (⟨h1,h2⟩ | rfl)
    ·exact ⟨by omega,h2⟩
    ·exact ⟨by omega,h⟩
   ·rintro ⟨h1,h2⟩
    by_cases h3:n=i
    ·exact .inr h3
    ·exact .inl ⟨by omega,h2⟩
  ·rw [if_neg h]
   simp only [Nat.zero_testBit,Bool.false_eq_true,or_false]
   constructor
   ·rintro ⟨h1,h2⟩;exact ⟨by omega,h2⟩
   ·rintro ⟨h1,h2⟩
    by_cases h3:i=n
    ·subst h3;exact absurd h2 h
    ·exact ⟨by omega,h2⟩
theorem ofB_lt (P:Nat->Prop) (n:Nat):ofB P n < 2 ^ n:=by
 apply Nat.lt_pow_two_of_testBit
 intro i hi
 cases h:(ofB P n).testBit i with
 | false=>rfl
 | true=>have:=((ofB_bit P n i).1 h).1;omega
theorem bit_lt {v n i:Nat} (h:v < 2 ^ n) (hb:v.testBit i=true):i < n:=by
 apply Classical.byContradiction
 intro hc
 have:v < 2 ^ i:=Nat.lt_of_lt_of_le h (Nat.pow_le_pow_right (by decide) (by omega))
 rw [Nat.testBit_lt_two_pow this] at hb
 cases hb
theorem eq_of_bits {v u:Nat} (h:∀ i,v.testBit i=true ↔ u.testBit i=true):v=u:=by
 apply Nat.eq_of_testBit_eq
 intro i
 have:=h i
 cases h1:v.testBit i <;> cases h2:u.testBit i <;> simp_all
theorem ofB_eq {P:Nat->Prop} {n v:Nat} (hv:v < 2 ^ n) (h:∀ i,i < n->(v.testBit i=true ↔ P i)):v=ofB P n:=by
 apply eq_of_bits
 intro i
 rw [ofB_bit]
 constructor
 ·intro hb
  have:=bit_lt hv hb
  exact ⟨this,(h i this).1 hb⟩
 ·rintro ⟨h1,h2⟩;exact (h i h1).2 h2
theorem ofB_congr {P Q:Nat->Prop} {n:Nat} (h:∀ i,i < n->(P i ↔ Q i)):ofB P n=ofB Q n :=
 ofB_eq (ofB_lt P n) fun i hi=>by rw [ofB_bit,h i hi];exact ⟨fun x=>x.2,fun x=>⟨hi,x⟩⟩
inductive BagB (R:Nat->Nat->Nat->Prop) (sets:List Nat):Nat->Nat->Prop
 | leaf {i b s:Nat}:sets[i]?=some s->s.testBit b=true->BagB R sets (2 ^ i) b
 | node {p q a c b:Nat}:p≠0->q≠0->p &&& q=0->BagB R sets p a->BagB R sets q c->R a c b->BagB R sets (p ||| q) b
inductive ChB (R:Nat->Nat->Nat->Prop) (sets:List Nat):Nat->Nat->Nat->Prop
 | leaf {i b s:Nat}:sets[i]?=some s->s.testBit b=true->ChB R sets i (i+1) b
 | node {i k j a c b:Nat}:i < k->k < j->ChB R sets i k a->ChB R sets k j c->R a c b->ChB R sets i j b
def Two (R:Nat->Nat->Nat->Prop) (s t b:Nat):Prop:=∃ a c,s.testBit a=true∧t.testBit c=true∧R a c b
theorem pow_bit (i j:Nat):(2 ^ i).testBit j=true ↔ i=j:=by rw [Nat.testBit_two_pow];simp
theorem some_bit {p:Nat} (h:p≠0):∃ i,p.testBit i=true:=by
 apply Classical.byContradiction
 intro hc
 apply h
 apply Nat.eq_of_testBit_eq
 intro i
 cases hb:p.testBit i with
 | false=>simp
 | true=>exact absurd ⟨i,hb⟩ hc
theorem no_both {p q i:Nat} (h:p &&& q=0) (h1:p.testBit i=true) (h2:q.testBit i=true):False:=by
 have:=congrArg (fun x=>x.testBit i) h
 simp [h1,h2] at this
theorem or_not_pow {p q i:Nat} (hp:p≠0) (hq:q≠0) (h:p &&& q=0):p ||| q≠2 ^ i:=by
 intro e
 obtain ⟨a,ha⟩:=some_bit hp
 obtain ⟨c,hc⟩:=some_bit hq
 have h1:(2 ^ i).testBit a=true:=by rw [<- e,Nat.testBit_or,ha];rfl
 have h2:(2 ^ i).testBit c=true:=by rw [<- e,Nat.testBit_or,hc];simp
 rw [pow_bit] at h1 h2
 subst h1;subst h2
 exact no_both h ha hc
theorem bag_leaf {R:Nat->Nat->Nat->Prop} {sets:List Nat} {i s b:Nat} (hs:sets[i]?=some s):BagB R sets (2 ^ i) b ↔ s.testBit b=true:=by
 constructor
 ·intro h
  generalize hm:2 ^ i=m at h
  cases h with
  | leaf h1 h2 =>
   have:=(Nat.pow_right_inj (by decide)).1 hm
   subst this
   rw [hs] at h1;injection h1 with h1;subst h1;exact h2
  | node h1 h2 h3 _ _ _=>exact absurd hm.symm (or_not_pow h1 h2 h3)
 ·exact fun h=>.leaf hs h
theorem xor_of {p q:Nat} (h:p &&& q=0):(p ||| q) ^^^ p=q:=by
 apply Nat.eq_of_testBit_eq
 intro i
 rw [Nat.testBit_xor,Nat.testBit_or]
 cases h1:p.testBit i <;> cases h2:q.testBit i <;> simp
 exact absurd h1 (by intro h1;exact no_both h h1 h2)
theorem sub_bit {p m:Nat} (h:p &&& m=p) {i:Nat} (hi:p.testBit i=true):m.testBit i=true:=by
 rw [<- h,Nat.testBit_and] at hi;simp at hi;exact hi.2
theorem sub_xor {p m:Nat} (h:p &&& m=p):p &&& (m ^^^ p)=0∧p ||| (m ^^^ p)=m:=by
 constructor
 ·apply Nat.eq_of_testBit_eq
  intro i
  rw [Nat.testBit_and,Nat.testBit_xor]
  cases h1:p.testBit i with
  | false=>simp
  | true=>simp [sub_bit h h1]
 ·apply Nat.eq_of_testBit_eq
  intro i
  rw [Nat.testBit_or,Nat.testBit_xor]
  cases h1:p.testBit i with
  | false=>simp
  | true=>simp [sub_bit h h1]
theorem xor_zero {p m:Nat} (h:p≠m):m ^^^ p≠0:=by
 intro e
 apply h
 apply Nat.eq_of_testBit_eq
 intro i
 have:=congrArg (fun x=>x.testBit i) e
 rw [Nat.testBit_xor] at this
 cases h1:p.testBit i <;> cases h2:m.testBit i <;> simp [h1,h2] at this ⊢
theorem bag_node {R:Nat->Nat->Nat->Prop} {sets:List Nat} {m b:Nat} (hm:∀ i,m≠2 ^ i):BagB R sets m b ↔ ∃ p,p≠0∧p≠m∧p &&& m=p∧∃ a c,BagB R sets p a∧BagB R sets (m ^^^ p) c∧R a c b:=by
 constructor
 ·intro h
  cases h with
  | leaf=>exact absurd rfl (hm _)
  | node h1 h2 h3 h4 h5 h6 =>
   rename_i p q a c
   refine ⟨p,h1,?_,?_,a,c,h4,?_,h6⟩
   ·intro e
    obtain ⟨i,hi⟩:=some_bit h2
    exact no_both h3 (by rw [e,Nat.testBit_or,hi];simp) hi
   ·apply Nat.eq_of_testBit_eq;intro i;rw [Nat.testBit_and,Nat.testBit_or];cases p.testBit i <;> simp
   ·rw [xor_of h3];exact h5
 ·rintro ⟨p,h1,h2,h3,a,c,h4,h5,h6⟩
  have:=sub_xor h3
  have h:=BagB.node h1 (xor_zero h2) this.1 h4 h5 h6
  rw [this.2] at h
  exact h
theorem ch_leaf {R:Nat->Nat->Nat->Prop} {sets:List Nat} {i s b:Nat} (hs:sets[i]?=some s):ChB R sets i (i+1) b ↔ s.testBit b=true:=by
 constructor
 ·intro h
  generalize hj:i+1=j at h
  cases h with
  | leaf h1 h2=>rw [hs] at h1;injection h1 with h1;subst h1;exact h2
  | node h1 h2 _ _ _=>omega
 ·exact fun h=>.leaf hs h
theorem ch_node {R:Nat->Nat->Nat->Prop} {sets:List Nat} {i j b:Nat} (hij:i+1 < j):ChB R sets i j b ↔ ∃ k,i < k∧k < j∧∃ a c,ChB R sets i k a∧ChB R sets k j c∧R a c b:=by
 constructor
 ·intro h
  cases h with
  | leaf=>omega
  | node h1 h2 h3 h4 h5=>exact ⟨_,h1,h2,_,_,h3,h4,h5⟩
 ·rintro ⟨k,h1,h2,a,c,h3,h4,h5⟩;exact .node h1 h2 h3 h4 h5
theorem ch_two {R:Nat->Nat->Nat->Prop} {s t b:Nat}:ChB R [s,t] 0 2 b ↔ Two R s t b:=by
 rw [ch_node (by omega)]
 constructor
 ·rintro ⟨k,h1,h2,a,c,h3,h4,h5⟩
  obtain rfl:k=1:=by omega
  exact ⟨a,c,(ch_leaf (i:=0) rfl).1 h3,(ch_leaf (i:=1) rfl).1 h4,h5⟩
 ·rintro ⟨a,c,h3,h4,h5⟩
  exact ⟨1,by omega,by omega,a,c,(ch_leaf (i:=0) rfl).2 h3,(ch_leaf (i:=1) rfl).2 h4,h5⟩
theorem pow_three:∀ i,3≠2 ^ i
 | 0=>by decide
 | 1=>by decide
 | i+2=>by rw [Nat.pow_succ];omega
theorem bag_two {R:Nat->Nat->Nat->Prop} {s t b:Nat}:BagB R [s,t] 3 b ↔ Two R s t b∨Two R t s b:=by
 rw [bag_node pow_three]
 have l0:∀ x,BagB R [s,t] 1 x ↔ s.testBit x=true:=fun x=>bag_leaf (i:=0) rfl
 have l1:∀ x,BagB R [s,t] 2 x ↔ t.testBit x=true:=fun x=>bag_leaf (i:=1) rfl
 constructor
 ·rintro ⟨p,h1,h2,h3,a,c,h4,h5,h6⟩
  have:=sub_first h3
  rcases (by omega:p=1∨p=2) with rfl | rfl
  ·exact .inl ⟨a,c,(l0 a).1 h4,(l1 c).1 h5,h6⟩
  ·exact .inr ⟨a,c,(l1 a).1 h4,(l0 c).1 h5,h6⟩
 ·rintro (⟨a,c,h4,h5,h6⟩ | ⟨a,c,h4,h5,h6⟩)
  ·exact ⟨1,by decide,by decide,by decide,a,c,(l0 a).2 h4,(l1 c).2 h5,h6⟩
  ·exact ⟨2,by decide,by decide,by decide,a,c,(l1 a).2 h4,(l0 c).2 h5,h6⟩
end Go.Proofs.YtffmjghcpgpfpaaGreatDoor
namespace Go.Proofs.YtffmjghcpgpfpaaGreatDoor
open Go.RowKit
theorem ofB_or (P Q:Nat->Prop) (n:Nat):ofB P n ||| ofB Q n=ofB (fun b=>P b∨Q b) n :=
 ofB_eq (Nat.or_lt_two_pow (ofB_lt P n) (ofB_lt Q n)) fun i hi=>by
  rw [Nat.testBit_or,Bool.or_eq_true,ofB_bit,ofB_bit]
  simp only [hi,true_and]
theorem ofB_none {P:Nat->Prop} {n:Nat} (h:∀ i,i < n->¬ P i):ofB P n=0 :=
 (ofB_eq (Nat.pos_of_ne_zero (by have:=Nat.one_le_two_pow (n:=n);omega)) fun i hi=>by
  rw [Nat.zero_testBit]
  exact ⟨fun e=>(by cases e),fun e=>absurd e (h i hi)⟩).symm
theorem ofB_self {v n:Nat} (h:v < 2 ^ n):ofB (fun b=>v.testBit b=true) n=v:=(ofB_eq h fun i _=>Iff.rfl).symm
def upk (g:Sgn) (k:Int):Nat:=(up g.sorts).getD k.toNat 0
theorem upk_get {g:Sgn} (hs:SortsOk g.sorts) {k:Int} (h0:0<=k) (h1:k < g.sorts.names.length):(up g.sorts)[k.toNat]?=some (upk g k)∧upk g k < 2 ^ g.sorts.names.length :=
 (up_ok (SortsOk.subsIn hs.subs)).get (by omega)
def GiveB (g:Sgn) (o:Opr) (sets:List Nat) (b:Nat):Prop:=∃ d∈o.decls,(∀ (i:Nat) k s,d.args[i]?=some k->sets[i]?=some s->s.testBit k.toNat=true)∧(upk g d.res).testBit b=true
def Rel2 (g:Sgn) (o:Opr) (a c b:Nat):Prop:=∃ d∈o.decls,d.args.map Int.toNat=[a,c]∧(upk g d.res).testBit b=true
def AnyB (g:Sgn) (o:Opr) (sets:List Nat) (b:Nat):Prop:=GiveB g o sets b∨(o.comm=true∧GiveB g o sets.reverse b)
def AppB (g:Sgn) (o:Opr) (sets:List Nat) (b:Nat):Prop:=if o.assoc=true then (if o.comm=true then BagB (Rel2 g o) sets (2 ^ sets.length - 1) b else ChB (Rel2 g o) sets 0 sets.length b) else AnyB g o sets b
noncomputable def appS (g:Sgn) (o:Opr) (sets:List Nat):Nat:=ofB (AppB g o sets) g.sorts.names.length
mutual
noncomputable def sortsTm (g:Sgn):Tm->Nat
 | .mk op _ so args=>if op=-1 then upk g so else match g.ops[op.toNat]? with
  | none=>0
  | some o=>appS g o (sortsTms g args)
noncomputable def sortsTms (g:Sgn):List Tm->List Nat
 | []=>[]
 | t::ts=>sortsTm g t::sortsTms g ts
end
theorem sortsTms_map (g:Sgn):∀ (l:List Tm),sortsTms g l=l.map (sortsTm g)
 | []=>rfl
 | t::ts=>by simp only [sortsTms,List.map_cons,sortsTms_map g ts]
theorem sortsTm_var {g:Sgn} {t:Tm} (h:t.op=-1):sortsTm g t=upk g t.sort:=by
 obtain ⟨op,nm,so,args⟩:=t
 simp only [Tm.op] at h
 simp only [sortsTm,if_pos h,Tm.sort]
theorem sortsTm_app {g:Sgn} {t:Tm} {o:Opr} (h:t.op≠-1) (ho:g.ops[t.op.toNat]?=some o):sortsTm g t=appS g o (t.args.map (sortsTm g)):=by
 obtain ⟨op,nm,so,args⟩:=t
 simp only [Tm.op] at h ho
 simp only [sortsTm,if_neg h,ho,Tm.args,sortsTms_map]
theorem sortsTm_lt {g:Sgn} (hg:SgnOk g) {t:Tm} (ht:NodeOk g t):sortsTm g t < 2 ^ g.sorts.names.length:=by
 rcases ht with hv | ⟨o,d,hA⟩
 ·rw [sortsTm_var hv.1]
  exact (upk_get hg.sorts hv.2.2.1 hv.2.2.2.1).2
 ·rw [sortsTm_app hA.op hA.at']
  exact ofB_lt _ _
theorem Rel2.lt {g:Sgn} (hg:SgnOk g) {o:Opr} (ho:o∈g.ops) {a c b:Nat} (h:Rel2 g o a c b):b < g.sorts.names.length:=by
 obtain ⟨d,hd,_,hb⟩:=h
 have hD:=hg.decls o ho
 obtain ⟨f,hf,_⟩:=hD.first
 have hd':=hD.all f hf d hd
 exact bit_lt (upk_get hg.sorts hd'.res.1 hd'.res.2).2 hb
theorem give_two {g:Sgn} {o:Opr} (h2:∀ d∈o.decls,d.args.length=2) {s t b:Nat}:GiveB g o [s,t] b ↔ Two (Rel2 g o) s t b:=by
 constructor
 ·rintro ⟨d,hd,h1,hb⟩
  obtain ⟨x,y,hxy⟩:=two_of (h2 d hd)
  rw [hxy] at h1
  exact ⟨x.toNat,y.toNat,h1 0 x s rfl rfl,h1 1 y t rfl rfl,d,hd,by rw [hxy];rfl,hb⟩
 ·rintro ⟨a,c,ha,hc,d,hd,he,hb⟩
  obtain ⟨x,y,hxy⟩:=two_of (h2 d hd)
  rw [hxy] at he
  simp only [List.map_cons,List.map_nil,List.cons.injEq,and_true] at he
  obtain ⟨rfl,rfl⟩:=he
  refine ⟨d,hd,fun i k u hk hu=>?_,hb⟩
  rw [hxy] at hk
  match i,hk,hu with
  | 0,hk,hu =>
   simp only [List.getElem?_cons_zero,Option.some.injEq] at hk hu
   subst hk;subst hu;exact ha
  | 1,hk,hu =>
   simp only [List.getElem?_cons_succ,List.getElem?_cons_zero,Option.some.injEq] at hk hu
   subst hk;subst hu;exact hc
  | i+2,hk,hu=>simp at hk
theorem Opr.deg2 {g:Sgn} (hg:SgnOk g) {i:Nat} {o:Opr} (ho:g.ops[i]?=some o) (h:o.assoc=true∨o.comm=true∨o.unit≠0):∀ d∈o.decls,d.args.length=2:=by
 intro d hd
 have hm:=List.mem_of_getElem? ho
 have hD:=hg.decls o hm
 obtain ⟨f,hf,_⟩:=hD.first
 rw [(hD.all f hf d hd).len]
 exact ((hg.axs o hm).two h f hf).1
theorem any_app {g:Sgn} (hg:SgnOk g) {i:Nat} {o:Opr} (ho:g.ops[i]?=some o) {sets:List Nat} (h:o.assoc=true->sets.length=2):ofB (AnyB g o sets) g.sorts.names.length=appS g o sets:=by
 unfold appS
 refine ofB_congr fun b _=>?_
 unfold AppB
 cases ha:o.assoc with
 | false=>rw [if_neg (by simp)]
 | true =>
  rw [if_pos rfl]
  have h2:=Opr.deg2 hg ho (.inl ha)
  obtain ⟨s,t,hst⟩:∃ s t,sets=[s,t]:=by
   match sets,h ha with
   | [s,t],_=>exact ⟨s,t,rfl⟩
  subst hst
  unfold AnyB
  simp only [List.reverse_cons,List.reverse_nil,List.nil_append,List.singleton_append]
  rw [give_two h2,give_two h2]
  cases hc:o.comm with
  | false =>
   rw [if_neg (by simp)]
   simp only [List.length_cons,List.length_nil]
   rw [ch_two]
   simp
  | true =>
   rw [if_pos rfl]
   simp only [List.length_cons,List.length_nil]
   rw [show 2 ^ (0+1+1) - 1=3 from rfl,bag_two]
   simp
theorem BagB.lt {R:Nat->Nat->Nat->Prop} {sets:List Nat} {N:Nat} (hs:∀ s∈sets,s < 2 ^ N) (hR:∀ a c b,R a c b->b < N) {m b:Nat} (h:BagB R sets m b):b < N:=by
 cases h with
 | leaf h1 h2=>exact bit_lt (hs _ (List.mem_of_getElem? h1)) h2
 | node _ _ _ _ _ h=>exact hR _ _ _ h
theorem ChB.lt {R:Nat->Nat->Nat->Prop} {sets:List Nat} {N:Nat} (hs:∀ s∈sets,s < 2 ^ N) (hR:∀ a c b,R a c b->b < N) {i j b:Nat} (h:ChB R sets i j b):b < N:=by
 cases h with
 | leaf h1 h2=>exact bit_lt (hs _ (List.mem_of_getElem? h1)) h2
 | node _ _ _ _ h=>exact hR _ _ _ h
def PartB (R:Nat->Nat->Nat->Prop) (sets:List Nat) (N m part b:Nat):Prop:=∃ p,part < p∧p≠0∧p≠m∧p &&& m=p∧Two R (ofB (BagB R sets p) N) (ofB (BagB R sets (m ^^^ p)) N) b
theorem two_ofB {R:Nat->Nat->Nat->Prop} {P Q:Nat->Prop} {N b:Nat} (hP:∀ b,P b->b < N) (hQ:∀ b,Q b->b < N):Two R (ofB P N) (ofB Q N) b ↔ ∃ a c,P a∧Q c∧R a c b:=by
 unfold Two
 constructor
 ·rintro ⟨a,c,h1,h2,h3⟩
  exact ⟨a,c,((ofB_bit _ _ _).1 h1).2,((ofB_bit _ _ _).1 h2).2,h3⟩
 ·rintro ⟨a,c,h1,h2,h3⟩
  exact ⟨a,c,(ofB_bit _ _ _).2 ⟨hP a h1,h1⟩,(ofB_bit _ _ _).2 ⟨hQ c h2,h2⟩,h3⟩
theorem part_start {R:Nat->Nat->Nat->Prop} {sets:List Nat} {N m:Nat} (hm:m≠0):ofB (PartB R sets N m ((m - 1) &&& m)) N=0:=ofB_none fun b _ h=>by
 obtain ⟨p,h1,h2,h3,h4,_⟩:=h
 have h5:=sub_first h4
 have:=sub_next m m p (Nat.and_self m) h4 (by omega)
 omega
theorem part_step {R:Nat->Nat->Nat->Prop} {sets:List Nat} {N m p b:Nat} (hp:p≠0) (hm:p≠m) (h:p &&& m=p):PartB R sets N m ((p - 1) &&& m) b ↔ PartB R sets N m p b∨Two R (ofB (BagB R sets p) N) (ofB (BagB R sets (m ^^^ p)) N) b:=by
 constructor
 ·rintro ⟨q,h1,h2,h3,h4,h5⟩
  by_cases hq:p < q
  ·exact .inl ⟨q,hq,h2,h3,h4,h5⟩
  ·by_cases e:q=p
   ·subst e;exact .inr h5
   ·have:=sub_next m p q h h4 (by omega);omega
 ·have hlt:(p - 1) &&& m < p:=by have:(p - 1) &&& m<=p - 1:=Nat.and_le_left;omega
  rintro (⟨q,h1,h2,h3,h4,h5⟩ | h5)
  ·exact ⟨q,by omega,h2,h3,h4,h5⟩
  ·exact ⟨p,hlt,hp,hm,h,h5⟩
theorem part_end {R:Nat->Nat->Nat->Prop} {sets:List Nat} {N m:Nat} (hs:∀ s∈sets,s < 2 ^ N) (hR:∀ a c b,R a c b->b < N) (hm:∀ i,m≠2 ^ i):ofB (PartB R sets N m 0) N=ofB (BagB R sets m) N:=ofB_congr fun b _=>by
 rw [bag_node hm]
 unfold PartB
 constructor
 ·rintro ⟨p,h1,h2,h3,h4,h5⟩
  obtain ⟨a,c,h6,h7,h8⟩:=(two_ofB (fun b hb=>BagB.lt hs hR hb) (fun b hb=>BagB.lt hs hR hb)).1 h5
  exact ⟨p,h2,h3,h4,a,c,h6,h7,h8⟩
 ·rintro ⟨p,h2,h3,h4,a,c,h6,h7,h8⟩
  exact ⟨p,by omega,h2,h3,h4,(two_ofB (fun b hb=>BagB.lt hs hR hb) (fun b hb=>BagB.lt hs hR hb)).2 ⟨a,c,h6,h7,h8⟩⟩
def CutB (R:Nat->Nat->Nat->Prop) (sets:List Nat) (N i j at' b:Nat):Prop:=∃ k,i < k∧k < at'∧k < j∧Two R (ofB (ChB R sets i k) N) (ofB (ChB R sets k j) N) b
theorem cut_start {R:Nat->Nat->Nat->Prop} {sets:List Nat} {N i j:Nat}:ofB (CutB R sets N i j (i+1)) N=0:=ofB_none fun b _ h=>by
 obtain ⟨k,h1,h2,_⟩:=h
 omega
theorem cut_step {R:Nat->Nat->Nat->Prop} {sets:List Nat} {N i j k b:Nat} (h1:i < k) (h2:k < j):CutB R sets N i j (k+1) b ↔ CutB R sets N i j k b∨Two R (ofB (ChB R sets i k) N) (ofB (ChB R sets k j) N) b:=by
 constructor
 ·rintro ⟨q,q1,q2,q3,q4⟩
  by_cases e:q=k
  ·subst e;exact .inr q4
  ·exact .inl ⟨q,q1,by omega,q3,q4⟩
 ·rintro (⟨q,q1,q2,q3,q4⟩ | h)
  ·exact ⟨q,q1,by omega,q3,q4⟩
  ·exact ⟨k,h1,by omega,h2,h⟩
theorem cut_end {R:Nat->Nat->Nat->Prop} {sets:List Nat} {N i j:Nat} (hs:∀ s∈sets,s < 2 ^ N) (hR:∀ a c b,R a c b->b < N) (hij:i+1 < j):ofB (CutB R sets N i j j) N=ofB (ChB R sets i j) N:=ofB_congr fun b _=>by
 rw [ch_node hij]
 unfold CutB
 constructor
 ·rintro ⟨k,h1,h2,h3,h5⟩
  obtain ⟨a,c,h6,h7,h8⟩:=(two_ofB (fun b hb=>ChB.lt hs hR hb) (fun b hb=>ChB.lt hs hR hb)).1 h5
  exact ⟨k,h1,h2,a,c,h6,h7,h8⟩
 ·rintro ⟨k,h1,h2,a,c,h6,h7,h8⟩
  exact ⟨k,h1,h2,h2,(two_ofB (fun b hb=>ChB.lt hs hR hb) (fun b hb=>ChB.lt hs hR hb)).2 ⟨a,c,h6,h7,h8⟩⟩
theorem bag_one {R:Nat->Nat->Nat->Prop} {sets:List Nat} {N i s:Nat} (hs:sets[i]?=some s) (h:s < 2 ^ N):ofB (BagB R sets (2 ^ i)) N=s:=by
 rw [show ofB (BagB R sets (2 ^ i)) N=ofB (fun b=>s.testBit b=true) N from ofB_congr fun b _=>bag_leaf hs,ofB_self h]
theorem ch_one {R:Nat->Nat->Nat->Prop} {sets:List Nat} {N i s:Nat} (hs:sets[i]?=some s) (h:s < 2 ^ N):ofB (ChB R sets i (i+1)) N=s:=by
 rw [show ofB (ChB R sets i (i+1)) N=ofB (fun b=>s.testBit b=true) N from ofB_congr fun b _=>ch_leaf hs,ofB_self h]
end Go.Proofs.YtffmjghcpgpfpaaGreatDoor
namespace Go.Proofs.YtffmjghcpgpfpaaGreatDoor
open Go.RowKit
def lookT:List Bd->Tm->Option Tm
 | [],_=>none
 | b::l,v=>if cmpTm b.var v=0 then some b.to else lookT l v
mutual
noncomputable def apT (g:Sgn) (l:List Bd):Tm->Option Tm
 | .mk op nm so args=>if op=-1 then some ((lookT l (.mk op nm so args)).getD (.mk op nm so args)) else (apTs g l args).bind (mkT g op)
noncomputable def apTs (g:Sgn) (l:List Bd):List Tm->Option (List Tm)
 | []=>some []
 | t::ts=>(apT g l t).bind fun u=>(apTs g l ts).map (u::·)
end
theorem apT_var {g:Sgn} {l:List Bd} {t:Tm} (h:t.op=-1):apT g l t=some ((lookT l t).getD t):=by
 obtain ⟨op,nm,so,args⟩:=t
 simp only [Tm.op] at h
 simp only [apT,if_pos h]
theorem apT_app {g:Sgn} {l:List Bd} {t:Tm} (h:t.op≠-1):apT g l t=(apTs g l t.args).bind (mkT g t.op):=by
 obtain ⟨op,nm,so,args⟩:=t
 simp only [Tm.op] at h
 simp only [apT,if_neg h,Tm.op,Tm.args]
theorem apTs_snoc {g:Sgn} {l:List Bd} {t:Tm}:∀ (ts:List Tm),apTs g l (ts++[t])=(apTs g l ts).bind fun us=>(apT g l t).map fun u=>us++[u]
 | []=>by
  simp only [List.nil_append,apTs,Option.bind_some]
  cases apT g l t <;> rfl
 | x::ts=>by
  simp only [List.cons_append,apTs,apTs_snoc ts]
  cases apT g l x with
  | none=>rfl
  | some u =>
   simp only [Option.bind_some]
   cases apTs g l ts with
   | none=>rfl
   | some us =>
    simp only [Option.bind_some,Option.map_some]
    cases apT g l t <;> rfl
theorem apTs_len {g:Sgn} {l:List Bd}:∀ {ts us:List Tm},apTs g l ts=some us->us.length=ts.length
 | [],us,h=>by simp only [apTs,Option.some.injEq] at h;subst h;rfl
 | t::ts,us,h=>by
  simp only [apTs] at h
  cases h1:apT g l t with
  | none=>rw [h1] at h;cases h
  | some u =>
   rw [h1] at h
   cases h2:apTs g l ts with
   | none=>rw [h2] at h;cases h
   | some vs =>
    rw [h2] at h
    simp only [Option.bind_some,Option.map_some,Option.some.injEq] at h
    subst h
    simp only [List.length_cons,apTs_len h2]
theorem apTs_none {g:Sgn} {l:List Bd} {t:Tm}:∀ {ts:List Tm},t∈ts->apT g l t=none->apTs g l ts=none
 | x::ts,hm,h=>by
  simp only [apTs]
  rcases List.mem_cons.1 hm with rfl | hm
  ·rw [h];rfl
  ·rw [apTs_none hm h]
   cases apT g l x <;> rfl
theorem apTs_get {g:Sgn} {l:List Bd}:∀ {ts us:List Tm},apTs g l ts=some us->∀ u∈us,∃ t∈ts,apT g l t=some u
 | [],us,h,u,hu=>by simp only [apTs,Option.some.injEq] at h;subst h;cases hu
 | t::ts,us,h,u,hu=>by
  simp only [apTs] at h
  cases h1:apT g l t with
  | none=>rw [h1] at h;cases h
  | some v =>
   rw [h1] at h
   cases h2:apTs g l ts with
   | none=>rw [h2] at h;cases h
   | some vs =>
    rw [h2] at h
    simp only [Option.bind_some,Option.map_some,Option.some.injEq] at h
    subst h
    rcases List.mem_cons.1 hu with rfl | hu
    ·exact ⟨t,List.mem_cons_self,h1⟩
    ·obtain ⟨x,hx,hxe⟩:=apTs_get h2 u hu
     exact ⟨x,List.mem_cons_of_mem _ hx,hxe⟩
structure SbsAt (g:Sgn) (l:List Bd) (i:Nat) (y:Bd):Prop where
 var:VarOk g y.var
 ord:∀ (j:Nat) p,i=j+1->l[j]?=some p->cmpTm p.var y.var < 0
 to':TermOk g y.to
 srt:(sortsTm g y.to).testBit y.var.sort.toNat=true
structure SbsOk (g:Sgn) (l:List Bd):Prop where
 len:l.length<=8
 at':∀ (i:Nat) y,l[i]?=some y->SbsAt g l i y
open Classical in
noncomputable def isSub (g:Sgn) (l:List Bd):Bool:=decide (SbsOk g l)
theorem isSub_true {g:Sgn} {l:List Bd} (h:SbsOk g l):isSub g l=true:=by simp [isSub,h]
theorem isSub_false {g:Sgn} {l:List Bd} (h:¬ SbsOk g l):isSub g l=false:=by simp [isSub,h]
theorem look_ok {g:Sgn} {v u:Tm}:∀ {l:List Bd},(∀ y∈l,TermOk g y.to)->lookT l v=some u->TermOk g u
 | b::l,h,hu=>by
  simp only [lookT] at hu
  split at hu
  ·injection hu with hu;subst hu;exact h b List.mem_cons_self
  ·exact look_ok (fun y hy=>h y (List.mem_cons_of_mem _ hy)) hu
theorem SbsOk.to' {g:Sgn} {l:List Bd} (h:SbsOk g l):∀ y∈l,TermOk g y.to:=fun y hy=>by
 obtain ⟨i,hi⟩:=List.getElem?_of_mem hy
 exact (h.at' i y hi).to'
theorem SbsOk.var {g:Sgn} {l:List Bd} (h:SbsOk g l):∀ y∈l,VarOk g y.var:=fun y hy=>by
 obtain ⟨i,hi⟩:=List.getElem?_of_mem hy
 exact (h.at' i y hi).var
theorem apT_ok {g:Sgn} (hg:SgnOk g) {l:List Bd} (hl:∀ y∈l,TermOk g y.to):∀ (n:Nat) (t:Tm),sizeTm t < n->TermOk g t->∀ {u:Tm},apT g l t=some u->TermOk g u
 | 0,t,hn,_,_,_=>by omega
 | n+1,t,hn,ht,u,h=>by
  by_cases ho:t.op=-1
  ·rw [apT_var ho] at h
   simp only [Option.some.injEq] at h
   subst h
   cases hk:lookT l t with
   | none=>exact ht
   | some v=>exact look_ok hl hk
  ·rw [apT_app ho] at h
   cases h2:apTs g l t.args with
   | none=>rw [h2] at h;cases h
   | some us =>
    rw [h2] at h
    simp only [Option.bind_some] at h
    have h0:0<=t.op:=by
     rcases ht.form.node with hv | ⟨o,d,hA⟩
     ·exact absurd hv.1 ho
     ·exact hA.lo
    refine mkT_ok hg h0 (fun a ha=>?_) h
    obtain ⟨x,hx,hxe⟩:=apTs_get h2 a ha
    have:=sizeTms_mem hx
    rw [sizeTm_eq] at hn
    exact apT_ok hg hl n x (by omega) (ht.arg hx) hxe
end Go.Proofs.YtffmjghcpgpfpaaGreatDoor
namespace Go.Proofs.YtffmjghcpgpfpaaGreatDoor
open Go.RowKit
def OwnVs (w:World):List (List C)->(Nat->Prop)->List (List Value)->Prop
 | [],_,[]=>True
 | r::rs,S,us::uss=>∃ S1 S2:Nat->Prop,(∀ x,S1 x->S x)∧(∀ x,S2 x->S x)∧(∀ x,S1 x->S2 x->False)∧OwnVals w r S1 us∧OwnVs w rs S2 uss
 | _,_,_=>False
def litRow (us:List Value):List C:=us.map .lit
section
variable {w w':World}
theorem OwnVs.keep (hz:w.heap.size<=w'.heap.size):∀ (rows:List (List C)) (S S':Nat->Prop) (uss:List (List Value)),(∀ b,S b->w'.heap[b]?=w.heap[b]?)->(∀ b,S b->S' b)->OwnVs w rows S uss->OwnVs w' rows S' uss
 | [],_,_,[],_,_,_=>trivial
 | r::rs,S,S',us::uss,hk,hS,h=>by
  obtain ⟨S1,S2,h1,h2,hd,hr,hrs⟩:=h
  exact ⟨S1,S2,fun x hx=>hS x (h1 x hx),fun x hx=>hS x (h2 x hx),hd,OwnVals.keep hz r S1 S1 us (fun x hx=>hk x (h1 x hx)) (fun _ h=>h) hr,OwnVs.keep hz rs S2 S2 uss (fun x hx=>hk x (h2 x hx)) (fun _ h=>h) hrs⟩
 | [],_,_,_::_,_,_,h=>h.elim
 | _::_,_,_,[],_,_,h=>h.elim
theorem OwnVs.len:∀ {rows:List (List C)} {S:Nat->Prop} {uss:List (List Value)},OwnVs w rows S uss->uss.length=rows.length
 | [],_,[],_=>rfl
 | r::rs,S,us::uss,⟨S1,S2,_,_,_,_,h⟩=>by simp [OwnVs.len h]
theorem OwnVs.snoc:∀ {rows:List (List C)} {r:List C} {S S1 S2:Nat->Prop} {uss:List (List Value)} {us:List Value},OwnVs w rows S1 uss->OwnVals w r S2 us->(∀ x,S1 x->S x)->(∀ x,S2 x->S x)->(∀ x,S1 x->S2 x->False)->OwnVs w (rows++[r]) S (uss++[us])
 | [],r,S,S1,S2,[],us,_,h2,i1,i2,hd=>⟨S2,fun _=>False,i2,fun _ h=>h.elim,fun _ _ h=>h,h2,trivial⟩
 | q::qs,r,S,S1,S2,vs::vss,us,⟨T1,T2,a1,a2,a3,a4,a5⟩,h2,i1,i2,hd =>
  ⟨T1,fun x=>T2 x∨S2 x,fun x hx=>i1 x (a1 x hx),fun x hx=>hx.elim (fun h=>i1 x (a2 x h)) (i2 x),fun x hx hy=>hy.elim (a3 x hx) (hd x (a1 x hx)),a4,
   OwnVs.snoc a5 h2 (fun _ h=>.inl h) (fun _ h=>.inr h) (fun x hx hy=>hd x (a2 x hx) hy)⟩
 | [],_,_,_,_,_::_,_,h,_,_,_,_=>h.elim
 | _::_,_,_,_,_,[],_,h,_,_,_,_=>h.elim
theorem OwnVs.get:∀ {rows:List (List C)} {S:Nat->Prop} {uss:List (List Value)} {i:Nat} {r:List C} {us:List Value},OwnVs w rows S uss->rows[i]?=some r->uss[i]?=some us->OwnVals w r S us
 | r::rs,S,us::uss,0,r',us',⟨S1,S2,h1,_,_,h,_⟩,hr,hu=>by
  simp at hr hu;subst hr hu
  exact OwnVals.keep (Nat.le_refl _) r S1 S us (fun _ _=>rfl) h1 h
 | r::rs,S,us::uss,i+1,r',us',⟨S1,S2,_,h2,_,_,h⟩,hr,hu =>
  OwnVals.keep (Nat.le_refl _) r' S2 S us' (fun _ _=>rfl) h2 (OwnVs.get h (by simpa using hr) (by simpa using hu))
 | [],_,_,_,_,_,_,hr,_=>by simp at hr
 | _::_,_,[],_,_,_,h,_,_=>h.elim
theorem OwnVs.stable (rows:List (List C)) (E:Nat->Prop) (uss:List (List Value)):StableOn E (fun w=>OwnVs w rows E uss):=fun w w' hz hk h=>OwnVs.keep hz rows E E uss hk (fun _ h=>h) h
theorem OwnVals.stable (r:List C) (E:Nat->Prop) (us:List Value):StableOn E (fun w=>OwnVals w r E us):=fun w w' hz hk h=>OwnVals.keep hz r E E us hk (fun _ h=>h) h
theorem Own.stable (c:C) (E:Nat->Prop) (v:Value):StableOn E (fun w=>Own w c E v):=fun w w' hz hk h=>Own.keep hz c E E v hk (fun _ h=>h) h
theorem OwnRow.open {b:Nat}:∀ {cs:List C} {S:Nat->Prop} {off:Nat},OwnRow w b cs S off->∃ us,OwnVals w cs S us∧∀ j u,us[j]?=some u->w.cell? ⟨b,off+j,none⟩=some u
 | [],S,off,_=>⟨[],OwnVals.nil,fun j u h=>by simp at h⟩
 | c::cs,S,off,h=>by
  simp only [OwnRow] at h
  obtain ⟨S1,S2,u,h1,h2,hd,hu,hc,hcs⟩:=h
  obtain ⟨us,k1,k2⟩:=OwnRow.open hcs
  refine ⟨u::us,OwnVals.cons S1 S2 hc k1 h1 h2 hd,fun j v hj=>?_⟩
  cases j with
  | zero=>simp at hj;subst hj;exact hu
  | succ j=>have:=k2 j v (by simpa using hj);rw [<- this];congr 2;omega
theorem OwnRows.open {b:Nat}:∀ {rows:List (List C)} {S:Nat->Prop} {off:Nat},OwnRows w b rows S off->∃ uss,OwnVs w rows S uss∧∀ T:Nat->Prop,RepRows w T b off (uss.map litRow)
 | [],S,off,_=>⟨[],trivial,fun T=>by simp [RepRows]⟩
 | r::rs,S,off,h=>by
  simp only [OwnRows] at h
  obtain ⟨S1,S2,h1,h2,hd,hr,hrs⟩:=h
  obtain ⟨us,k1,k2⟩:=OwnRow.open hr
  obtain ⟨uss,k3,k4⟩:=OwnRows.open hrs
  refine ⟨us::uss,⟨S1,S2,h1,h2,hd,k1,k3⟩,fun T=>?_⟩
  simp only [List.map_cons,RepRows]
  refine ⟨RepRow.of_vals _ us off (RepVals_lits us) k2,?_⟩
  rw [show (litRow us).length=r.length by simp [litRow,k1.len]]
  exact k4 T
theorem OwnVals.cells:∀ {cs:List C} {S:Nat->Prop} {us:List Value},OwnVals w cs S us->cs.all okCell=true->(litRow us).all okCell=true
 | [],_,[],_,_=>rfl
 | c::cs,S,u::us,h,hc=>by
  simp only [OwnVals] at h
  obtain ⟨S1,S2,_,_,_,h1,h2⟩:=h
  simp only [List.all_cons,Bool.and_eq_true] at hc
  simp only [litRow,List.map_cons,List.all_cons,Bool.and_eq_true]
  exact ⟨okCell_one (c:=c) hc.1 (Own.rep c S1 u h1),OwnVals.cells h2 hc.2⟩
 | [],_,_::_,h,_=>by simp [OwnVals] at h
 | _::_,_,[],h,_=>by simp [OwnVals] at h
theorem Own.open {T:Nat->Prop} {rows:List (List C)} {E:Nat->Prop} {a:Option Addr} {n cap sz:Nat} (hT:∀ b,E b->¬ T b) (hne:rows≠[]) (hrl:rowsLen sz rows) (h:Own w (.sl rows) E (.slice a n cap)) :
  ∃ uss ety E',n=uss.length∧BufRel w T ety sz (uss.map litRow) (.slice a uss.length cap)∧OwnVs w rows E' uss∧(∀ b,E' b->E b∧vblk (.slice a uss.length cap)≠some b)∧∀ b,vblk (.slice a uss.length cap)=some b->E b:=by
 simp only [Own] at h
 obtain ⟨A,n',cap',hv,hn,hle,hmx,hb⟩:=h
 injection hv with e1 e2 e3
 subst e1 e2 e3
 have h0:0 < rows.length:=List.length_pos_iff.2 hne
 obtain ⟨b,off,S',rfl,hEb,hbl,⟨hfr,rfl,cur,ety,sz',hh,hcs,hz,hrs⟩,hS',hrows⟩:=hb (by omega)
 obtain ⟨uss,k1,k2⟩:=OwnRows.open hrows
 have hl:=k1.len
 have hsz:sz'=sz:=by
  obtain ⟨r,hr⟩:=List.exists_mem_of_ne_nil _ hne
  rw [<- hrs r hr,(hrl r hr).1]
 subst hsz
 have hvb:vblk (.slice (some ⟨b,0,none⟩) uss.length cap)=some b:=by simp only [vblk];rw [if_neg (by omega)]
 have hrow:rowsLen sz' (uss.map litRow):=fun x hx=>by
  obtain ⟨us,hus,rfl⟩:=List.mem_map.1 hx
  obtain ⟨i,hi⟩:=List.getElem?_of_mem hus
  have hil:=(List.getElem?_eq_some_iff.1 hi).1
  obtain ⟨r,hr⟩:∃ r,rows[i]?=some r:=⟨_,List.getElem?_eq_getElem (by omega)⟩
  have hov:=k1.get hr hi
  have hrm:=hrl r (List.mem_of_getElem? hr)
  exact ⟨by simp only [litRow,List.length_map];rw [hov.len];exact hrm.1,hov.cells hrm.2⟩
 refine ⟨uss,ety,S',by omega,⟨hz,hrow,.inr ⟨b,cap,cur,by simp,by omega,hbl,hT b hEb,hh,by simp only [List.length_map];omega,hmx,hcs,k2 T⟩⟩,k1,fun x hx=>⟨(hS' x hx).1,fun e=>?_⟩,fun x hx=>?_⟩
 ·rw [hvb] at e;injection e with e;exact (hS' x hx).2 e.symm
 ·rw [hvb] at hx;injection hx with hx;rw [<- hx];exact hEb
end
theorem apart_1 (x:Bk):Apart [x]:=⟨by simp,trivial⟩
def RTree (row:List C) (r:List D) (pm:List Bk):Prop:=∃ us E,r=[.agg (litRow us)]∧us.length=row.length∧(litRow us).all okCell=true∧pm=[.set E (fun w=>OwnVals w row E us)]
def RTrees (ety sz:Nat) (rows:List (List C)) (r:List D) (pm:List Bk):Prop:=∃ a cap uss E,r=[.one (.lit (.slice a uss.length cap))]∧uss.length=rows.length∧pm=[.buf (some (a,cap)) ety sz (uss.map litRow),.set E (fun w=>OwnVs w rows E uss)]
theorem RTree.mk {row:List C} {us:List Value} {E:Nat->Prop} (h:us.length=row.length) (hok:(litRow us).all okCell=true):RTree row [.agg (litRow us)] [.set E (fun w=>OwnVals w row E us)]:=⟨us,E,rfl,h,hok,rfl⟩
theorem RTrees.mk {ety sz:Nat} {rows:List (List C)} {a:Option Addr} {cap:Nat} {uss:List (List Value)} {E:Nat->Prop} (h:uss.length=rows.length):RTrees ety sz rows [.one (.lit (.slice a uss.length cap))] [.buf (some (a,cap)) ety sz (uss.map litRow),.set E (fun w=>OwnVs w rows E uss)]:=⟨a,cap,uss,E,rfl,h,rfl⟩
end Go.Proofs.YtffmjghcpgpfpaaGreatDoor
namespace Go.Proofs.YtffmjghcpgpfpaaGreatDoor
open Go.RowKit
section
variable {e:Env} {U:Nat->Prop} {w0:World} {S0:Nat->Prop} {nt:Nat} {σ:St} {a:Act} {w:World} {S:Nat->Prop} {L:Lay}
end
section
variable {e:Env} {σ:St} {o:Oper} {K:St->Prop}
theorem step_sub {t:TypeId} {x:Operand} {lo hi:Option Operand} (ho:o.op=.slice t x lo hi none) {k cap ety sz:Nat} {a:Option Addr} {rows:List (List C)} {l h:Int} (hx:nrm σ.m (evA σ.s x)=.buf k) (hm:gm σ.m k=some (.buf (some (a,cap)) ety sz rows)) (ht:elemT e.P t=some sz)
  (hlo:loA (lo.map (evA σ.s))=some l) (hhi:hiA rows.length (hi.map (evA σ.s))=some h) (hb:0<=l∧l<=h∧h<=rows.length) (hK:K ⟨setA σ.s o.dst (.d (.one (.lit (sliced a l.toNat h.toNat cap sz)))),σ.m⟩):StepOk e o σ K:=by
 intro he U w0 S0 nt ac w Q hd ⟨S,L,h1⟩
 refine Oper.wp_mono (fun a' w' hs=>⟨_,hK,hs⟩) (gives_then h1 hd (givesA_pure fun w S L ρv hC hr=>?_))
 have hx':=nrm_rel hC (hr x (by simp [ho,Op.operands]))
 rw [hx] at hx'
 have hx':ρv x=L.v k:=hx'
 obtain ⟨hpl,_,_,hbuf⟩:=hC.own k _ hm
 have hv:L.v k=.slice a rows.length cap:=hpl (a,cap) rfl
 have hcap:rows.length<=cap:=by
  rcases hbuf with ⟨h4,_⟩ | ⟨g,cap',cur,h4,_,_,_,_,h5,_⟩
  ·rw [h4];exact Nat.zero_le _
  ·rw [hv] at h4;injection h4 with _ _ h4;rw [h4];exact h5
 have hel:∃ ety i,e.P.underlying t=some (.slice ety)∧e.P.info? ety=some i∧i.size=sz:=by
  unfold elemT at ht
  split at ht
  ·rename_i ety hu
   simp only [Option.map_eq_some_iff] at ht
   obtain ⟨i,hi,hs⟩:=ht
   exact ⟨ety,i,hu,hi,hs⟩
  ·cases ht
 obtain ⟨el,i,hu,hi',hsz⟩:=hel
 have hlo:=loA_spec (w:=w) (S:=S) (L:=L) (ρv:=ρv) hlo (fun y hy=>hr y (by simp [ho,Op.operands,hy]))
 have hhi:=hiA_spec (w:=w) (S:=S) (L:=L) (ρv:=ρv) hhi (fun y hy=>hr y (by simp [ho,Op.operands,hy]))
 refine ⟨sliced a l.toNat h.toNat cap sz,?_,by simp [ARel,DRel,Rep]⟩
 have hbnd:(Instr.sliceBounds true rows.length cap (lo.map ρv) (hi.map ρv) none).run e.P w=.ok (l.toNat,h.toNat,cap) w:=by
  have eh:(h.toNat:Int)=h:=Int.toNat_of_nonneg (by omega)
  have b1:0<=h:=by omega
  have b2:h<=(cap:Int):=by omega
  have b3:0<=l:=hb.1
  have b4:l<=h:=hb.2.1
  rcases hlo with ⟨rfl,rfl⟩ | e1 <;> rcases hhi with ⟨rfl,e2⟩ | e2
  ·simp [Instr.sliceBounds,e2,Result.andThen]
  ·simp [Instr.sliceBounds,e2,Result.andThen,run_sliceBound,b1,b2]
  ·have b5:l<=(rows.length:Int):=by omega
   simp [Instr.sliceBounds,e1,e2,Result.andThen,run_sliceBound,b3,b5]
  ·simp [Instr.sliceBounds,e1,e2,Result.andThen,run_sliceBound,b1,b2,b3,b4,eh]
 simp only [execOp,ho,Sem.run_bind,hx',hv,Instr.sliceAt,Instr.slice,underlying,run_program,Result.andThen_ok,hu,Sem.run_pure,Option.map_none,hbnd,sizeOf,typeInfo,hi',hsz,sliced]
end
theorem re_cut {a:Option Addr} {cap ety sz:Nat} {rows:List (List C)} (m:Nat) (hm:m<=rows.length):Retold [.buf (some (a,cap)) ety sz rows] [.buf (some (a,cap)) ety sz (rows.take m)]:=fun w S h ha=>by
 have hl:(rows.take m).length=m:=by rw [List.length_take];omega
 obtain ⟨h0,hrl,hc⟩:BufRel w S ety sz rows (.slice a rows.length cap):=h (.buf (some (a,cap)) ety sz rows) (by simp)
 have hb:∀ b,vblk (.slice a m cap)=some b ↔ vblk (.slice a rows.length cap)=some b:=fun b=>by cases a <;> simp [vblk]
 refine ⟨fun x hx=>?_,apart_1 _,fun g ⟨x,hx,hg⟩=>?_⟩
 ·simp only [List.mem_cons,List.not_mem_nil,or_false] at hx
  subst hx
  show BufRel w S ety sz (rows.take m) (.slice a (rows.take m).length cap)
  rw [hl]
  refine ⟨h0,fun r hr=>hrl r (List.mem_of_mem_take hr),?_⟩
  rcases hc with ⟨h4,p,h5⟩ | ⟨g,cap',cur,h4,h5,h6,h7,h8,h9,h10,h11,h12⟩
  ·subst h4
   simp only [List.length_nil,Nat.le_zero_eq] at hm
   subst hm
   exact .inl ⟨by simp,p,by simpa using h5⟩
  ·injection h4 with e1 e2 e3
   subst e1 e3
   refine .inr ⟨g,cap,cur,by rw [hl],h5,h6,h7,h8,by rw [hl];omega,h10,h11,?_⟩
   have:=RepRows.sub hrl h12 0 m
   simpa using this
 ·simp only [List.mem_cons,List.not_mem_nil,or_false] at hx
  subst hx
  refine ⟨.buf (some (a,cap)) ety sz rows,by simp,?_⟩
  simp only [pblk,hl] at hg ⊢
  exact (hb g).1 hg
theorem gSub {e:Env} {K:St->Prop} {ds:List (Option Nat)} {os:List Oper} {d t ty cap ety sz:Nat} {p:String} {ed:Array Edge} {x:Operand} {lo hi:Option Operand} {s:List (Nat × A)} {m:List (Nat × Bk)} {a:Option Addr} {rows:List (List C)} (k l h:Nat) (hb:l<=h∧h<=rows.length) (hK:Runs e ds 0 os ⟨(d,.d (.one (.lit (sliced a l h cap sz))))::s,m⟩ K)
  (hx:nrm m (evA s x)=.buf k:=by exact sfx) (hm:gm m k=some (.buf (some (a,cap)) ety sz rows):=by exact snv) (ht:elemT e.P t=some sz:=by exact snx)
  (hlo:loA (lo.map (evA s))=some (l:Int):=by exact sfx) (hhi:hiA rows.length (hi.map (evA s))=some (h:Int):=by exact sfx):Runs e ds 0 (⟨some d,.slice t x lo hi none,ty,p,ed,none⟩::os) ⟨s,m⟩ K:=by
 simp only [Runs] at hK ⊢
 exact runsS_step rfl (step_sub (o:=⟨some d,.slice t x lo hi none,ty,p,ed,none⟩) rfl hx hm ht hlo hhi ⟨by omega,by omega,by omega⟩ (by simpa only [Int.toNat_natCast,setA] using hK))
theorem sliced_zero (a:Option Addr) (k cap sz:Nat):sliced a 0 k cap sz=.slice a k cap:=by
 cases a with
 | none=>simp [sliced]
 | some p =>
  have:p.add 0=p:=by cases p;simp [Addr.add]
  simp [sliced,this]
end Go.Proofs.YtffmjghcpgpfpaaGreatDoor
