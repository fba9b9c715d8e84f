/-
  Part of a proof: Tm, Cmp, Te0, Cp, Cmp2, Cmp3, Cmp4, Sp, Sn, Rg, Rh, Sm, Mm, Ss2, Sd, Sa, Te, Gd, Sg, Tf, Tg, Th, Tk, Vt, Sy, Ti.
-/
import Derived.Test.YtffmjghcpgpfpaaGreatDoorBIsSortDecreasingCard0
import Derived.Test.YtffmjghcpgpfpaaGreatDoorBIsSortDecreasingCard1
import Derived.Lib.Bytealg
import Derived.Deep.RegionHeld3
import Derived.Deep.QuietTactic
import Derived.BigQuiet
import Derived.MapKept
import Derived.ChangeMaps5
import Derived.Laws.StructEq
set_option linter.unusedSimpArgs false
set_option linter.unusedVariables false
set_option maxHeartbeats 400000000
set_option maxRecDepth 100000
namespace Go.Proofs.YtffmjghcpgpfpaaGreatDoor
open Go.RowKit
inductive Tm where
 | mk (op:Int) (name:ByteArray) (sort:Int) (args:List Tm)
def Tm.args:Tm->List Tm | .mk _ _ _ a=>a
def Tm.op:Tm->Int | .mk a _ _ _=>a
def Tm.name:Tm->ByteArray | .mk _ a _ _=>a
def Tm.sort:Tm->Int | .mk _ _ a _=>a
mutual
def encTm:Tm->List C
 | .mk op nm so args=>[.lit (.int .i64 op),.lit (.string nm),.lit (.int .i64 so),.sl (Zab args)]
def Zab:List Tm->List (List C)
 | []=>[]
 | t::ts=>encTm t::Zab ts
end
mutual
def okTm:Tm->Prop
 | .mk op nm so args=>I64 op∧nm.size<=maxLen∧I64 so∧Zaz args
def Zaz:List Tm->Prop
 | []=>True
 | t::ts=>okTm t∧Zaz ts
end
theorem Zbi (ts:List Tm):Zab ts=ts.map encTm:=by
 induction ts with
 | nil=>simp [Zab]
 | cons t ts ih=>simp [Zab,ih]
theorem Zac (ts:List Tm):(Zab ts).length=ts.length:=by simp [Zbi]
theorem ZbH (ts:List Tm) (i:Nat):(Zab ts)[i]?=ts[i]?.map encTm:=by simp [Zbi]
mutual
theorem ZzW:∀ (t:Tm),okTm t->Zal (Zad .term) (encTm t)
 | .mk op nm so args,h=>by
  simp only [okTm] at h
  simp only [encTm]
  exact ZbD h.1 h.2.1 h.2.2.1 (Zee args h.2.2.2)
theorem Zee:∀ (ts:List Tm),Zaz ts->Zao (Zad .term) (Zab ts)
 | [],_=>by simp [Zab,Zao]
 | t::ts,h=>by
  simp only [Zaz] at h
  simp only [Zab,Zao]
  exact ⟨ZzW t h.1,Zee ts h.2⟩
end
theorem ZBR (n:Nat):(∀ row,ZbJ row < n->Zal (Zad .term) row->∃ t,row=encTm t∧okTm t)∧(∀ rows,Zb7 rows < n->Zao (Zad .term) rows->∃ ts,rows=Zab ts∧Zaz ts):=by
 induction n with
 | zero=>exact ⟨fun _ h=>by omega,fun _ h=>by omega⟩
 | succ n ih =>
  have h1:∀ row,ZbJ row < n+1->Zal (Zad .term) row->∃ t,row=encTm t∧okTm t:=by
   intro row hn hok
   obtain ⟨i0,t1,i2,r3,rfl,g0,g1,g2,g3⟩:=Zf4 hok
   obtain ⟨ts,rfl,hts⟩:=ih.2 r3 (by simp only [ZbJ,ZeQ] at hn;omega) g3
   exact ⟨.mk i0 t1 i2 ts,by simp [encTm],by simp only [okTm];exact ⟨g0,g1,g2,hts⟩⟩
  refine ⟨h1,fun rows=>?_⟩
  induction rows with
  | nil=>exact fun _ _=>⟨[],by simp [Zab],by simp [Zaz]⟩
  | cons r rs ihr =>
   intro hn hok
   simp only [Zb7] at hn
   simp only [Zao] at hok
   obtain ⟨t,rfl,ht⟩:=h1 r om hok.1
   obtain ⟨ts,rfl,hts⟩:=ihr om hok.2
   exact ⟨t::ts,by simp [Zab],by simp only [Zaz];exact ⟨ht,hts⟩⟩
theorem ZlM {rows:List (List C)} (h:Zao (Zad .term) rows):∃ ts,rows=Zab ts∧Zaz ts:=(ZBR _).2 rows (Tam _) h
theorem Zaz.mem:∀ {ts:List Tm} {t:Tm},Zaz ts->t∈ts->okTm t
 | [],_,_,h=>by simp at h
 | x::xs,t,h,ht=>by
  simp only [Zaz] at h
  rcases Tbg.1 ht with rfl | ht
  ·exact h.1
  ·exact Zaz.mem h.2 ht
def ZaY (a b:Int):Int:=if a < b then -1 else if b < a then 1 else 0
def ZbE (a b:ByteArray):Int:=Lib.compareBytes a.data.toList b.data.toList
def ZaA:List Int->Int
 | []=>0
 | x::xs=>if x=0 then ZaA xs else x
mutual
def Zak:Tm->Tm->Int
 | .mk o n s a,.mk o' n' s' a'=>ZaA [ZaY o o',ZbE n n',ZaY s s',ZaM a a']
def ZaM:List Tm->List Tm->Int
 | [],[]=>0
 | [],_::_=>-1
 | _::_,[]=>1
 | x::xs,y::ys=>ZaA [Zak x y,ZaM xs ys]
end
theorem Zep:∀ (l:List UInt8),Lib.compareBytes l l=0
 | []=>rfl
 | x::xs=>by simp [Lib.compareBytes,Zep xs]
theorem Zeq:∀ {l m:List UInt8},Lib.compareBytes l m=0->l=m
 | [],[],_=>rfl
 | [],_::_,h=>by simp [Lib.compareBytes] at h
 | _::_,[],h=>by simp [Lib.compareBytes] at h
 | x::xs,y::ys,h=>by
  simp only [Lib.compareBytes] at h
  split at h
  ·simp at h
  ·split at h
   ·simp at h
   ·rename_i h1 h2
    have e:x=y:=UInt8.le_antisymm (UInt8.not_lt.1 h2) (UInt8.not_lt.1 h1)
    rw [e,Zeq h]
theorem ZfX:∀ (l m:List UInt8),Op.bytesLess l m=decide (Lib.compareBytes l m=-1)
 | [],[]=>by simp [Op.bytesLess,Lib.compareBytes]
 | [],_::_=>by simp [Op.bytesLess,Lib.compareBytes]
 | _::_,[]=>by simp [Op.bytesLess,Lib.compareBytes]
 | x::xs,y::ys=>by
  have ih:=ZfX xs ys
  simp only [Op.bytesLess,Lib.compareBytes,ih]
  by_cases h1:x < y
  ·simp [h1]
  ·by_cases h2:y < x
   ·have:¬ x=y:=fun e=>by subst e;exact h1 h2
    simp [h1,h2,this]
   ·have e:x=y:=UInt8.le_antisymm (UInt8.not_lt.1 h2) (UInt8.not_lt.1 h1)
    subst e
    simp [h1]
theorem ZfJ:∀ (l m:List UInt8),Lib.compareBytes l m=-1∨Lib.compareBytes l m=0∨Lib.compareBytes l m=1
 | [],[]=>by simp [Lib.compareBytes]
 | [],_::_=>by simp [Lib.compareBytes]
 | _::_,[]=>by simp [Lib.compareBytes]
 | x::xs,y::ys=>by
  have ih:=ZfJ xs ys
  simp only [Lib.compareBytes]
  split
  ·simp
  ·split
   ·simp
   ·exact ih
theorem ZcU {a b:Int}:ZaY a b=0 ↔ a=b:=by unfold ZaY;split <;> (try split) <;> simp <;> omega
theorem Zft {a b:ByteArray}:ZbE a b=0 ↔ a=b:=by
 constructor
 ·intro h
  have:=Zeq h
  obtain ⟨⟨la⟩⟩:=a
  obtain ⟨⟨lb⟩⟩:=b
  simp at this
  rw [this]
 ·rintro rfl
  exact Zep _
theorem ZpZ (a b:ByteArray):ZbE a b=-1∨ZbE a b=0∨ZbE a b=1:=ZfJ _ _
theorem Zhr:∀ {ps qs:List Tm} {k:Nat} {x y:Tm},ps[k]?=some x->qs[k]?=some y->ZaM (ps.drop k) (qs.drop k)=ZaA [Zak x y,ZaM (ps.drop (k+1)) (qs.drop (k+1))]:=by
 intro ps qs k x y h1 h2
 have e1:ps.drop k=x::ps.drop (k+1):=by
  obtain ⟨hl,hx⟩:=Tac.1 h1
  rw [<- hx];exact List.drop_eq_getElem_cons hl
 have e2:qs.drop k=y::qs.drop (k+1):=by
  obtain ⟨hl,hx⟩:=Tac.1 h2
  rw [<- hx];exact List.drop_eq_getElem_cons hl
 rw [e1,e2,ZaM]
theorem ZlN (a b:Int) (w:World):Calls Tryz.prog 133 #[.int .i64 a,.int .i64 b] w fun e w'=>e=.returned (.int .i64 (ZaY a b))∧w=w':=by
 unfold ZaY
 by_cases h1:a < b
 ·rw [if_pos h1]
  go_enter Tryz.func133,Tryz.ntmps133
  go_wp2
  go_ret
  exact ⟨rfl,rfl⟩
 ·by_cases h2:b < a
  ·rw [if_neg h1,if_pos h2]
   go_enter Tryz.func133,Tryz.ntmps133
   go_wp2
   go_ret
   exact ⟨rfl,rfl⟩
  ·rw [if_neg h1,if_neg h2]
   go_enter Tryz.func133,Tryz.ntmps133
   go_wp2
   go_ret
   exact ⟨rfl,rfl⟩
theorem ZmU (a b:ByteArray) (w:World):Calls Tryz.prog 201 #[.string a,.string b] w fun e w'=>e=.returned (.int .i64 (ZbE a b))∧w=w':=by
 go_enter Tryz.func201,Tryz.ntmps201
 go_wp2
 rw [run_callFunc_extern Tryz.func240 (by kernel_rfl) (by kernel_rfl) (by kernel_rfl) (e:=Extern.BytealgCompare.compare) (by kernel_rfl),Lib.run_compareString]
 simp only [Result.andThen]
 rw [Oper.upon_value]
 go_wp2
 go_ret
 exact ⟨rfl,rfl⟩
theorem ZhL (a b:ByteArray) (w:World):Calls Tryz.prog 134 #[.string a,.string b] w fun e w'=>e=.returned (.int .i64 (ZbE a b))∧w=w':=by
 go_enter Tryz.func134,Tryz.ntmps134
 go_wp2_with fail
 refine (ZmU _ _ _).mono ?_
 rintro e w' ⟨rfl,rfl⟩
 go_wp2
 go_ret
 exact ⟨rfl,rfl⟩
theorem Zi9 {l:List Int} {k:Nat} {x:Int} (h:l[k]?=some x):ZaA (l.drop k)=if x=0 then ZaA (l.drop (k+1)) else x:=by
 obtain ⟨hl,hx⟩:=Tac.1 h
 rw [List.drop_eq_getElem_cons hl,hx,ZaA]
theorem ZHH (l:List Int) (g n cap:Nat) (w:World) (hn:l.length=n) (hm:n<=9223372036854775807) (hc:∀ (i:Nat) x,l[i]?=some x->w.cell? ⟨g,i,none⟩=some (.int .i64 x)) :
  Calls Tryz.prog 132 #[.slice (some ⟨g,0,none⟩) n cap] w fun e w'=>e=.returned (.int .i64 (ZaA l))∧w=w':=by
 have HC:=Lib.hid hc
 have HN:=Lib.hid hn
 clear hc hn
 go_enter Tryz.func132,Tryz.ntmps132
 go_wp2
 go_loop [8] (fun i=>∃ k:Nat,k<=n∧i=.int .i64 k∧ZaA l=ZaA (l.drop k)) (fun i=>n - (intOf i).toNat)
 case atStart=>exact ⟨0,Tai _,rfl,rfl⟩
 case round =>
  obtain ⟨k,hk,rfl,hz⟩:=hrel
  have HZ:=Lib.hid hz
  clear hz
  by_cases hkn:k < n
  ·have hget:l[k]?=some (l[k]'(by have:=HN.out;omega)):=Taa _
   generalize (l[k]'(by have:=HN.out;omega))=x at hget
   have hcell:=HC.out k x hget
   have hd:=Lib.hid (Zi9 hget)
   clear hget
   by_cases hx:x=0
   ·subst hx
    go_wp2
    go_round
    case rel=>exact ⟨k+1,by omega,by go_num,by rw [HZ.out,hd.out,if_pos rfl]⟩
    case measure=>simp [intOf];omega
   ·have hx1:(x==0)=false:=by simpa using hx
    have hx2:(x != 0)=true:=by simpa using hx
    go_wp2
    go_ret
    exact ⟨Zaw (by rw [HZ.out,hd.out,if_neg hx]),rfl⟩
  ·go_wp2
   go_ret
   refine ⟨Zaw ?_,rfl⟩
   rw [HZ.out,List.drop_eq_nil_of_le (by have:=HN.out;omega)]
   rfl
theorem Zp0 (t:Tm):(encTm t).length=4:=by cases t;rfl
theorem Zuz (t:Tm):(encTm t).take 4=encTm t:=by cases t;rfl
theorem ZuA (t:Tm):(encTm t).drop 4=[]:=by cases t;rfl
theorem ZvT (t:Tm):(encTm t).all ZaE=true:=by cases t;rfl
theorem Zdd (ts:List Tm):ZaT 4 (Zab ts)=true:=by
 rw [Zbi]
 exact Zdc (e:=encTm) (n:=4) (fun t=>by rw [Zp0,ZvT];rfl) ts
theorem ZFC (t:Tm):valT .one (encTm t)=some (.d (.one (.lit (.int .i64 t.op)))):=by cases t;rfl
theorem ZFD (t:Tm):(encTm t).drop 1=[.lit (.string t.name),.lit (.int .i64 t.sort),.sl (Zab t.args)]:=by cases t;rfl
theorem ZFE (t:Tm):(encTm t).drop 2=[.lit (.int .i64 t.sort),.sl (Zab t.args)]:=by cases t;rfl
theorem ZFF (t:Tm):(encTm t).drop 3=[.sl (Zab t.args)]:=by cases t;rfl
theorem tmz:type_of% (ai ZFC (ai ZFD (ai ZFE (ai ZFF (ai Zp0 (ai Zuz (ai ZuA (ai ZvT (ai Zdd (ai ZbH (ai Zac @ZcB))))))))))):=(ai ZFC (ai ZFD (ai ZFE (ai ZFF (ai Zp0 (ai Zuz (ai ZuA (ai ZvT (ai Zdd (ai ZbH (ai Zac @ZcB)))))))))))
theorem Zp1 {e:Env} {f:FuncId} {args:List D} {x:Value} (hb:Zb3 e.P f=true) (h:∀ (w:World) (S:Nat->Prop) (vs:List Value),ZaI w S args vs->Calls e.P f vs.toArray w fun en w'=>en=.returned x∧w=w'):Con e f args [.one (.lit x)] :=
 ⟨hb,fun w S vs _ _ hG hv=>(h w S vs hv).mono fun en w' ⟨h1,h2⟩=>by subst h2;exact ⟨x,h1,Kept.refl ..,hG,by simp [retA,ARel,DRel,Rep]⟩⟩
theorem ZBS {e:Env} {f:FuncId} {args r:List D} {φ:Prop} (hb:Zb3 e.P f=true) (hφ:∀ (w:World) (S:Nat->Prop) (vs:List Value),ZaI w S args vs->φ) (h:φ->Con e f args r):Con e f args r :=
 ⟨hb,fun w S vs h1 h2 h3 h4=>(h (hφ w S vs h4)).2 w S vs h1 h2 h3 h4⟩
theorem ZnH (a b:Int):Con e1 133 [.one (.lit (.int .i64 a)),.one (.lit (.int .i64 b))] [.one (.lit (.int .i64 (ZaY a b)))]:=by
 refine Zp1 (by kernel_rfl) fun w S vs h=>?_
 match vs,h with
 | [x,y],h =>
  obtain ⟨hx,hy,_⟩:=h
  have hx:x=.int .i64 a:=hx
  have hy:y=.int .i64 b:=hy
  subst hx hy
  exact ZlN a b w
theorem ZzX (a b:ByteArray):Con e1 134 [.one (.lit (.string a)),.one (.lit (.string b))] [.one (.lit (.int .i64 (ZbE a b)))]:=by
 refine Zp1 (by kernel_rfl) fun w S vs h=>?_
 match vs,h with
 | [x,y],h =>
  obtain ⟨hx,hy,_⟩:=h
  have hx:x=.string a:=hx
  have hy:y=.string b:=hy
  subst hx hy
  exact ZhL a b w
theorem ZvU (l:List Int) (hl:l.length<=1048576):Con e1 132 [.clip (l.map fun n=>[.lit (.int .i64 n)])] [.one (.lit (.int .i64 (ZaA l)))]:=by
 have rb:ZaT 1 (l.map fun n=>[C.lit (.int .i64 n)])=true:=Zdc (e:=fun n=>[C.lit (.int .i64 n)]) (n:=1) (fun _=>rfl) l
 refine gI (ts:=[.slot 2]) 17389 Tryz.func132 ?_
 (have F:=@rb;refine gG ?_;clear F)
 (have F:=@rb;refine gL (ι:=Nat) [2,5,8,9,14] [] (fun x=>[(8,.d (.one (.lit (.int .i64 (x:Int)))))]) (fun x=>[]) (fun x=>x<=l.length∧ZaA l=ZaA (l.drop x)) (fun x=>l.length - x) (0) (⟨Tai _,rfl⟩) (fun x hx=>?_);clear F)
 obtain ⟨hi,hf⟩:=hx
 rw [hf]
 clear hf
 by_cases hlt:x < l.length
 ·obtain ⟨n,hn⟩:∃ n,l[x]?=some n:=⟨_,Taa hlt⟩
  have q1:((x:Int) < (l.length:Int))=True:=eq_true om
  have q4:IntKind.i64.wrap ((x:Int)+1)=(x:Int)+1:=IntWalk.i64_in _ om
  rw [Zi9 hn]
  by_cases h0:n=0
  ·subst h0
   rw [if_pos rfl]
   (have F:=ai @q1 (ai @rb @hn);refine gG ?_;clear F)
   (have F:=@q4;refine gG ?_;exact ⟨x+1,⟨hlt,rfl⟩,gw,gw,by omega⟩)
  ·have q2:(n=0)=False:=eq_false h0
   rw [if_neg h0]
   (have F:=ai @q1 (ai @rb (ai @hn @q2));refine gG ?_;exact gTd)
 ·obtain rfl:x=l.length:=by omega
  have q1:((l.length:Int) < (l.length:Int))=False:=eq_false om
  rw [List.drop_length]
  simp only [ZaA]
  (have F:=@q1;refine gG ?_;exact gTd)
theorem ZrR {b:List Tm} {k:Nat} {xs:List Tm} (h:xs.length<=k):ZaM (xs.drop k) b=if b=[] then 0 else -1:=by
 rw [List.drop_eq_nil_of_le h]
 cases b with
 | nil=>simp [ZaM]
 | cons x xs=>simp [ZaM]
theorem ZrS {a:Tm} {k:Nat} {xs bs:List Tm} (ha:xs[k]?=some a) (h:bs.length<=k):ZaM (xs.drop k) (bs.drop k)=1:=by
 obtain ⟨hl,hx⟩:=Tac.1 ha
 rw [List.drop_eq_nil_of_le h,List.drop_eq_getElem_cons hl]
 simp [ZaM]
theorem ZlO (xs bs:List Tm) (hla:xs.length<=maxLen) (hlb:bs.length<=maxLen) (h:∀ a∈xs,∀ b∈bs,Con e1 82 [.agg (encTm a),.agg (encTm b)] [.one (.lit (.int .i64 (Zak a b)))]):Con e1 135 [.one (.sl (Zab xs)),.one (.sl (Zab bs)),.one (.fn 82 [])] [.one (.lit (.int .i64 (ZaM xs bs)))]:=by
 unfold maxLen at hla hlb
 refine gI (ts:=[.slot 6]) 277027520455 Tryz.func135 ?_
 (have F:=@tmz;refine gG ?_;clear F)
 (have F:=@tmz;refine gL (ι:=Nat) [6,7,8,9,10,13,14,21,31] [] (fun x=>[(13,.d (.one (.lit (.int .i64 (x:Int)))))]) (fun x=>[]) (fun x=>x<=xs.length∧x<=bs.length∧ZaM xs bs=ZaM (xs.drop x) (bs.drop x)) (fun x=>xs.length - x) (0) (⟨Tai _,Tai _,rfl⟩) (fun x hx=>?_);clear F)
 obtain ⟨hi,hj,hf⟩:=hx
 rw [hf]
 clear hf
 by_cases hlt:x < xs.length
 ·obtain ⟨a,ha⟩:∃ n,xs[x]?=some n:=⟨_,Taa hlt⟩
  have q1:((x:Int) < (xs.length:Int))=True:=eq_true om
  by_cases hlt2:x < bs.length
  ·obtain ⟨b,hb⟩:∃ n,bs[x]?=some n:=⟨_,Taa hlt2⟩
   have q2:((x:Int) ≥ (bs.length:Int))=False:=eq_false om
   have q4:IntKind.i64.wrap ((x:Int)+1)=(x:Int)+1:=IntWalk.i64_in _ om
   rw [Zhr ha hb]
   simp only [ZaA]
   (have F:=ai @q1 (ai @q2 (ai @tmz (ai @ha @hb)));refine gG ?_;clear F)
   refine gB ?_
   (have F:=@tmz;refine gC (h a (Tab ha) b (Tab hb)) ?_;clear F)
   (have F:=@tmz;refine gR ?_;clear F)
   by_cases h0:Zak a b=0
   ·have q3:(Zak a b=0)=True:=eq_true h0
    rw [if_pos h0,show (if ZaM (xs.drop (x+1)) (bs.drop (x+1))=0 then (0:Int) else ZaM (xs.drop (x+1)) (bs.drop (x+1)))=ZaM (xs.drop (x+1)) (bs.drop (x+1)) by split <;> simp_all]
    (have F:=ai @tmz @q3;refine gG ?_;clear F)
    (have F:=@q4;refine gG ?_;exact ⟨x+1,⟨hlt,hlt2,rfl⟩,gw,gw,by omega⟩)
   ·have q3:(Zak a b=0)=False:=eq_false h0
    rw [if_neg h0]
    (have F:=ai @tmz @q3;refine gG ?_;exact gTd)
  ·have q2:((x:Int) ≥ (bs.length:Int))=True:=eq_true om
   rw [ZrS ha om]
   (have F:=ai @q1 (ai @q2 (ai @tmz @ha));refine gG ?_;exact gTd)
 ·have q1:((x:Int) < (xs.length:Int))=False:=eq_false om
  rw [ZrR om]
  by_cases h2:xs.length < bs.length
  ·have q2:((xs.length:Int) < (bs.length:Int))=True:=eq_true om
   rw [if_neg (by intro e;have:=congrArg List.length e;simp at this;omega)]
   (have F:=ai @q1 (ai @q2 @tmz);refine gG ?_;exact gTd)
  ·have q2:((xs.length:Int) < (bs.length:Int))=False:=eq_false om
   rw [if_pos (by apply List.drop_eq_nil_of_le;omega)]
   (have F:=ai @q1 (ai @q2 @tmz);refine gG ?_;exact gTd)
theorem ZuB {w:World} {S:Nat->Prop} {rows:List (List C)} {v:Value} (h:Rep w S (.sl rows) v):rows.length<=maxLen:=by
 simp only [Rep] at h
 obtain ⟨A,n,cap,_,h1,h2,h3,_⟩:=h
 omega
theorem Zp2 (xs bs:List Tm) (h:∀ a∈xs,∀ b∈bs,Con e1 82 [.agg (encTm a),.agg (encTm b)] [.one (.lit (.int .i64 (Zak a b)))]):Con e1 135 [.one (.sl (Zab xs)),.one (.sl (Zab bs)),.one (.fn 82 [])] [.one (.lit (.int .i64 (ZaM xs bs)))]:=by
 refine ZBS (φ:=xs.length<=maxLen∧bs.length<=maxLen) (by kernel_rfl) (fun w S vs hv=>?_) fun hφ=>ZlO xs bs hφ.1 hφ.2 h
 match vs,hv with
 | [x,y,z],hv =>
  have h1:=ZuB hv.1
  have h2:=ZuB hv.2.1
  rw [Zac] at h1 h2
  exact ⟨h1,h2⟩
theorem ZrT (a b:Tm) (h:∀ x∈a.args,∀ y∈b.args,Con e1 82 [.agg (encTm x),.agg (encTm y)] [.one (.lit (.int .i64 (Zak x y)))]):Con e1 82 [.agg (encTm a),.agg (encTm b)] [.one (.lit (.int .i64 (Zak a b)))]:=by
 obtain ⟨o,n,s,xs⟩:=a
 obtain ⟨o',n',s',bs⟩:=b
 simp only [Tm.args] at h
 have c1:encTm (.mk o n s xs)=[.lit (.int .i64 o),.lit (.string n),.lit (.int .i64 s),.sl (Zab xs)]:=by simp only [encTm]
 have c2:encTm (.mk o' n' s' bs)=[.lit (.int .i64 o'),.lit (.string n'),.lit (.int .i64 s'),.sl (Zab bs)]:=by simp only [encTm]
 have e3:Zak (.mk o n s xs) (.mk o' n' s' bs)=if ZaA [ZaY o o',ZbE n n',ZaY s s']=0 then ZaM xs bs else ZaA [ZaY o o',ZbE n n',ZaY s s']:=by
  simp only [Zak,ZaA]
  by_cases h1:ZaY o o'=0
  ·by_cases h2:ZbE n n'=0
   ·by_cases h3:ZaY s s'=0
    ·simp only [h1,h2,h3,if_true]
     split <;> simp_all
    ·simp only [h1,h2,h3,if_true,if_false]
   ·simp only [h1,h2,if_true,if_false]
  ·simp only [h1,if_false]
 have hor:=ZvU [ZaY o o',ZbE n n',ZaY s s'] (by simp)
 simp only [Tbv,List.map_nil] at hor
 rw [e3]
 refine gI (ts:=[.slot 4]) 16777279 Tryz.func82 ?_
 (have F:=ai @c1 @c2;refine gG ?_;clear F)
 refine gB ?_
 (have F:=ai @c1 @c2;refine gC (ZnH o o') ?_;clear F)
 (have F:=ai @c1 @c2;refine gC (ZzX n n') ?_;clear F)
 (have F:=ai @c1 @c2;refine gC (ZnH s s') ?_;clear F)
 (have F:=ai @c1 @c2;refine gC (hor) ?_;clear F)
 (have F:=ai @c1 @c2;refine gR ?_;clear F)
 by_cases h0:ZaA [ZaY o o',ZbE n n',ZaY s s']=0
 ·have q3:(ZaA [ZaY o o',ZbE n n',ZaY s s']=0)=True:=eq_true h0
  rw [if_pos h0]
  (have F:=ai @q3 (ai @c1 @c2);refine gG ?_;clear F)
  refine gB ?_
  (have F:=ai @c1 @c2;refine gC (Zp2 xs bs h) ?_;clear F)
  (have F:=ai @c1 @c2;refine gR ?_;clear F)
  (have F:=ai @c1 @c2;refine gG ?_;exact gTd)
 ·have q3:(ZaA [ZaY o o',ZbE n n',ZaY s s']=0)=False:=eq_false h0
  rw [if_neg h0]
  (have F:=ai @q3 (ai @c1 @c2);refine gG ?_;exact gTd)
theorem ZvV (n:Nat):∀ a b:Tm,ZbJ (encTm a) < n->Con e1 82 [.agg (encTm a),.agg (encTm b)] [.one (.lit (.int .i64 (Zak a b)))]:=by
 induction n with
 | zero=>exact fun _ _ h=>by omega
 | succ n ih =>
  intro a b hn
  refine ZrT a b fun x hx y hy=>ih x y ?_
  obtain ⟨op,nm,so,args⟩:=a
  simp only [encTm,ZbJ,ZeQ] at hn
  simp only [Tm.args] at hx
  obtain ⟨i,hi⟩:=Tbk hx
  have hi':(Zab args)[i]?=some (encTm x):=by rw [ZbH,hi];rfl
  have h1:=Zdw hi'
  omega
theorem Zff (a b:Tm):Con e1 82 [.agg (encTm a),.agg (encTm b)] [.one (.lit (.int .i64 (Zak a b)))]:=ZvV _ a b (Tam _)
def ZfK (f:FuncId) (a b:Tm):Prop:=∀ (S S':Nat->Prop) (us us':List Value) (w:World),okTm a->okTm b->Zaa w S (encTm a) us->Zaa w S' (encTm b) us' ->
 Calls Tryz.prog f #[.agg us.toArray,.agg us'.toArray] w fun e w'=>e=.returned (.int .i64 (Zak a b))∧Below w.heap.size w w'
def ZjX (f:FuncId) (x y:List Tm):Prop:=∀ (S S':Nat->Prop) (v v':Value) (w:World),Zaz x->Zaz y->Rep w S (.sl (Zab x)) v->Rep w S' (.sl (Zab y)) v' ->
 Calls Tryz.prog f #[v,v',.func (.func 82) #[] #[]] w fun e w'=>e=.returned (.int .i64 (ZaM x y))∧Below w.heap.size w w'
theorem ZfS {a b:Int} (h:a=0):ZaA [a,b]=b:=by
 simp only [ZaA,h,if_true]
 split <;> simp_all
theorem Zhs {a b:Int} (h:a≠0):ZaA [a,b]=a:=by simp [ZaA,h]
theorem Zja (x y:List Tm) (h:∀ (i:Nat) a b,x[i]?=some a->y[i]?=some b->ZfK 82 a b):ZjX 135 x y:=by
 intro S S' v v' w hx hy hv hv'
 obtain ⟨A,m,cap,rfl,hm,hmc,hcm⟩:=hv.form
 obtain ⟨A',m',cap',rfl,hm',hmc',hcm'⟩:=hv'.form
 rw [Zac] at hm hm'
 obtain ⟨ic,hci,_,hcs,_⟩:=info_parts ZnG
 have H:=Lib.hid h
 have HV:=Lib.hid hv
 have HV':=Lib.hid hv'
 have HM:=Lib.hid hm
 have HM':=Lib.hid hm'
 have HX:=Lib.hid hx
 have HY:=Lib.hid hy
 clear h hv hv' hm hm' hx hy
 unfold maxLen at hcm hcm'
 go_enter Tryz.func135,Tryz.ntmps135
 go_wp2
 go_loopw [13] (fun i wr=>∃ k:Nat,k<=m∧k<=m'∧i=.int .i64 k∧ZaM x y=ZaM (x.drop k) (y.drop k)∧Below w.heap.size w wr) (fun i _=>m - (intOf i).toNat)
 case atStart=>exact ⟨0,Tai _,Tai _,rfl,rfl,Below.refl _ _⟩
 case round =>
  obtain ⟨k,hk,hk',rfl,hz,hb⟩:=hrel
  have HZ:=Lib.hid hz
  clear hz
  by_cases hkm:k < m
  ·obtain ⟨b,off,r,rfl,hS,hbz,hget,hokr,hrow⟩:=(HV.out.below hb).get (Zee x HX.out) hkm
   obtain ⟨u0,u1,u2,u3,c0,c1,c2,c3,hvals⟩:=hrow.vals4 hokr.len
   have hone:=Zal.one hokr hvals
   rw [ZbH] at hget
   obtain ⟨t,ht,rfl⟩:=Tau.1 hget
   have HVALS:=Lib.hid hvals
   have HONE:=Lib.hid hone
   have HT:=Lib.hid ht
   clear hvals hokr hrow hget hone ht
   simp only [Zad,Za2,Taf,Taj,Nat.reduceAdd] at c0 c1 c2 c3
   by_cases hkm':k < m'
   ·obtain ⟨b',off',r',rfl,hS',hbz',hget',hokr',hrow'⟩:=(HV'.out.below hb).get (Zee y HY.out) hkm'
    obtain ⟨x0,x1,x2,x3,d0,d1,d2,d3,hvals'⟩:=hrow'.vals4 hokr'.len
    have hone':=Zal.one hokr' hvals'
    rw [ZbH] at hget'
    obtain ⟨t',ht',rfl⟩:=Tau.1 hget'
    have HVALS':=Lib.hid hvals'
    have HONE':=Lib.hid hone'
    have HT':=Lib.hid ht'
    clear hvals' hokr' hrow' hget' hone' ht'
    simp only [Zad,Za2,Taf,Taj,Nat.reduceAdd] at d0 d1 d2 d3
    have hbb:∀ o1 o2,Below w.heap.size w ((wr.alloc o1).alloc o2):=fun o1 o2=>(hb.alloc hb.size o1).alloc (by have:=hb.size;simp;omega) o2
    have hbr:∀ o1 o2,Below wr.heap.size wr ((wr.alloc o1).alloc o2):=fun o1 o2=>((Below.refl _ _).alloc (Tah _) o1).alloc (by simp) o2
    have hbne:b'≠wr.heap.size:=by omega
    have HC:=Lib.hid (H.out k t t' HT.out HT'.out)
    go_wp2_with (first
     | refine ZeE rfl 46 _ _ rfl _ _ _ rfl _ rfl (by simp) [u0,u1,u2,u3] rfl ic hci hcs rfl HONE.out ?_
     | refine ZeE rfl 46 _ _ rfl _ _ _ rfl _ rfl (by simp) [x0,x1,x2,x3] rfl ic hci hcs rfl HONE'.out ?_)
    refine (HC.out S S' _ _ _ (HX.out.mem (Tab HT.out)) (HY.out.mem (Tab HT'.out)) (HVALS.out.below (hbr _ _)) (HVALS'.out.below (hbr _ _))).mono ?_
    rintro e w2 ⟨rfl,hb2⟩
    have HST:=Lib.hid (Zhr HT.out HT'.out)
    generalize hc:Zak t t'=c at HST ⊢
    clear hc
    by_cases hc0:c=0
    ·subst hc0
     go_wp2
     go_roundw
     case rel=>exact ⟨k+1,by omega,by omega,by go_num,by rw [HZ.out,HST.out,ZfS rfl],(hbb _ _).trans (hb2.mono (by have:=hb.size;simp;omega))⟩
     case measure=>simp [intOf];omega
    ·have hc1:(c==0)=false:=by simpa using hc0
     have hc2:(c != 0)=true:=by simpa using hc0
     go_wp2
     go_ret
     exact ⟨Zaw (by rw [HZ.out,HST.out,Zhs hc0]),(hbb _ _).trans (hb2.mono (by have:=hb.size;simp;omega))⟩
   ·go_wp2_with (refine ZeE rfl 46 _ _ rfl _ _ _ rfl _ rfl (by simp) [u0,u1,u2,u3] rfl ic hci hcs rfl HONE.out ?_)
    go_ret
    refine ⟨Zaw (a:=1) ?_,hb.alloc hb.size _⟩
    rw [HZ.out]
    have e2:y.drop k=[]:=List.drop_eq_nil_of_le (by have:=HM'.out;omega)
    have e1:x.drop k=t::x.drop (k+1):=by
     obtain ⟨hl,hx⟩:=Tac.1 HT.out
     rw [<- hx];exact List.drop_eq_getElem_cons hl
    rw [e1,e2,ZaM]
  ·have e1:x.drop k=[]:=List.drop_eq_nil_of_le (by have:=HM.out;omega)
   by_cases hlt:m < m'
   ·go_wp2
    go_ret
    refine ⟨Zaw (a:=-1) ?_,hb⟩
    have hl:k < y.length:=by have:=HM'.out;omega
    rw [HZ.out,e1,List.drop_eq_getElem_cons hl,ZaM]
   ·go_wp2
    go_ret
    refine ⟨Zaw (a:=0) ?_,hb⟩
    rw [HZ.out,e1,List.drop_eq_nil_of_le (by have:=HM'.out;omega),ZaM]
theorem Zhd (W:World) (o:Obj) (p:Addr) (h:p.block < W.heap.size):(W.alloc o).drew.cell? p=W.cell? p:=(show (W.alloc o).drew.cell? p=(W.alloc o).cell? p from rfl).trans (World.cell?_alloc_lt W o p h)
theorem ZoC {W:World} {l:List Int} {t:TypeId}:∀ (i:Nat) x,l[i]?=some x->(W.alloc (.cells (l.map (Value.int .i64)).toArray t)).drew.cell? ⟨W.heap.size,i,none⟩=some (.int .i64 x):=by
 intro i x h
 show (W.alloc (.cells (l.map (Value.int .i64)).toArray t)).cell? ⟨W.heap.size,i,none⟩=_
 rw [cell_of_row _ _ _ _ _ _ (heap_alloc_new W _)]
 simp [h]
theorem Ze8 (a b:Tm) (h:ZjX 135 a.args b.args):ZfK 82 a b:=by
 intro S S' us us' w ha hb hv hv'
 obtain ⟨o,n,s,x⟩:=a
 obtain ⟨o',n',s',y⟩:=b
 simp only [encTm] at hv hv'
 obtain ⟨v3,rfl,e3⟩:=ZbR hv
 obtain ⟨v3',rfl,e3'⟩:=ZbR hv'
 simp only [okTm] at ha hb
 have HX:=Lib.hid ha.2.2.2
 have HY:=Lib.hid hb.2.2.2
 have H:=Lib.hid h
 have E:=Lib.hid e3
 have E':=Lib.hid e3'
 have HF:Hid (Zak (.mk o n s x) (.mk o' n' s' y)=ZaA [ZaA [ZaY o o',ZbE n n',ZaY s s'],ZaM x y]):=by
  show _=_
  simp only [Zak,ZaA]
  repeat' split
  all_goals first | rfl | simp_all
 clear ha hb h e3 e3' hv hv'
 go_enter Tryz.func82,Tryz.ntmps82
 go_wp2_with fail
 generalize hW:(w.alloc _).alloc _=W
 have hbW:Below w.heap.size w W:=by rw [<- hW];exact ((Below.refl _ _).alloc (Tah _) _).alloc (by simp) _
 have p0:W.cell? ⟨w.heap.size,0,none⟩=some (.int .i64 o):=by rw [<- hW];simp
 have p1:W.cell? ⟨w.heap.size,1,none⟩=some (.string n):=by rw [<- hW];simp
 have p2:W.cell? ⟨w.heap.size,2,none⟩=some (.int .i64 s):=by rw [<- hW];simp
 have p3:W.cell? ⟨w.heap.size,3,none⟩=some v3:=by rw [<- hW];simp
 have q0:W.cell? ⟨w.heap.size+1,0,none⟩=some (.int .i64 o'):=by rw [<- hW];simp
 have q1:W.cell? ⟨w.heap.size+1,1,none⟩=some (.string n'):=by rw [<- hW];simp
 have q2:W.cell? ⟨w.heap.size+1,2,none⟩=some (.int .i64 s'):=by rw [<- hW];simp
 have q3:W.cell? ⟨w.heap.size+1,3,none⟩=some v3':=by rw [<- hW];simp
 have z0:w.heap.size < W.heap.size:=by rw [<- hW];simp;omega
 have z1:w.heap.size+1 < W.heap.size:=by rw [<- hW];simp
 have HOR:=Lib.hid (fun w=>ZHH [ZaY o o',ZbE n n',ZaY s s'] W.heap.size 3 3 w rfl om)
 clear hW
 go_region_held3 (fun w'=>∀ b o,b < W.heap.size->w'.cell? ⟨b,o,none⟩=W.cell? ⟨b,o,none⟩) (first | exact fun b o h=>Zhd _ _ _ h | go_keep)
  (first
   | (go_at_call 133;refine (ZlN _ _ _).mono ?_;rintro e w' ⟨rfl,rfl⟩)
   | (go_at_call 134;refine (ZhL _ _ _).mono ?_;rintro e w' ⟨rfl,rfl⟩)
   | (go_at_call 132;refine (HOR.out _ (ZoC (W:=W))).mono ?_;rintro e w' ⟨rfl,rfl⟩))
 have hbD:∀ o1,Below w.heap.size w (W.alloc o1).drew:=fun o1=>(hbW.alloc hbW.size o1).drew
 have hcd:∀ o1 b o,b < W.heap.size->(W.alloc o1).drew.cell? ⟨b,o,none⟩=W.cell? ⟨b,o,none⟩:=fun o1 b o h=>Zhd W o1 ⟨b,o,none⟩ h
 generalize hc:ZaA [ZaY o o',ZbE n n',ZaY s s']=c at HF ⊢
 clear hc
 by_cases hc0:c=0
 ·subst hc0
  go_wp2_with fail
  refine (H.out S S' _ _ _ HX.out HY.out (E.out.below (hbD _)) (E'.out.below (hbD _))).mono ?_
  rintro e w2 ⟨rfl,hb2⟩
  go_wp2
  go_ret
  exact ⟨Zaw (by rw [HF.out,ZfS rfl];rfl),(hbD _).trans (hb2.mono (hbD _).size)⟩
 ·have hc1:(c==0)=false:=by simpa using hc0
  have hc2:(c != 0)=true:=by simpa using hc0
  go_wp2
  go_ret
  exact ⟨Zaw (by rw [HF.out,Zhs hc0]),hbD _⟩
mutual
def sizeTm:Tm->Nat
 | .mk _ _ _ a=>1+sizeTms a
def sizeTms:List Tm->Nat
 | []=>0
 | t::ts=>sizeTm t+sizeTms ts
end
theorem Zht:∀ {ts:List Tm} {i:Nat} {t:Tm},ts[i]?=some t->sizeTms t.args < sizeTms ts
 | [],_,_,h=>by simp at h
 | x::xs,0,t,h=>by
  simp at h
  subst h
  cases x
  simp only [sizeTms,sizeTm,Tm.args]
  omega
 | x::xs,i+1,t,h=>by
  have:=Zht (ts:=xs) (i:=i) (by simpa using h)
  simp only [sizeTms]
  omega
theorem ZiM (n:Nat):∀ x y,sizeTms x < n->ZjX 135 x y:=by
 induction n with
 | zero=>intro x y h;omega
 | succ n ih=>exact fun x y h=>Zja x y (fun i a b ha hb=>Ze8 a b (ih _ _ (by have:=Zht ha;omega)))
theorem ZlP (x y:List Tm):ZjX 135 x y:=ZiM _ x y (Tam _)
theorem ZkQ (a b:Tm):ZfK 82 a b:=Ze8 a b (ZlP _ _)
theorem ZiN (a b:Tm) (h:∀ (i:Nat) p q,a.args[i]?=some p->b.args[i]?=some q->ZfK 114 p q):ZfK 114 a b:=by
 intro S S' us us' w ha hb hv hv'
 obtain ⟨o,n,s,x⟩:=a
 obtain ⟨o',n',s',y⟩:=b
 simp only [encTm] at hv hv'
 obtain ⟨v3,rfl,e3⟩:=ZbR hv
 obtain ⟨v3',rfl,e3'⟩:=ZbR hv'
 simp only [okTm] at ha hb
 have HX:=Lib.hid ha.2.2.2
 have HY:=Lib.hid hb.2.2.2
 have H:=Lib.hid h
 have hbW:=((Below.refl w.heap.size w).alloc (Tah _) (.cells #[.int .i64 o,.string n,.int .i64 s,v3] 46)).alloc (by simp) (.cells #[.int .i64 o',.string n',.int .i64 s',v3'] 46)
 by_cases ho:o=o'
 case neg =>
  have ho1:(o==o')=false:=by simpa using ho
  have ho2:(o != o')=true:=by simpa using ho
  have hz:ZaY o o'≠0:=fun e=>ho (ZcU.1 e)
  have HF:Hid (Zak (.mk o n s x) (.mk o' n' s' y)=ZaY o o'):=by show _=_;simp only [Zak,ZaA,if_neg hz]
  clear hz h H ha hb hv hv' e3 e3' ho
  by_cases hlt:o < o'
  ·go_enter Tryz.func114,Tryz.ntmps114
   go_wp2
   go_ret
   exact ⟨Zaw (a:=-1) (by rw [HF.out];unfold ZaY;rw [if_pos hlt]),hbW⟩
  ·have HL:=Lib.hid hlt
   go_enter Tryz.func114,Tryz.ntmps114
   go_wp2
   go_ret
   exact ⟨Zaw     (a := 1) (by have h1 : o ≠ o' := by simpa using ho1
                               have:=HL.out
                               rw [HF.out];unfold ZaY;rw [if_neg om,if_pos om]),hbW⟩
 subst ho
 have hz0:ZaY o o=0:=ZcU.2 rfl
 by_cases hn:n=n'
 case neg =>
  have hz:ZbE n n'≠0:=fun e=>hn (Zft.1 e)
  have HF:Hid (Zak (.mk o n s x) (.mk o n' s' y)=ZbE n n'):=by show _=_;simp only [Zak,ZaA,if_pos hz0,if_neg hz]
  clear h H ha hb hv hv' e3 e3' hz0
  have hn1:(n.toList==n'.toList)=false:=by
   simp only [beq_eq_false_iff_ne,ne_eq,ByteArray.toList_eq]
   intro e
   apply hn
   obtain ⟨⟨la⟩⟩:=n
   obtain ⟨⟨lb⟩⟩:=n'
   simp at e
   rw [e]
  have hlq:Op.bytesLess n.toList n'.toList=decide (ZbE n n'=-1):=by rw [ByteArray.toList_eq,ByteArray.toList_eq];exact ZfX _ _
  have HZ:=Lib.hid hz
  have HR:=Lib.hid (ZpZ n n')
  clear hn hz
  by_cases hlt:ZbE n n'=-1
  ·have hl1:Op.bytesLess n.toList n'.toList=true:=by rw [hlq];simpa using hlt
   have HLT:=Lib.hid hlt
   clear hlq hlt
   go_enter Tryz.func114,Tryz.ntmps114
   go_wp2
   go_ret
   exact ⟨Zaw (a:=-1) (by rw [HF.out,HLT.out]),hbW⟩
  ·have hl1:Op.bytesLess n.toList n'.toList=false:=by rw [hlq];simpa using hlt
   have HLT:=Lib.hid hlt
   clear hlq hlt
   go_enter Tryz.func114,Tryz.ntmps114
   go_wp2
   go_ret
   exact ⟨Zaw     (a := 1) (by rw [HF.out]; rcases HR.out with e | e | e
                               ·exact absurd e HLT.out
                               ·exact absurd e HZ.out
                               ·exact e.symm),hbW⟩
 subst hn
 have hz1:ZbE n n=0:=Zft.2 rfl
 by_cases hs:s=s'
 case neg =>
  have hs1:(s==s')=false:=by simpa using hs
  have hs2:(s != s')=true:=by simpa using hs
  have hz:ZaY s s'≠0:=fun e=>hs (ZcU.1 e)
  have HF:Hid (Zak (.mk o n s x) (.mk o n s' y)=ZaY s s'):=by show _=_;simp only [Zak,ZaA,if_pos hz0,if_pos hz1,if_neg hz]
  clear hz h H ha hb hv hv' e3 e3' hs hz0 hz1
  by_cases hlt:s < s'
  ·go_enter Tryz.func114,Tryz.ntmps114
   go_wp2
   go_ret
   exact ⟨Zaw (a:=-1) (by rw [HF.out];unfold ZaY;rw [if_pos hlt]),hbW⟩
  ·have HL:=Lib.hid hlt
   go_enter Tryz.func114,Tryz.ntmps114
   go_wp2
   go_ret
   exact ⟨Zaw     (a := 1) (by have h1 : s ≠ s' := by simpa using hs1
                               have:=HL.out
                               rw [HF.out];unfold ZaY;rw [if_neg om,if_pos om]),hbW⟩
 subst hs
 have HF:Hid (Zak (.mk o n s x) (.mk o n s y)=ZaM x y):=by
  show _=_
  simp only [Zak,ZaA,if_pos hz0,if_pos hz1,if_pos (ZcU.2 (rfl:s=s))]
  split <;> simp_all
 obtain ⟨A,m,cap,rfl,hm,hmc,hcm⟩:=e3.form
 obtain ⟨A',m',cap',rfl,hm',hmc',hcm'⟩:=e3'.form
 rw [Zac] at hm hm'
 have HM:=Lib.hid hm
 have HM':=Lib.hid hm'
 have HV:=Lib.hid e3
 have HV':=Lib.hid e3'
 clear hz0 hz1 h ha hb hv hv' e3 e3' hm hm'
 unfold maxLen at hcm hcm'
 go_enter Tryz.func114,Tryz.ntmps114
 go_wp2
 generalize hW:(w.alloc _).alloc _=W at hbW ⊢
 have p3:W.cell? ⟨w.heap.size,3,none⟩=some (.slice A m cap):=by rw [<- hW];simp
 have q3:W.cell? ⟨w.heap.size+1,3,none⟩=some (.slice A' m' cap'):=by rw [<- hW];simp
 have z0:w.heap.size < W.heap.size:=by rw [<- hW];simp;omega
 have z1:w.heap.size+1 < W.heap.size:=by rw [<- hW];simp
 have HVW:=Lib.hid (HV.out.below hbW)
 have HVW':=Lib.hid (HV'.out.below hbW)
 clear hW HV HV'
 go_loopw [5] (fun i wr=>∃ k:Nat,k<=m∧k<=m'∧i=.int .i64 k∧ZaM x y=ZaM (x.drop k) (y.drop k)∧Below W.heap.size W wr) (fun i _=>m - (intOf i).toNat)
 case atStart=>exact ⟨0,Tai _,Tai _,rfl,rfl,Below.refl _ _⟩
 case round =>
  obtain ⟨k,hk,hk',rfl,hz,hb⟩:=hrel
  have HZ:=Lib.hid hz
  clear hz
  obtain ⟨hcw,_⟩:=Za8 hb
  have hbw':Below w.heap.size w wr:=hbW.trans (hb.mono hbW.size)
  by_cases hkm:k < m
  ·obtain ⟨b,off,r,rfl,hS,hbz,hget,hokr,hrow⟩:=HVW.out.get (Zee x HX.out) hkm
   obtain ⟨u0,u1,u2,u3,c0,c1,c2,c3,hvals⟩:=hrow.vals4 hokr.len
   rw [ZbH] at hget
   obtain ⟨t,ht,rfl⟩:=Tau.1 hget
   have HVALS:=Lib.hid hvals
   have HT:=Lib.hid ht
   clear hvals hokr hrow hget ht
   simp only [Zad,Za2,Taf,Taj,Nat.reduceAdd] at c0 c1 c2 c3
   have k0:(0:Int)<=(k:Int):=by omega
   have k1:(k:Int) < (m:Int):=by omega
   have hd1:decide (k < m)=true:=by simpa using hkm
   by_cases hkm':k < m'
   ·obtain ⟨b',off',r',rfl,hS',hbz',hget',hokr',hrow'⟩:=HVW'.out.get (Zee y HY.out) hkm'
    obtain ⟨x0,x1,x2,x3,d0,d1,d2,d3,hvals'⟩:=hrow'.vals4 hokr'.len
    rw [ZbH] at hget'
    obtain ⟨t',ht',rfl⟩:=Tau.1 hget'
    have HVALS':=Lib.hid hvals'
    have HT':=Lib.hid ht'
    clear hvals' hokr' hrow' hget' ht'
    simp only [Zad,Za2,Taf,Taj,Nat.reduceAdd] at d0 d1 d2 d3
    have k2:(k:Int) < (m':Int):=by omega
    have hd2:decide (k < m')=true:=by simpa using hkm'
    have HC:=Lib.hid (H.out k t t' HT.out HT'.out)
    go_wp2_with fail
    go_region_held3 (fun w'=>∀ b o,b < W.heap.size->w'.cell? ⟨b,o,none⟩=W.cell? ⟨b,o,none⟩) (first | exact fun b o h=>(hb2.cell (p:=⟨b,o,none⟩) (Tbd h hb.size)).trans (hcw b o h) | exact fun b o h=>hcw b o h | go_keep)
     (first | (go_at_call 114;refine (HC.out S S' _ _ _ (HX.out.mem (Tab HT.out)) (HY.out.mem (Tab HT'.out)) (HVALS.out.below hb.drew) (HVALS'.out.below hb.drew)).mono ?_;rintro e w2 ⟨rfl,hb2⟩))
    have hbq:Below W.heap.size W w2:=hb.drew.trans (hb2.mono (show W.heap.size<=wr.heap.size from hb.size))
    have HST:=Lib.hid (Zhr HT.out HT'.out)
    generalize hc:Zak t t'=c at HST ⊢
    clear hc
    by_cases hc0:c=0
    ·subst hc0
     go_wp2
     go_roundw
     case rel=>exact ⟨k+1,by omega,by omega,by go_num,by rw [HZ.out,HST.out,ZfS rfl],hbq⟩
     case measure=>simp [intOf];omega
    ·have hc1:(c==0)=false:=by simpa using hc0
     have hc2:(c != 0)=true:=by simpa using hc0
     go_wp2
     go_ret
     exact ⟨Zaw (by rw [HF.out,HZ.out,HST.out,Zhs hc0]),hbW.trans (hbq.mono hbW.size)⟩
   ·have hd2:decide (k < m')=false:=by simpa using hkm'
    have hmm:¬ m < m':=by omega
    have hmm2:m' < m:=by omega
    go_wp2
    go_ret
    refine ⟨Zaw (a:=1) ?_,hbw'⟩
    rw [HF.out,HZ.out]
    have e2:y.drop k=[]:=List.drop_eq_nil_of_le (by have:=HM'.out;omega)
    have e1:x.drop k=t::x.drop (k+1):=by
     obtain ⟨hl,hx⟩:=Tac.1 HT.out
     rw [<- hx];exact List.drop_eq_getElem_cons hl
    rw [e1,e2,ZaM]
  ·have e1:Hid (x.drop k=[]):=Lib.hid (List.drop_eq_nil_of_le (by have:=HM.out;omega))
   have hd1:decide (k < m)=false:=by simpa using hkm
   by_cases hlt:m < m'
   ·go_wp2
    go_ret
    refine ⟨Zaw (a:=-1) ?_,hbw'⟩
    have hl:k < y.length:=by have:=HM'.out;omega
    rw [HF.out,HZ.out,e1.out,List.drop_eq_getElem_cons hl,ZaM]
   ·have hlt2:¬ m' < m:=by omega
    go_wp2
    go_ret
    refine ⟨Zaw (a:=0) ?_,hbw'⟩
    rw [HF.out,HZ.out,e1.out,List.drop_eq_nil_of_le (by have:=HM'.out;omega),ZaM]
theorem Zh9 (n:Nat):∀ a b,sizeTm a < n->ZfK 114 a b:=by
 induction n with
 | zero=>intro a b h;omega
 | succ n ih =>
  intro a b h
  refine ZiN a b (fun i p q hp hq=>ih p q ?_)
  have h1:=Zht hp
  cases a
  cases p
  simp only [sizeTm,Tm.args] at h h1 ⊢
  omega
theorem ZkR (a b:Tm):ZfK 114 a b:=Zh9 _ a b (Tam _)
theorem ZgB {n:Int} (h0:0<=n) (h1:n < 9223372036854775808):IntKind.i64.wrap n=n:=by
 simp [IntKind.wrap,IntKind.bits,IntKind.signed]
 omega
theorem ZfL {a:Nat} (h:a < 18446744073709551616):(BitVec.ofInt 64 (a:Int)).toNat=a:=by
 rw [BitVec.toNat_ofInt]
 omega
theorem Zc8 {a b:Nat} (ha:a < 4611686018427387904) (hb:b < 4611686018427387904):bits .or .i64 (a:Int) (b:Int)=((a ||| b:Nat):Int):=by
 have h:a ||| b < 2 ^ 62:=Nat.or_lt_two_pow om om
 have e:(BitVec.ofInt IntKind.i64.bits (a:Int) ||| BitVec.ofInt IntKind.i64.bits (b:Int)).toNat=a ||| b:=by
  rw [BitVec.toNat_or]
  show (BitVec.ofInt 64 (a:Int)).toNat ||| (BitVec.ofInt 64 (b:Int)).toNat=_
  rw [ZfL om,ZfL om]
 unfold bits
 show IntKind.i64.wrap _=_
 rw [e]
 exact ZgB om om
theorem Zd5 {a b:Nat} (ha:a < 4611686018427387904) (hb:b < 4611686018427387904):bits .and .i64 (a:Int) (b:Int)=((a &&& b:Nat):Int):=by
 have h:a &&& b < 2 ^ 62:=Nat.and_lt_two_pow _ om
 have e:(BitVec.ofInt IntKind.i64.bits (a:Int) &&& BitVec.ofInt IntKind.i64.bits (b:Int)).toNat=a &&& b:=by
  rw [BitVec.toNat_and]
  show (BitVec.ofInt 64 (a:Int)).toNat &&& (BitVec.ofInt 64 (b:Int)).toNat=_
  rw [ZfL om,ZfL om]
 unfold bits
 show IntKind.i64.wrap _=_
 rw [e]
 exact ZgB om om
theorem ZgC {k:Nat} (h:k < 62):2 ^ k < 4611686018427387904:=Tbd (Nat.pow_lt_pow_right om h) om
theorem testBit_and (a k:Nat):((a &&& 2 ^ k) != 0)=a.testBit k:=by
 cases h:a.testBit k
 ·have:a &&& 2 ^ k=0:=by
   apply Nat.eq_of_testBit_eq
   intro j
   rw [Nat.testBit_and,Nat.testBit_two_pow,Nat.zero_testBit]
   by_cases hj:k=j
   ·subst hj;simp [h]
   ·simp [hj]
  simp [this]
 ·have:¬ (a &&& 2 ^ k=0):=by
   intro h0
   have h1:(a &&& 2 ^ k).testBit k=true:=by rw [Nat.testBit_and,Nat.testBit_two_pow];simp [h]
   rw [h0,Nat.zero_testBit] at h1
   simp at h1
  simp [this]
theorem ZrU {a k:Nat} (ha:a < 4611686018427387904):(bits .and .i64 ((a:Int) / 2 ^ k) 1==1)=a.testBit k:=by
 have e:(a:Int) / 2 ^ k=((a / 2 ^ k:Nat):Int):=by simp
 have h1:a / 2 ^ k<=a:=Nat.div_le_self _ _
 have h2:bits .and .i64 ((a / 2 ^ k:Nat):Int) ((1:Nat):Int)=_:=Zd5 om om
 rw [e]
 rw [show (1:Int)=((1:Nat):Int) from rfl,h2,Nat.testBit,Nat.shiftRight_eq_div_pow,Nat.and_comm]
 have h3:1 &&& a / 2 ^ k < 2:=by rw [Nat.one_and_eq_mod_two];omega
 generalize 1 &&& a / 2 ^ k=x at h3 ⊢
 have:x=0∨x=1:=by omega
 rcases this with rfl | rfl <;> rfl
def Zc7 (l:List Nat) (p:Int × Int):List Nat:=l.set p.1.toNat (l.getD p.1.toNat 0 ||| l.getD p.2.toNat 0)
def ZGb (subs:List (Int × Int)) (l:List Nat):List Nat:=subs.foldl Zc7 l
def Zc2 (subs:List (Int × Int)):Nat->List Nat->List Nat
 | 0,l=>l
 | k+1,l=>ZGb subs (Zc2 subs k l)
def up0 (n:Nat):List Nat:=(List.range n).map (2 ^ ·)
def up (s:Srt):List Nat:=Zc2 s.subs s.names.length (up0 s.names.length)
def ZbU (l:List Nat):List Int:=l.map (fun (n:Nat)=>(n:Int))
def ZbP (n:Nat) (subs:List (Int × Int)):Prop:=∀ p∈subs,0<=p.1∧p.1 < n∧0<=p.2∧p.2 < n
def UpOk (n:Nat) (l:List Nat):Prop:=l.length=n∧∀ x∈l,x < 2 ^ n
theorem UpOk.get {n:Nat} {l:List Nat} (h:UpOk n l) {i:Nat} (hi:i < n):l[i]?=some (l.getD i 0)∧l.getD i 0 < 2 ^ n:=by
 have hl:i < l.length:=by rw [h.1];exact hi
 have e:l[i]?=some l[i]:=Taa hl
 have e2:l.getD i 0=l[i]:=by simp [List.getD,e]
 rw [e2]
 exact ⟨e,h.2 _ (List.getElem_mem hl)⟩
theorem UpOk.sub {n:Nat} {l:List Nat} (h:UpOk n l) {p:Int × Int} (hp:0<=p.1∧p.1 < n∧0<=p.2∧p.2 < n):UpOk n (Zc7 l p):=by
 refine ⟨by unfold Zc7;rw [Tay];exact h.1,fun x hx=>?_⟩
 unfold Zc7 at hx
 rcases List.mem_or_eq_of_mem_set hx with hx | rfl
 ·exact h.2 x hx
 ·exact Nat.or_lt_two_pow (h.get (i:=p.1.toNat) om).2 (h.get (i:=p.2.toNat) om).2
theorem UpOk.foldl {n:Nat}:∀ {subs:List (Int × Int)} {l:List Nat},UpOk n l->ZbP n subs->UpOk n (subs.foldl Zc7 l)
 | [],l,h,_=>h
 | p::ps,l,h,hs=>UpOk.foldl (subs:=ps) (h.sub (hs p (by simp))) (fun q hq=>hs q (by simp [hq]))
theorem UpOk.iter {n:Nat} {subs:List (Int × Int)} (hs:ZbP n subs):∀ (k:Nat) {l:List Nat},UpOk n l->UpOk n (Zc2 subs k l)
 | 0,l,h=>h
 | k+1,l,h=>(UpOk.iter hs k h).foldl hs
theorem UpOk.start (n:Nat):UpOk n (up0 n):=by
 refine ⟨by simp [up0],fun x hx=>?_⟩
 simp only [up0,Tbi,List.mem_range] at hx
 obtain ⟨i,hi,rfl⟩:=hx
 exact Nat.pow_lt_pow_right om hi
theorem ZdT {s:Srt} (h:ZbP s.names.length s.subs):UpOk s.names.length (up s):=UpOk.iter h _ (UpOk.start _)
theorem Zia {α β:Type} {f:β->α->β} {l:List α} {k:Nat} {a:α} (h:l[k]?=some a) (b:β):(l.take (k+1)).foldl f b=f ((l.take k).foldl f b) a:=by
 rw [Zcu h,List.foldl_append];rfl
theorem ZbP.take {n:Nat} {subs:List (Int × Int)} (h:ZbP n subs) (k:Nat):ZbP n (subs.take k):=fun p hp=>h p (List.mem_of_mem_take hp)
theorem Zhe (l:List Nat):(ZbU l).length=l.length:=by simp [ZbU]
theorem ZnI {l:List Nat} {i x:Nat} (h:l[i]?=some x):(ZbU l)[i]?=some (x:Int):=by simp [ZbU,h]
theorem ZzY (l:List Nat) (i x:Nat):ZbU (l.set i x)=(ZbU l).set i (x:Int):=by simp [ZbU,List.map_set]
theorem ZvW (l:List Nat) (x:Nat):ZbU (l++[x])=ZbU l++[(x:Int)]:=by simp [ZbU]
def ZdU (n k:Nat):List Nat:=up0 k++List.replicate (n - k) 0
theorem ZzZ {n k:Nat} (h:k<=n):(ZdU n k).length=n:=by simp [ZdU,up0];omega
theorem Zz0 {n k:Nat} (h:k < n):(ZdU n k).set k (2 ^ k)=ZdU n (k+1):=by
 unfold ZdU
 have e:n - k=(n - (k+1))+1:=by omega
 have e2:up0 (k+1)=up0 k++[2 ^ k]:=by simp [up0,List.range_succ]
 have e3:(up0 k).length=k:=by simp [up0]
 rw [e,List.replicate_succ,List.set_append_right _ _ om,e3,Nat.sub_self,List.set_cons_zero,e2,Tbf]
 rfl
theorem Zz1 (n:Nat):ZdU n n=up0 n:=by simp [ZdU]
theorem ZBT (k:Nat):up0 (k+1)=up0 k++[2 ^ k]:=by simp [up0,List.range_succ]
def Zbl (l:List ByteArray) (s:ByteArray):Bool:=l.any (fun t=>s.toList==t.toList)
def ZcP (n:Int):Bool:=decide (48<=n∧n<=57) || decide (65<=n∧n<=90) || decide (97<=n∧n<=122)
def Zjb (s:ByteArray) (i:Nat):Int:=if h:i < s.size then (s[i].toNat:Int) else 0
def Zbf (s:ByteArray) (k:Nat):Bool:=(List.range' k (s.size - k)).all (fun i=>ZcP (Zjb s i) && !(i==0 && decide (Zjb s i<=57)))
def Zbm (s:ByteArray):Bool:=decide (1<=s.size∧s.size<=12) && !(s.toList==[105,102]) && !(s.toList==[97,110,100]) && Zbf s 0
theorem ZoD {s:ByteArray} {k:Nat} (h:k < s.size):Zbf s k=((ZcP (s[k].toNat:Int) && !(k==0 && decide ((s[k].toNat:Int)<=57))) && Zbf s (k+1)):=by
 have eb:Zjb s k=(s[k].toNat:Int):=by unfold Zjb;rw [dif_pos h]
 rw [<- eb]
 unfold Zbf
 have e:s.size - k=(s.size - (k+1))+1:=by omega
 rw [e,List.range'_succ,List.all_cons]
theorem Zjc {s:ByteArray} {k:Nat} (h:s.size<=k):Zbf s k=true:=by
 unfold Zbf
 have e:s.size - k=0:=by omega
 rw [e]
 rfl
theorem Zcs {s:ByteArray} (h:s.size < 1∨12 < s.size∨s.toList=[105,102]∨s.toList=[97,110,100]):Zbm s=false:=by
 unfold Zbm
 rcases h with h | h | h | h
 ·have:¬ (1<=s.size∧s.size<=12):=by omega
  simp [this]
 ·have:¬ (1<=s.size∧s.size<=12):=by omega
  simp [this]
 ·simp [h]
 ·simp [h]
def Zfu (n:Nat) (p:Int × Int):Prop:=0<=p.1∧p.1 < n∧0<=p.2∧p.2 < n∧p.1≠p.2
def Zjd (names:List ByteArray) (i:Nat):Prop:=∀ x,names[i]?=some x->Zbm x=true∧Zbl (names.take i) x=false
def Zc3 (u:List Nat) (i k:Nat):Prop:=¬ (i≠k∧(u.getD i 0).testBit k=true∧(u.getD k 0).testBit i=true)
structure SortsOk (s:Srt):Prop where
 n1:1<=s.names.length
 n8:s.names.length<=8
 m16:s.subs.length<=16
 names:∀ i,i < s.names.length->Zjd s.names i
 subs:∀ p∈s.subs,Zfu s.names.length p
 pairs:∀ i k,i < s.names.length->k < s.names.length->Zc3 (up s) i k
open Classical in
noncomputable def ZbZ (s:Srt):Bool:=decide (SortsOk s)
theorem Zd6 {s:Srt} (h:SortsOk s):ZbZ s=true:=by unfold ZbZ;simp [h]
theorem ZfT {s:Srt} (h:¬ SortsOk s):ZbZ s=false:=by unfold ZbZ;simp [h]
theorem ZrV {s:Srt}:ZbZ s=true ↔ SortsOk s:=by unfold ZbZ;simp
theorem SortsOk.subsIn {s:Srt} (h:∀ p∈s.subs,Zfu s.names.length p):ZbP s.names.length s.subs:=fun p hp=>⟨(h p hp).1,(h p hp).2.1,(h p hp).2.2.1,(h p hp).2.2.2.1⟩
theorem ZuC {a b:ByteArray}:(a.toList==b.toList)=(b.toList==a.toList):=by
 rw [Bool.eq_iff_iff]
 simp
 exact ⟨fun h=>h.symm,fun h=>h.symm⟩
theorem ZrW {l:List ByteArray} {s x:ByteArray} {k:Nat} (h:l[k]?=some x):Zbl (l.drop k) s=((x.toList==s.toList) || Zbl (l.drop (k+1)) s):=by
 obtain ⟨hl,hx⟩:=Tac.1 h
 rw [List.drop_eq_getElem_cons hl,hx,Zbl,List.any_cons,ZuC]
 rfl
theorem ZrX (l:List ByteArray) (t s:ByteArray):Zbl (l++[t]) s=(Zbl l s || (s.toList==t.toList)):=by simp [Zbl,List.any_append]
def kSub (l:List Nat) (p:Int × Int):List Nat:=(l.set p.1.toNat (min (l.getD p.1.toNat 0) (l.getD p.2.toNat 0))).set p.2.toNat (min (l.getD p.1.toNat 0) (l.getD p.2.toNat 0))
def Zct (subs:List (Int × Int)):Nat->List Nat->List Nat
 | 0,l=>l
 | k+1,l=>subs.foldl kSub (Zct subs k l)
def kinds (s:Srt):List Nat:=Zct s.subs s.names.length (List.range s.names.length)
def KOk (n:Nat) (l:List Nat):Prop:=l.length=n∧∀ x∈l,x < n
theorem KOk.get {n:Nat} {l:List Nat} (h:KOk n l) {i:Nat} (hi:i < n):l[i]?=some (l.getD i 0)∧l.getD i 0 < n:=by
 have hl:i < l.length:=by rw [h.1];exact hi
 have e:l[i]?=some l[i]:=Taa hl
 have e2:l.getD i 0=l[i]:=by simp [List.getD,e]
 rw [e2]
 exact ⟨e,h.2 _ (List.getElem_mem hl)⟩
theorem KOk.sub {n:Nat} {l:List Nat} (h:KOk n l) {p:Int × Int} (hp:0<=p.1∧p.1 < n∧0<=p.2∧p.2 < n):KOk n (kSub l p):=by
 refine ⟨by unfold kSub;rw [Tay,Tay];exact h.1,fun x hx=>?_⟩
 have hm:min (l.getD p.1.toNat 0) (l.getD p.2.toNat 0) < n:=by
  have:=(h.get (i:=p.1.toNat) om).2
  omega
 unfold kSub at hx
 rcases List.mem_or_eq_of_mem_set hx with hx | rfl
 ·rcases List.mem_or_eq_of_mem_set hx with hx | rfl
  ·exact h.2 x hx
  ·exact hm
 ·exact hm
theorem KOk.foldl {n:Nat}:∀ {subs:List (Int × Int)} {l:List Nat},KOk n l->ZbP n subs->KOk n (subs.foldl kSub l)
 | [],l,h,_=>h
 | p::ps,l,h,hs=>KOk.foldl (subs:=ps) (h.sub (hs p (by simp))) (fun q hq=>hs q (by simp [hq]))
theorem KOk.iter {n:Nat} {subs:List (Int × Int)} (hs:ZbP n subs):∀ (k:Nat) {l:List Nat},KOk n l->KOk n (Zct subs k l)
 | 0,l,h=>h
 | k+1,l,h=>(KOk.iter hs k h).foldl hs
theorem KOk.start (n:Nat):KOk n (List.range n):=⟨by simp,fun x hx=>by simpa using hx⟩
theorem Zib {s:Srt} (h:ZbP s.names.length s.subs):KOk s.names.length (kinds s):=KOk.iter h _ (KOk.start _)
def ZbS (a k:Nat):List Nat:=(List.range k).filter (fun j=>a.testBit j)
def Zbq (a:Nat):List Nat:=ZbS a 16
theorem ZlQ {a k:Nat} (h:a.testBit k=true):ZbS a (k+1)=ZbS a k++[k]:=by simp [ZbS,List.range_succ,List.filter_append,h]
theorem ZnJ {a k:Nat} (h:a.testBit k=false):ZbS a (k+1)=ZbS a k:=by simp [ZbS,List.range_succ,List.filter_append,h]
theorem Zf8 (a k:Nat):(ZbS a k).length<=k:=by
 have:=List.length_filter_le (fun j=>a.testBit j) (List.range k)
 simpa [ZbS] using this
def downIn (i:Nat) (l:List Nat) (ks:List Nat):List Nat:=ks.foldl (fun l k=>l.set k (l.getD k 0 ||| 2 ^ i)) l
def downs (u:List Nat):Nat->List Nat->List Nat
 | 0,l=>l
 | m+1,l=>downIn m (downs u m l) (Zbq (u.getD m 0))
def down (s:Srt):List Nat:=downs (up s) s.names.length (List.replicate s.names.length 0)
theorem UpOk.or {n:Nat} {l:List Nat} (h:UpOk n l) {k i:Nat} (hk:k < n) (hi:i < n):UpOk n (l.set k (l.getD k 0 ||| 2 ^ i)):=by
 refine ⟨by rw [Tay];exact h.1,fun x hx=>?_⟩
 rcases List.mem_or_eq_of_mem_set hx with hx | rfl
 ·exact h.2 x hx
 ·exact Nat.or_lt_two_pow (h.get hk).2 (Nat.pow_lt_pow_right om hi)
theorem UpOk.downIn {n i:Nat} (hi:i < n):∀ {ks l:List Nat},UpOk n l->(∀ k∈ks,k < n)->UpOk n (downIn i l ks)
 | [],l,h,_=>h
 | k::ks,l,h,hk=>UpOk.downIn (ks:=ks) hi (h.or (hk k (by simp)) hi) (fun q hq=>hk q (by simp [hq]))
theorem Zje {a n:Nat} (h:a < 2 ^ n):∀ k∈Zbq a,k < n:=by
 intro k hk
 simp only [Zbq,ZbS,List.mem_filter,List.mem_range] at hk
 refine Decidable.byContradiction fun hn=>?_
 have:=Tbu (Tbd h (Tbt om (by omega:n<=k)))
 rw [this] at hk
 simp at hk
theorem UpOk.downs {n:Nat} {u:List Nat} (hu:UpOk n u):∀ (m:Nat) {l:List Nat},m<=n->UpOk n l->UpOk n (downs u m l)
 | 0,l,_,h=>h
 | m+1,l,hm,h=>(UpOk.downs hu m om h).downIn om (Zje (hu.get om).2)
theorem UpOk.zeros (n:Nat):UpOk n (List.replicate n 0):=⟨by simp,fun x hx=>by rw [(List.mem_replicate.1 hx).2];exact Nat.two_pow_pos n⟩
theorem ZmV {s:Srt} (h:ZbP s.names.length s.subs):UpOk s.names.length (down s):=UpOk.downs (ZdT h) _ (Tah _) (UpOk.zeros _)
def ZdV (n k:Nat):List Nat:=List.range k++List.replicate (n - k) 0
theorem ZnK {n k:Nat} (h:k<=n):(ZdV n k).length=n:=by simp [ZdV];omega
theorem Zz2 {n k:Nat} (h:k < n):(ZdV n k).set k k=ZdV n (k+1):=by
 unfold ZdV
 rw [List.set_append_right _ _ (by simp),List.length_range,Nat.sub_self,List.range_succ]
 obtain ⟨m,hm⟩:∃ m,n - k=m+1:=⟨n - k - 1,by omega⟩
 rw [hm,show n - (k+1)=m by omega]
 simp [List.replicate_succ]
theorem Zz3 (n:Nat):ZdV n n=List.range n:=by simp [ZdV]
def kd (s:Srt) (k:Int):Nat:=(kinds s).getD k.toNat 0
structure DeclOk (s:Srt) (f d:Dcl):Prop where
 len:d.args.length=f.args.length
 res:0<=d.res∧d.res < s.names.length
 args:∀ k∈d.args,0<=k∧k < s.names.length
 kres:kd s d.res=kd s f.res
 kargs:∀ (i:Nat) (a b:Int),d.args[i]?=some a->f.args[i]?=some b->kd s a=kd s b
structure DeclsOk (s:Srt) (o:Opr):Prop where
 len1:1<=o.decls.length
 len4:o.decls.length<=4
 ar:∀ f,o.decls[0]?=some f->f.args.length<=3
 all:∀ f,o.decls[0]?=some f->∀ d∈o.decls,DeclOk s f d
open Classical in
noncomputable def Zcj (s:Srt) (o:Opr):Bool:=decide (DeclsOk s o)
theorem ZeY {s:Srt} {o:Opr} (h:DeclsOk s o):Zcj s o=true:=by simp [Zcj,h]
theorem ZiC {s:Srt} {o:Opr} (h:¬ DeclsOk s o):Zcj s o=false:=by simp [Zcj,h]
theorem Zkq {s:Srt} {o:Opr}:Zcj s o=true ↔ DeclsOk s o:=by simp [Zcj]
structure AxOk (g:Sgn) (o:Opr):Prop where
 lo:0<=o.unit
 hi:o.unit<=g.ops.length
 two:(o.assoc=true∨o.comm=true∨o.unit≠0)->∀ d,o.decls[0]?=some d->d.args.length=2∧∀ a b,d.args[0]?=some a->d.args[1]?=some b->kd g.sorts a=kd g.sorts b∧((o.assoc=true∨o.unit≠0)->kd g.sorts a=kd g.sorts d.res) ∧
  (o.unit≠0->∀ (p:Opr) (u:Dcl),g.ops[o.unit.toNat - 1]?=some p->p.decls[0]?=some u->u.args.length=0∧kd g.sorts u.res=kd g.sorts d.res)
open Classical in
noncomputable def axOk (g:Sgn) (o:Opr):Bool:=decide (AxOk g o)
theorem Zdx {g:Sgn} {o:Opr} (h:AxOk g o):axOk g o=true:=by simp [axOk,h]
theorem ZlR {g:Sgn} {o:Opr} (h:¬ AxOk g o):axOk g o=false:=by simp [axOk,h]
theorem Zp3 {g:Sgn} {o:Opr}:axOk g o=true ↔ AxOk g o:=by simp [axOk]
theorem DeclsOk.first {s:Srt} {o:Opr} (h:DeclsOk s o):∃ d,o.decls[0]?=some d∧DeclOk s d d:=by
 have h1:=h.len1
 exact ⟨o.decls[0],Taa om,h.all _ (Taa om) _ (List.getElem_mem _)⟩
theorem Zp4 {l:List Int} (h:l.length=2):∃ a b,l=[a,b]:=len2 h
def ZbB (l:List Opr):List ByteArray:=l.map (·.name)
structure SgnOk (g:Sgn):Prop where
 sorts:SortsOk g.sorts
 len:g.ops.length<=14
 names:∀ (i:Nat) (o:Opr),g.ops[i]?=some o->Zbm o.name=true∧Zbl (ZbB (g.ops.take i)) o.name=false
 decls:∀ o∈g.ops,DeclsOk g.sorts o
 axs:∀ o∈g.ops,AxOk g o
open Classical in
noncomputable def Zcb (g:Sgn):Bool:=decide (SgnOk g)
theorem Zf9 {g:Sgn} (h:SgnOk g):Zcb g=true:=by simp [Zcb,h]
theorem Zhu {g:Sgn} (h:¬ SgnOk g):Zcb g=false:=by simp [Zcb,h]
theorem Zjf {g:Sgn}:Zcb g=true ↔ SgnOk g:=by simp [Zcb]
theorem Zjg {l:List Opr} {k:Nat} {o:Opr} (h:l[k]?=some o):ZbB (l.take (k+1))=ZbB (l.take k)++[o.name]:=by
 rw [Zcu h];simp [ZbB]
theorem ZgD {s:ByteArray} {k:Nat} {b:UInt8} (h:s[k]?=some b):Zbf s k=((ZcP (b.toNat:Int) && !(k==0 && decide ((b.toNat:Int)<=57))) && Zbf s (k+1)):=by
 obtain ⟨hk,rfl⟩:=getElem?_eq_some_iff.1 h
 exact ZoD hk
theorem Zp5 (n:Int):Con e0 221 [.one (.lit (.int .u8 n))] [.one (.lit (.bool (ZcP n)))]:=by
 by_cases h1:48<=n <;> by_cases h2:n<=57 <;> by_cases h3:65<=n <;> by_cases h4:n<=90 <;> by_cases h5:97<=n <;> by_cases h6:n<=122 <;> first
  | (exfalso;omega)
  | (have hr : ZcP   n = true := by simp [ZcP  , h1, h2, h3, h4, h5, h6]
     refine gI 5 Tryz.func221 ?_
     (have F:=ai @h1 (ai @h2 (ai @h3 (ai @h4 (ai @h5 (ai @h6 @hr)))));refine gG ?_;exact gT))
  | (have hr : ZcP   n = false := by simp [ZcP  , h1, h2, h3, h4, h5, h6]
     refine gI 5 Tryz.func221 ?_
     (have F:=ai @h1 (ai @h2 (ai @h3 (ai @h4 (ai @h5 (ai @h6 @hr)))));refine gG ?_;exact gT))
theorem strL (l:List UInt8):(⟨l.toArray⟩:ByteArray).toList=l:=by
 rw [ByteArray.toList_eq]
section
variable {s:ByteArray}
theorem ZnL (h1:1<=s.size) (h2:s.size<=12) (h3:¬ s.toList=[105,102]) (h4:¬ s.toList=[97,110,100]):Zbm s=Zbf s 0:=by
 simp [Zbm,h1,h2,h3,h4]
theorem ZgE (hs:s.size<=maxLen):Con e0 160 [.one (.lit (.string s))] [.one (.lit (.bool (Zbm s)))]:=by
 have l1:(⟨#[105,102]⟩:ByteArray).toList=[105,102]:=strL [105,102]
 have l2:(⟨#[97,110,100]⟩:ByteArray).toList=[97,110,100]:=strL [97,110,100]
 refine gI 1099520540685 Tryz.func160 ?_
 by_cases h1:1<=s.size
 rotate_left
 ·have hf:=Zcs (s:=s) (.inl om)
  have z1:((s.size:Int) < 1)=True:=eq_true om
  (have F:=ai @z1 @hf;refine gG ?_;exact gT)
 have z1:((s.size:Int) < 1)=False:=eq_false om
 by_cases h2:s.size<=12
 rotate_left
 ·have hf:=Zcs (s:=s) (.inr (.inl om))
  have z2:((12:Int) < s.size)=True:=eq_true om
  (have F:=ai @z1 (ai @z2 @hf);refine gG ?_;exact gT)
 have z2:((12:Int) < s.size)=False:=eq_false om
 by_cases h3:s.toList=[105,102]
 ·have hf:=Zcs (s:=s) (.inr (.inr (.inl h3)))
  (have F:=ai @z1 (ai @z2 (ai @l1 (ai @h3 (ai @beq_self_eq_true.{0} @hf))));refine gG ?_;exact gT)
 have z3:(s.toList==[105,102])=false:=by simpa using h3
 by_cases h4:s.toList=[97,110,100]
 ·have hf:=Zcs (s:=s) (.inr (.inr (.inr h4)))
  have z3:(([97,110,100]:List UInt8)==[105,102])=false:=by decide
  (have F:=ai @z1 (ai @z2 (ai @l1 (ai @l2 (ai @h4 (ai @z3 (ai @beq_self_eq_true.{0} @hf))))));refine gG ?_;exact gT)
 have z4:(s.toList==[97,110,100])=false:=by simpa using h4
 rw [ZnL h1 h2 h3 h4]
 (have F:=ai @z1 (ai @z2 (ai @l1 (ai @l2 (ai @z3 @z4))));refine gG ?_;clear F)
 (have F:=@e0P;refine gL (ι:=Nat) [2,3,23,40] [] (fun k=>[(3,A.d (.one (.lit (.int .i64 k))))]) (fun k=>[]) (fun k=>k<=s.size∧Zbf s 0=Zbf s k) (fun k=>s.size - k) (0) (⟨Tai _,rfl⟩) (fun k hk=>?_);clear F)
 obtain ⟨hk,he⟩:=hk
 rw [he]
 by_cases hlt:k < s.size
 rotate_left
 ·have q1:¬ ((k:Int) < (s.size:Int)):=by omega
  have ht:=Zjc (s:=s) (k:=k) om
  (have F:=ai @q1 @ht;refine gG ?_;exact gT)
 have q1:(k:Int) < (s.size:Int):=by omega
 obtain ⟨b,hb⟩:∃ b,s[k]?=some b:=⟨s[k],getElem?_pos s k hlt⟩
 have hw1:=Zap (k:=k) om
 have hst:=ZgD hb
 (have F:=@q1;refine gG ?_;clear F)
 refine gB ?_
 (have F:=@hb;refine gC (Zp5 (b.toNat:Int)) ?_;clear F)
 cases hn:ZcP (b.toNat:Int) with
 | false =>
  have hf:Zbf s k=false:=by rw [hst,hn];rfl
  (have F:=@e0P;refine gR ?_;clear F)
  (have F:=@hf;refine gG ?_;exact gT)
 | true =>
 by_cases hk0:k=0
 ·have z5:((k:Int)=0)=True:=eq_true om
  by_cases h9:(b.toNat:Int)<=57
  ·have z6:((b.toNat:Int)<=57)=True:=eq_true h9
   have hf:Zbf s k=false:=by rw [hst,hn,hk0];simp [h9]
   (have F:=ai @z5 (ai @hb @z6);refine gR ?_;clear F)
   (have F:=@hf;refine gG ?_;exact gT)
  ·have z6:((b.toNat:Int)<=57)=False:=eq_false h9
   have hq:Zbf s k=Zbf s (k+1):=by rw [hst,hn];simp [h9]
   (have F:=ai @z5 (ai @hb @z6);refine gR ?_;clear F)
   (have F:=@hw1;refine gG ?_;exact ⟨k+1,⟨hlt,hq⟩,gw,gw,by omega⟩)
 ·have z5:((k:Int)=0)=False:=eq_false om
  have hq:Zbf s k=Zbf s (k+1):=by rw [hst,hn];simp [hk0]
  (have F:=@z5;refine gR ?_;clear F)
  (have F:=@hw1;refine gG ?_;exact ⟨k+1,⟨hlt,hq⟩,gw,gw,by omega⟩)
theorem ZgF (hs:s.size<=maxLen):Con e0 150 [.one (.lit (.string s))] [.one (.lit (.bool (Zbm s)))]:=by
 have l1:(⟨#[105,102]⟩:ByteArray).toList=[105,102]:=strL [105,102]
 have l2:(⟨#[97,110,100]⟩:ByteArray).toList=[97,110,100]:=strL [97,110,100]
 refine gI 2417851639247950047084557 Tryz.func150 ?_
 by_cases h3:s.toList=[105,102]
 ·have hf:=Zcs (s:=s) (.inr (.inr (.inl h3)))
  (have F:=ai @l1 (ai @h3 (ai @beq_self_eq_true.{0} @hf));refine gG ?_;exact gT)
 have z3:(s.toList==[105,102])=false:=by simpa using h3
 by_cases h4:s.toList=[97,110,100]
 ·have hf:=Zcs (s:=s) (.inr (.inr (.inr h4)))
  have z3:(([97,110,100]:List UInt8)==[105,102])=false:=by decide
  (have F:=ai @l1 (ai @l2 (ai @h4 (ai @z3 (ai @beq_self_eq_true.{0} @hf))));refine gG ?_;exact gT)
 have z4:(s.toList==[97,110,100])=false:=by simpa using h4
 by_cases h1:1<=s.size
 rotate_left
 ·have hf:=Zcs (s:=s) (.inl om)
  have z1:((s.size:Int) < 1)=True:=eq_true om
  (have F:=ai @l1 (ai @l2 (ai @z3 (ai @z4 (ai @z1 @hf))));refine gG ?_;exact gT)
 have z1:((s.size:Int) < 1)=False:=eq_false om
 by_cases h2:s.size<=12
 rotate_left
 ·have hf:=Zcs (s:=s) (.inr (.inl om))
  have z2:((12:Int) < s.size)=True:=eq_true om
  (have F:=ai @l1 (ai @l2 (ai @z3 (ai @z4 (ai @z1 (ai @z2 @hf)))));refine gG ?_;exact gT)
 have z2:((12:Int) < s.size)=False:=eq_false om
 obtain ⟨b,hb⟩:∃ b,s[0]?=some b:=⟨s[0],getElem?_pos s 0 h1⟩
 have hst:=ZgD hb
 rw [ZnL h1 h2 h3 h4]
 have hb0:0<=(b.toNat:Int):=by omega
 have hlet:∀ c:Bool,((decide (97<=(b.toNat:Int)∧(b.toNat:Int)<=122)) || decide (65<=(b.toNat:Int)∧(b.toNat:Int)<=90))=c->(ZcP (b.toNat:Int) && !((0:Nat)==0 && decide ((b.toNat:Int)<=57)))=c:=fun c hc=>by
  rw [<- hc,Bool.eq_iff_iff]
  simp [ZcP]
  omega
 have key:(decide (97<=(b.toNat:Int)∧(b.toNat:Int)<=122) || decide (65<=(b.toNat:Int)∧(b.toNat:Int)<=90))=true∨(decide (97<=(b.toNat:Int)∧(b.toNat:Int)<=122) || decide (65<=(b.toNat:Int)∧(b.toNat:Int)<=90))=false:=by cases (decide (97<=(b.toNat:Int)∧(b.toNat:Int)<=122) || decide (65<=(b.toNat:Int)∧(b.toNat:Int)<=90)) <;> simp
 rcases key with hk | hk
 rotate_left
 ·have hf:Zbf s 0=false:=by rw [hst,hlet _ hk];rfl
  rw [hf]
  clear hst hlet hf
  by_cases c1:97<=(b.toNat:Int) <;> by_cases c2:(b.toNat:Int)<=122 <;> by_cases c3:65<=(b.toNat:Int) <;> by_cases c4:(b.toNat:Int)<=90 <;> first
   | (exfalso;omega)
   | (exfalso;simp [c1,c2,c3,c4] at hk;done)
   | (have F:=ai @l1 (ai @l2 (ai @z3 (ai @z4 (ai @z1 (ai @z2 (ai @hb (ai @c1 (ai @c2 (ai @c3 @c4)))))))));refine gG ?_;exact gT)
 have hl0:65<=(b.toNat:Int):=by simp at hk;omega
 have h01:Zbf s 0=Zbf s 1:=by rw [hst,hlet _ hk];rfl
 (have F:=@e0P;have NN:Zag 1:=trivial;refine gGn ?_;clear F NN)
 refine gM (ι:=Unit) [40] [] (fun u=>[(40,A.d (.one (.lit (.bool false))))]) (fun u=>[]) (fun u=>True) ?_ (fun u hu=>Exists.intro _ (ai (Wk.refl _) ?_))
 ·by_cases c1:97<=(b.toNat:Int) <;> by_cases c2:(b.toNat:Int)<=122 <;> by_cases c3:65<=(b.toNat:Int) <;> by_cases c4:(b.toNat:Int)<=90 <;> first
   | (exfalso;omega)
   | (exfalso;simp [c1,c2,c3,c4] at hk;done)
   | (have F:=ai @l1 (ai @l2 (ai @z3 (ai @z4 (ai @z1 (ai @z2 (ai @hb (ai @c1 (ai @c2 (ai @c3 @c4)))))))));refine gG ?_;exact ⟨(),trivial,gw,gw⟩)
 clear hu hlet hk hst
 (have F:=@e0P;refine gG ?_;clear F)
 (have F:=@e0P;refine gL (ι:=Nat) [2,3,44,81] [] (fun k=>[(3,A.d (.one (.lit (.int .i64 k))))]) (fun k=>[]) (fun k=>k<=s.size∧Zbf s 0=Zbf s k) (fun k=>s.size - k) (0) (⟨Tai _,rfl⟩) (fun k hk=>?_);clear F)
 obtain ⟨hkl,he⟩:=hk
 by_cases hlt:k < s.size
 rotate_left
 ·have q1:¬ ((k:Int) < (s.size:Int)):=by omega
  have ht:Zbf s 0=true:=by rw [he];exact Zjc om
  (have F:=ai @q1 @ht;refine gG ?_;exact gT)
 have q1:(k:Int) < (s.size:Int):=by omega
 obtain ⟨d,hd⟩:∃ d,s[k]?=some d:=⟨s[k],getElem?_pos s k hlt⟩
 have hw1:=Zap (k:=k) om
 have hst:=ZgD hd
 (have F:=@q1;have NN:Zag 6:=trivial;refine gGn ?_;clear F NN)
 refine gM (ι:=Unit) [81] [] (fun u=>[(81,A.d (.one (.lit (.bool !(ZcP (d.toNat:Int))))))]) (fun u=>[]) (fun u=>True) ?_ (fun u hu=>Exists.intro _ (ai (Wk.refl _) ?_))
 ·by_cases c1:97<=(d.toNat:Int) <;> by_cases c2:(d.toNat:Int)<=122 <;> by_cases c3:65<=(d.toNat:Int) <;> by_cases c4:(d.toNat:Int)<=90 <;> by_cases c5:48<=(d.toNat:Int) <;> by_cases c6:(d.toNat:Int)<=57 <;> first
   | (exfalso;omega)
   | (have hr : ZcP   (d.toNat : Int) = true := by simp [ZcP  , c1, c2, c3, c4, c5, c6]
      rw [hr]
      (have F:=ai @hd (ai @c1 (ai @c2 (ai @c3 (ai @c4 (ai @c5 @c6)))));refine gG ?_;exact ⟨(),trivial,gw,gw⟩))
   | (have hr : ZcP   (d.toNat : Int) = false := by simp [ZcP  , c1, c2, c3, c4, c5, c6]
      rw [hr]
      (have F:=ai @hd (ai @c1 (ai @c2 (ai @c3 (ai @c4 (ai @c5 @c6)))));refine gG ?_;exact ⟨(),trivial,gw,gw⟩))
 cases hn:ZcP (d.toNat:Int) with
 | false =>
  have hf:Zbf s 0=false:=by rw [he,hst,hn];rfl
  (have F:=@hf;refine gG ?_;exact gT)
 | true =>
 have hq:Zbf s 0=Zbf s (k+1):=by
  by_cases hk0:k=0
  ·subst hk0;exact h01
  ·rw [he,hst,hn];simp [hk0]
 (have F:=@hw1;refine gG ?_;exact ⟨k+1,⟨hlt,hq⟩,gw,gw,by omega⟩)
end
section
variable {e:Env} {U:Nat->Prop} {w0:World} {S0:Nat->Prop} {nt:Nat} {ops:Array Oper} {n:Nat} {m:List (Nat × Bk)} {s:List (Nat × A)} {αs:List A} {L:Lay}
theorem Zfv {J:Array Bool->Act->World->(Nat->Prop)->Prop} (he:e.Ok) (hH:Zcr ops n=true) (hn:n<=ops.size) (hs:∀ i,n<=i->i < ops.size->∀ j,j < n->Region.waitsFor .any ops i j=true)
  (hsz:∀ (i:Nat) (o:Oper) (d:Nat),i < n->ops[i]?=some o->o.dst=some d->d < nt) (hal:αs.length=n) (hch:Zc5 e U w0.heap.size S0 m ops.toList (ops.toList.take n) s αs) {Q:Exit->Act->World->Prop} (hgo:Zi1 e U w0 S0 nt m ops n s αs L J Q)
  (hsk:∀ (listed:Array Bool) (a:Act) (w:World) (S:Nat->Prop) (i:Nat) (o:Oper) (d:Nat),J listed a w S->InvA e U w0 S0 nt m ops n s αs L listed a w S->HeadAt ops n i o d->i < n->i∈Region.ready .any ops listed->d < nt->o.guard≠none->J (listed.setIfInBounds i true) (a.put o.dst undef) w S)
  (hend:∀ listed a w S,InvA e U w0 S0 nt m ops n s αs L listed a w S->J listed a w S->(∀ i,i < n->listed.getD i false=true)->wpAny e.P .any ops Q (ops.size - n) (Zb8 ops.size n) a w) :
  ∀ (k:Nat) (listed:Array Bool) (a:Act) (w:World) (S:Nat->Prop),InvA e U w0 S0 nt m ops n s αs L listed a w S->J listed a w S->(List.range n).countP (fun i=>!listed.getD i true)=k->wpAny e.P .any ops Q (k+(ops.size - n)) listed a w
 | 0,listed,a,w,S,hI,hJ,hc=>by
  have hall:∀ i,i < n->listed.getD i true=true:=fun i hi=>by
   have:=List.countP_eq_zero.1 hc i (List.mem_range.2 hi)
   simpa using this
  have heq:=Znr hI.head hn hall
  have hE:=hend listed a w S hI hJ (fun i hi=>by
   have hl:i < listed.size:=by rw [hI.head.size];omega
   rw [<- ZbY hl];exact hall i hi)
  rw [Nat.zero_add,heq]
  exact hE
 | k+1,listed,a,w,S,hI,hJ,hc=>by
  obtain ⟨i0,hi0,hu0⟩:∃ i,i < n∧listed.getD i true=false:=by
   have:0 < (List.range n).countP (fun i=>!listed.getD i true):=by omega
   obtain ⟨i,hi,hp⟩:=List.countP_pos_iff.1 this
   exact ⟨i,List.mem_range.1 hi,by simpa using hp⟩
  rw [show k+1+(ops.size - n)=(k+(ops.size - n))+1 by omega]
  refine ⟨fun h0=>absurd h0 (Zi0 hH hI.head hi0 hu0),fun i hr=>?_⟩
  obtain ⟨hun,oi,hoi,hall⟩:=mem_ready.1 hr
  have hin:i < n:=by
   rcases Nat.lt_or_ge i n with h | h
   ·exact h
   ·have hns:n < ops.size:=Nat.lt_of_le_of_lt h (Tbl.1 hoi).1
    obtain ⟨oj,hoj,e1,he1,hb1,hon1⟩:=Region.waitsFor_spec (hs i h (Tbl.1 hoi).1 i0 hi0)
    rw [hoi] at hoj
    injection hoj with hoj
    subst hoj
    have h2:=hall e1 he1 hb1
    rw [hon1] at h2
    have h3:i0 < listed.size:=by rw [hI.head.size];omega
    rw [ZbY h3] at hu0
    rw [h2] at hu0
    cases hu0
  obtain ⟨o,d,hA⟩:=Zcr.get hH hin
  have hoo:oi=o:=by have:=hA.op;rw [hoi] at this;injection this
  subst hoo
  have hls:i < listed.size:=by rw [hI.head.size];exact (Tbl.1 hoi).1
  obtain ⟨α,hα,hst⟩:=hch.get i oi (by rw [List.getElem?_take,if_pos hin];simpa using hoi)
  have htk:(ops.toList.take n).take i=ops.toList.take i:=by rw [List.take_take,Nat.min_eq_left om]
  rw [htk] at hst
  have hdn:=hsz i oi d hin hoi hA.dst
  have hcount:(List.range n).countP (fun j=>!(listed.setIfInBounds i true).getD j true)=k:=by
   have h1:(List.range n).countP (fun j=>!(listed.setIfInBounds i true).getD j true)+1=(List.range n).countP (fun j=>!listed.getD j true):=by
    have hperm:=List.perm_cons_erase (List.mem_range.2 hin)
    rw [hperm.countP_eq,hperm.countP_eq,List.countP_cons,List.countP_cons]
    have hcong:((List.range n).erase i).countP (fun j=>!(listed.setIfInBounds i true).getD j true)=((List.range n).erase i).countP (fun j=>!listed.getD j true):=by
     refine List.countP_congr fun j hj=>?_
     have hne:j≠i:=fun e=>by
      subst e
      exact List.Nodup.not_mem_erase (List.nodup_range) hj
     rw [getD_set_ne true (Ne.symm hne)]
    rw [hcong,hun]
    simp [hls]
   omega
  have hop:∀ x∈oi.op.operands,ARel w S L (evA (after s (ops.toList.take i) (αs.take i)) x) (a.eval x):=fun x hx=>by
   cases x with
   | tmp t =>
    exact hI.operand hH hn hal hA hin hall (fun j p hj hp hpt=>(hA.dep j p hj hp).2 t (List.mem_filterMap.2 ⟨.tmp t,by simpa using hx,rfl⟩) hpt)
   | const v =>
    simp only [evA,Act.eval]
    unfold ZdY
    split
    ·simp only [ARel,DRel,Rep]
     exact ⟨⟨none,0,0,rfl,rfl,Tah _,by decide,fun h=>absurd h (by decide)⟩,none,0,rfl⟩
    ·rename_i vs;exact ⟨vs.toList,rfl,Zcw _⟩
    ·simp [ARel,DRel,Rep]
   | func f =>
    simp only [evA,Act.eval,ARel,DRel,Rep]
    exact ⟨[],rfl,by simp [Zaa]⟩
   | global g=>trivial
  have go:Zbp e U w0.heap.size S0 m oi (evA (after s (ops.toList.take i) (αs.take i))) α->oi.wp e.P a w (wpAny e.P .any ops Q (k+(ops.size - n)) (listed.setIfInBounds i true)) Q:=fun hG =>
   Oper.wp_mono (fun a' w' ⟨S',hI',hJ'⟩=>Zfv he hH hn hs hsz hal hch hgo hsk hend k _ _ _ S' hI' hJ' hcount) (hgo listed a w S i oi d α hI hJ hA hin hr hdn hα hop hG)
  unfold wpOp
  simp only [hoi]
  unfold Zf1 at hst
  cases hg:oi.guard with
  | none =>
   rw [hg] at hst
   have hwt:Region.wanted oi (yielded ops a.tmps)=true:=by simp [Region.wanted,hg]
   rw [if_pos hwt]
   exact .inl (go hst)
  | some jw =>
   obtain ⟨j,want⟩:=jw
   rw [hg] at hst
   obtain ⟨hjn,hjw⟩:=hA.guard j want hg
   have hrelD:∀ dj,((ops[j]?).bind (·.dst))=some dj->ARel w S L (gs (after s (ops.toList.take i) (αs.take i)) dj) (a.tmps.getD dj undef):=fun dj hdj=>hI.operand hH hn hal hA hin hall (t:=dj) (fun j' p hj' hp hpt=>by
    obtain ⟨p0,d0,hP0⟩:=Zcr.get hH hjn
    have hd0:d0=dj:=by have:=hdj;rw [hP0.op] at this;simp [hP0.dst] at this;exact this
    by_cases hjj:j'=j
    ·rw [hjj];exact hjw
    ·exact absurd (by rw [hpt,hd0]) ((hP0.dep j' p hj' hp).1 hjj))
   rcases hst with ⟨b,hb1,hb2⟩ | ⟨hb1,hb2⟩
   rotate_left
   ·simp only [Tau] at hb1
    obtain ⟨dj,hd1,hd2⟩:=hb1
    have hdj:((ops[j]?).bind (·.dst))=some dj:=by simpa using ZeM hd1
    have hrel:=hrelD dj hdj
    rw [hd2] at hrel
    rw [ZiZ hg hdj hrel]
    subst hb2
    simp only [Tal,if_false]
    exact Zfv he hH hn hs hsz hal hch hgo hsk hend k _ _ _ S (hI.put hH hA hin hr hdn hα (fun _ h=>h) hI.cls (Kept.refl _ _ _ _) rfl) (hsk listed a w S i oi d hJ hI hA hin hr hdn (by rw [hg];simp)) hcount
   simp only [Tau] at hb1
   obtain ⟨dj,hd1,hd2⟩:=hb1
   have hdj:((ops[j]?).bind (·.dst))=some dj:=by simpa using ZeM hd1
   have hrel:=hrelD dj hdj
   rw [hd2] at hrel
   have h4:=ZiY hrel.bool
   have hwt:Region.wanted oi (yielded ops a.tmps)=decide (b=want):=by
    have h6:yielded ops a.tmps j=some b:=by unfold yielded;rw [hdj];simp only [Option.bind_some,h4]
    simp only [Region.wanted,hg,h6]
    cases b <;> cases want <;> rfl
   rw [hwt]
   by_cases hbw:b=want
   ·rw [if_pos hbw] at hb2
    simp only [hbw,decide_true,if_true]
    exact .inl (go hb2)
   ·rw [if_neg hbw] at hb2
    subst hb2
    simp only [hbw,decide_false,Tal,if_false]
    exact Zfv he hH hn hs hsz hal hch hgo hsk hend k _ _ _ S (hI.put hH hA hin hr hdn hα (fun _ h=>h) hI.cls (Kept.refl _ _ _ _) rfl) (hsk listed a w S i oi d hJ hI hA hin hr hdn (by rw [hg];simp)) hcount
theorem Zp6 {σ:St} (hH:Zcr ops n=true) (hn:n<=ops.size) (hal:αs.length=n) {listed:Array Bool} {a':Act} {w':World} {S':Nat->Prop} (hI:InvA e U w0 S0 nt σ.m ops n σ.s αs L listed a' w' S') (hall:∀ i,i < n->listed.getD i false=true):Sim e U w0 S0 nt ⟨after σ.s (ops.toList.take n) αs,σ.m⟩ a' w' S' L:=by
 refine ⟨hI.cls,fun t=>?_,hI.size,hI.defers,hI.kept⟩
 by_cases hex:∃ (j:Nat) (p:Oper),j < n∧ops[j]?=some p∧p.dst=some t
 ·obtain ⟨j,p,hj,hp,hpt⟩:=hex
  obtain ⟨p',d',hP⟩:=Zcr.get hH hj
  have hpp:p'=p:=by have:=hP.op;rw [hp] at this;injection this with this;exact this.symm
  subst hpp
  have hdt:d'=t:=by have:=hP.dst;rw [hpt] at this;injection this with this;exact this.symm
  subst hdt
  obtain ⟨α,hα⟩:∃ α,αs[j]?=some α:=⟨αs[j],Taa om⟩
  show ARel w' S' L (gs (after σ.s (ops.toList.take n) αs) d') _
  rw [ZdM (ops.toList.take n) αs σ.s j p' α (by rw [List.getElem?_take,if_pos hj];simpa using hp) hα hpt (fun k q hk hq=>by
   rw [List.getElem?_take] at hq
   split at hq
   ·exact (hP.dep k q om (by simpa using hq)).1 hk
   ·cases hq)]
  exact hI.done j p' d' α hj (hall j hj) hp hpt hα
 ·have hno:∀ (j:Nat) (p:Oper),j < n->ops[j]?=some p->p.dst≠some t:=fun j p hj hp hd=>hex ⟨j,p,hj,hp,hd⟩
  show ARel w' S' L (gs (after σ.s (ops.toList.take n) αs) t) _
  rw [ZcZ _ _ _ (fun p hp=>by
   obtain ⟨j,hj⟩:=List.mem_iff_getElem?.1 hp
   rw [List.getElem?_take] at hj
   split at hj
   ·exact hno j p om (by simpa using hj)
   ·cases hj)]
  exact hI.out t hno
end
def ZcC (e:Env) (ds:List (Option Nat)) (ops:Array Oper) (K:St->Prop):Nat->Array Bool->St->Prop
 | 0,listed,σ=>Region.ready .any ops listed=[]∧K σ
 | f+1,listed,σ=>(Region.ready .any ops listed=[]->K σ)∧∀ i∈Region.ready .any ops listed,∃ o,ops[i]?=some o∧o.guard=none∧ZbC e o σ (fun σ'=>Runs e ds 0 [] σ' (ZcC e ds ops K f (listed.setIfInBounds i true)))
section
variable {e:Env} {U:Nat->Prop} {w0:World} {S0:Nat->Prop} {nt:Nat}
theorem ZkS (he:e.Ok) {ops:Array Oper} {K:St->Prop} {Q:Exit->Act->World->Prop} (hQ:∀ a w σ',K σ'->SimE e U w0 S0 nt σ' a w->Q .normal a w) (hd:∀ o∈ops.toList,∀ d,o.dst=some d->d < nt) :
  ∀ (f:Nat) (listed:Array Bool) (σ:St) (a:Act) (w:World),SimE e U w0 S0 nt σ a w->ZcC e (ops.toList.map (·.dst)) ops K f listed σ->wpAny e.P .any ops Q f listed a w
 | 0,listed,σ,a,w,hs,h=>⟨h.1,hQ a w σ h.2 hs⟩
 | f+1,listed,σ,a,w,hs,h=>by
  refine ⟨fun h0=>hQ a w σ (h.1 h0) hs,fun i hi=>?_⟩
  obtain ⟨o,ho,hg,hst⟩:=h.2 i hi
  unfold wpOp
  simp only [ho]
  have hw:Region.wanted o (yielded ops a.tmps)=true:=by simp [Region.wanted,hg]
  rw [if_pos hw]
  have hmem:o∈ops.toList:=Tab (by simpa using ho)
  refine .inl (Oper.wp_mono (fun a' w' ⟨σ',hr,hs'⟩=>?_) (hst he U w0 S0 nt a w Q (hd o hmem) hs))
  exact hr he U w0 S0 nt a' w' ops.toList (fun _ a w=>wpAny e.P .any ops Q f (listed.setIfInBounds i true) a w) rfl (fun o ho=>by simp at ho) (fun a w σ'' hK hs''=>ZkS he hQ hd f _ σ'' a w hs'' hK) hs'
def ZHI (ops:Array Oper) (n:Nat):Bool:=(List.range ops.size).all fun i=>decide (i < n) || (List.range n).all fun j=>Region.waitsFor .any ops i j
def regT (ops:Array Oper) (n:Nat):Bool:=Zcr ops n && decide (n<=ops.size) && ZHI ops n
theorem Zp7 (he:e.Ok) {id:Nat} {ops:Array Oper} {n:Nat} (hB:regT ops n=true) {K:St->Prop} {Q:Exit->Act->World->Prop} (hQ:∀ a w σ',K σ'->SimE e U w0 S0 nt σ' a w->Q .normal a w) {σ:St} {a:Act} {w:World}
  (hd:∀ o∈ops.toList,∀ d,o.dst=some d->d < nt) (h:SimE e U w0 S0 nt σ a w) (hp:Runs e (ops.toList.map (·.dst)) (n+1) (ops.toList.take n) σ (ZcC e (ops.toList.map (·.dst)) ops K (ops.size - n) (Zb8 ops.size n))):(Code.region id ops true).wp e.P Q a w:=by
 simp only [regT,Taq,decide_eq_true_eq] at hB
 obtain ⟨⟨hH,hn⟩,hs0⟩:=hB
 have hs:∀ i,n<=i->i < ops.size->∀ j,j < n->Region.waitsFor .any ops i j=true:=fun i h1 h2 j h3=>by
  have k1:=List.all_eq_true.1 hs0 i (List.mem_range.2 h2)
  simp only [Bool.or_eq_true,decide_eq_true_eq] at k1
  rcases k1 with k1 | k1
  ·omega
  ·exact List.all_eq_true.1 k1 j (List.mem_range.2 h3)
 obtain ⟨S,L,h1⟩:=h.drew he
 refine wp_region_any he.mixed ?_
 have hlen:(ops.toList.take n).length=n:=by simp;omega
 have hp':Runs e (ops.toList.map (·.dst)) ((ops.toList.take n).length+1) (ops.toList.take n++[]) σ (ZcC e (ops.toList.map (·.dst)) ops K (ops.size - n) (Zb8 ops.size n)):=by rw [List.append_nil,hlen];exact hp
 obtain ⟨αs,hal,hch,hrest⟩:=Zec (U:=U) he w0.heap.size S0 ops.toList [] 1 (ops.toList.take n) σ (fun h=>absurd h (by decide)) hp'
 rw [hlen] at hal
 simp only [Runs] at hrest
 have inv0:InvA e U w0 S0 nt σ.m ops n σ.s αs L (Array.replicate ops.size false) a { w with drawn:=w.drawn+1 } S :=
  ⟨⟨by simp,fun j oj _ hl=>(by rw [getD_replicate_false] at hl;cases hl),fun t _ ht=>getD_in (by simpa using ht) (getD_replicate_false _ _)⟩,h1.size,h1.defers,h1.cls,h1.kept,fun t _=>h1.rel t,fun i o d α _ hl=>(by rw [getD_replicate_false] at hl;cases hl)⟩
 have H:=Zfv (e:=e) (L:=L) (Q:=Q) he hH hn hs (fun i o d hi ho hdd=>hd o (List.mem_iff_getElem?.2 ⟨i,by simpa using ho⟩) d hdd) hal hch (Zho hH Q) (fun _ _ _ _ _ _ _ _ _ _ _ _ _ _=>trivial) (fun listed a' w' S' hI _ hall=>?_) n _ a _ S inv0 trivial ?_
 ·rw [show n+(ops.size - n)=ops.size by omega] at H
  exact H
 ·exact ZkS he hQ hd _ _ _ a' w' ⟨S',L,Zp6 hH hn hal hI hall⟩ hrest
 ·rw [List.countP_eq_length.2]
  ·simp
  ·intro i hi
   have hi':=List.mem_range.1 hi
   have hsz:i < (Array.replicate ops.size false).size:=by simp;omega
   rw [ZbY hsz,getD_replicate_false]
   rfl
end
section
variable {e:Env} {U:Nat->Prop} {w0:World} {S0:Nat->Prop} {nt:Nat}
structure AppAt (P:Program) (σ:St) (o:Oper) (d ety sz:Nat) (rows:List (List C)):Prop where
 at':∃ (x y:Operand) (args:Array Operand) (ts:Array TypeId) (t by':Nat) (r1 ys:List (List C)),o.op=.call ⟨.builtin .append,args,ts⟩∧args.toList=[x,y]∧evA σ.s x=.d (.clip r1)∧slA [] (evA σ.s y)=some ys∧ts[0]?=some t∧ts[1]?=some t∧Za1 P t=some (ety,sz,by') ∧
  ZaT sz r1=true∧ZaT sz ys=true∧r1.length+ys.length<=maxApp∧(r1=[]∨ys≠[])∧rows=r1++ys
 dst:o.dst=some d
 guard:o.guard=none
theorem ZBU {m:List (Nat × Bk)} {y:A} {ys:List (List C)} (h:slA [] y=some ys):slA m y=some ys:=by
 unfold slA at h ⊢
 split at h <;> simp_all [gm,bufA]
theorem AppAt.run (he:e.Ok) {σ:St} {o:Oper} {d ety sz:Nat} {rows:List (List C)} (hA:AppAt e.P σ o d ety sz rows) {m:List (Nat × Bk)} {w:World} {S:Nat->Prop} {L:Lay} {ρv:Operand->Value} (hC:Cls e U w0.heap.size S0 m w S L) (hr:∀ x,x∈o.op.operands->ARel w S L (evA σ.s x) (ρv x)) :
  ∃ v' w',(execOp ρv o).run e.P w=.ok (.value v') w'∧ZaP w' S ety sz rows v'∧Kept e.D (fun _=>False) w.heap.size w w'∧∀ g,vblk v'=some g->w.heap.size<=g:=by
 obtain ⟨x,y,args,ts,t,by',r1,ys,ho,hargs,hx,hy,h0,h1,hb,hr1,hys,hle,hne,rfl⟩:=hA.at'
 have hx':=hr x (by rw [ho];simp [Op.operands,Call.operands,hargs,<- Array.mem_toList_iff])
 have hy':=hr y (by rw [ho];simp [Op.operands,Call.operands,hargs,<- Array.mem_toList_iff])
 rw [hx] at hx'
 have hx':DRel w S (.clip r1) (ρv x):=hx'
 have hyl:=ZeK.1 hys
 have hyf:=Znu (σ:=⟨[],m⟩) hC (ZBU hy) hy' hyl
 obtain ⟨v',w',hrun,hbuf,τ,hk,hτ,hg⟩:=ZfZ (σ:=⟨[],m⟩) (ty:=o.type) he hC h0 h1 hb (.inr ⟨hx',hne⟩) (ZeK.1 hr1) hyl hle hyf
 have hτn:∀ g,τ≠some g:=fun g e1=>by
  obtain ⟨h2,h3⟩:=hτ g e1
  obtain ⟨h4,a,n,h5⟩:=hx'
  rw [h5] at h2 h3 h4
  simp only [Rep] at h4
  obtain ⟨A,n',cap,h6,h7,_,_,h8⟩:=h4
  injection h6 with h6 h9 h10
  subst h6 h9
  cases a with
  | none=>simp [vblk] at h2
  | some q =>
   simp only [vblk] at h2
   split at h2
   ·cases h2
   ·rename_i hn0
    injection h2 with h2
    obtain ⟨b,off,h11,hS,_⟩:=h8 om
    injection h11 with h11
    obtain ⟨_,_,h12⟩:=h3
    rcases h12 with ⟨h12,_⟩ | ⟨g',cap',cur,h13,_,_,h14,_⟩
    ·rw [h12] at h7;simp at h7;omega
    ·injection h13 with h13 _ _
     injection h13 with h13
     rw [h13] at h11
     injection h11 with h11
     exact h14 (h11 ▸ hS)
 refine ⟨v',w',?_,hbuf,⟨hk.os,hk.tape,hk.output,hk.drawn,hk.size,fun k hk' hn=>hk.block k hk' (fun e1=>hτn k e1)⟩,fun g hg'=>?_⟩
 ·have ha:args.map ρv=#[ρv x,ρv y]:=by apply Array.toList_inj.1;simp [hargs]
  simp [execOp,ho,resolve,invoke,builtin,ha,hrun,Result.andThen]
 ·rcases hg g hg' with e1 | e1
  ·exact (hτn g e1).elim
  ·exact e1
theorem AppAt.gives (he:e.Ok) {σ:St} {o:Oper} {d ety sz:Nat} {rows:List (List C)} (hA:AppAt e.P σ o d ety sz rows) {m:List (Nat × Bk)}:Zbp e U w0.heap.size S0 m o (evA σ.s) .undef:=by
 intro w S L ρv hC hr
 obtain ⟨v',w',h1,_,h3,_⟩:=hA.run he hC hr
 have hk:Kept e.D e.E w.heap.size w w':=⟨h3.os,h3.tape,h3.output,h3.drawn,h3.size,fun k hk hn=>h3.block k hk id⟩
 unfold Go.Proofs.YtffmjghcpgpfpaaGreatDoor.gives
 rw [h1]
 exact ⟨S,⟨fun _ h=>h,fun _ h=>.inl h⟩,hC.later hk (he.keep _ _ h3.size (fun b hE=>h3.block b (Tbd (hC.ein b hE) hC.bsz) id) hC.g) (fun _ h=>h) (fun _ h=>.inl h),hk,trivial⟩
def Zo3 (base p d ety sz:Nat) (rows:List (List C)) (m:List (Nat × Bk)) (L:Lay) (listed:Array Bool) (a:Act) (w:World) (S:Nat->Prop):Prop :=
 listed.getD p false=true->(∀ g,vblk (a.tmps.getD d undef)=some g->base<=g∧g < w.heap.size∧¬ S g∧∀ k bk,gm m k=some bk->¬ ZaB L k bk g)∧ZaP w S ety sz rows (a.tmps.getD d undef)
theorem ZnM {m:List (Nat × Bk)} {base:Nat} {l:List Oper}:∀ (xs ys:List Oper) (s:List (Nat × A)) (us bs:List A),us.length=xs.length->Zc5 e U base S0 m l xs s us->Zc5 e U base S0 m l ys (after s xs us) bs->Zc5 e U base S0 m l (xs++ys) s (us++bs)
 | [],ys,s,[],bs,_,_,h2=>h2
 | x::xs,ys,s,a::us,bs,hl,h1,h2=>⟨h1.1,ZnM xs ys _ us bs (by simpa using hl) h1.2 h2⟩
 | [],_,_,_::_,_,hl,_,_=>by simp at hl
 | _::_,_,_,[],_,hl,_,_=>by simp at hl
theorem ZnN:∀ (xs ys:List Oper) (s:List (Nat × A)) (us bs:List A),us.length=xs.length->after s (xs++ys) (us++bs)=after (after s xs us) ys bs
 | [],ys,s,[],bs,_=>rfl
 | x::xs,ys,s,a::us,bs,hl=>ZnN xs ys _ us bs (by simpa using hl)
 | [],_,_,_::_,_,hl=>by simp at hl
 | _::_,_,_,[],_,hl=>by simp at hl
theorem Zkr (he:e.Ok) (base:Nat) (S0:Nat->Prop) (l:List Oper) {K:St->Prop} {k:Nat} {os:List Oper} {σ:St} (hk:k=os.length+1) (h:Runs e (l.map (·.dst)) k os σ K):∃ αs,αs.length=os.length∧Zc5 e U base S0 σ.m l os σ.s αs∧K ⟨after σ.s os αs,σ.m⟩:=by
 subst hk
 have h':Runs e (l.map (·.dst)) (os.length+1) (os++[]) σ K:=by rw [List.append_nil];exact h
 obtain ⟨αs,h1,h2,h3⟩:=Zec (U:=U) he base S0 l [] 1 os σ (fun h=>absurd h (by decide)) h'
 simp only [Runs] at h3
 exact ⟨αs,h1,h2,h3⟩
theorem ZBV (he:e.Ok) {id:Nat} {ops:Array Oper} {n p d ety sz:Nat} {rows:List (List C)} {o0:Oper} (hop:ops[p]?=some o0) (hpn:p < n) (hB:regB ops n=true) {K:St->Prop} {Q:Exit->Act->World->Prop} (hQ:∀ a w σ',K σ'->SimE e U w0 S0 nt σ' a w->Q .normal a w) {σ:St} {a:Act} {w:World}
  (hd:∀ o∈ops.toList,∀ d,o.dst=some d->d < nt) (h:SimE e U w0 S0 nt σ a w)
  (hp:Runs e (ops.toList.map (·.dst)) (p+1) (ops.toList.take p) σ (fun σ1=>AppAt e.P σ1 o0 d ety sz rows∧Runs e (ops.toList.map (·.dst)) (n - p) ((ops.toList.take n).drop (p+1)) ⟨(d,.undef)::σ1.s,σ1.m⟩ (fun σ2=>Runs e (ops.toList.map (·.dst)) 0 (ops.toList.drop n) ⟨(d,.buf d)::Zau d σ2.s,(d,.buf none ety sz rows)::remM d σ2.m⟩ K))):(Code.region id ops true).wp e.P Q a w:=by
 simp only [regB,Taq,Bool.or_eq_true,decide_eq_true_eq] at hB
 obtain ⟨⟨⟨hH,hn⟩,hs⟩,hsq⟩:=hB
 obtain ⟨S,L,h1⟩:=h.drew he
 refine wp_region_any he.mixed ?_
 have hlen:(ops.toList.take p).length=p:=by simp;omega
 have hlen2:((ops.toList.take n).drop (p+1)).length=n - p - 1:=by simp;omega
 obtain ⟨αs0,hal0,hch0,hrest0⟩:=Zkr (U:=U) he w0.heap.size S0 ops.toList (by rw [hlen]) hp
 rw [hlen] at hal0
 obtain ⟨hApp,hrest1⟩:=hrest0
 obtain ⟨αs1,hal1,hch1,hrest2⟩:=Zkr (U:=U) he w0.heap.size S0 ops.toList (by rw [hlen2];omega) hrest1
 rw [hlen2] at hal1
 have hpl:ops.toList[p]?=some o0:=by simpa using hop
 have htake:ops.toList.take n=ops.toList.take p++(o0::(ops.toList.take n).drop (p+1)):=by
  have e1:(ops.toList.take n)[p]?=some o0:=by rw [List.getElem?_take,if_pos hpn];exact hpl
  have e2:(ops.toList.take n).drop p=o0::(ops.toList.take n).drop (p+1):=by
   rw [List.drop_eq_getElem_cons (Tac.1 e1).1,(Tac.1 e1).2]
  have e3:(ops.toList.take n).take p=ops.toList.take p:=by rw [List.take_take,Nat.min_eq_left om]
  rw [<- e2,<- e3,Tbm]
 have hal:(αs0++(A.undef::αs1)).length=n:=by simp [hal0,hal1];omega
 have hset:setA (after σ.s (ops.toList.take p) αs0) o0.dst A.undef=(d,A.undef)::after σ.s (ops.toList.take p) αs0:=by rw [hApp.dst];rfl
 have hch:Zc5 e U w0.heap.size S0 σ.m ops.toList (ops.toList.take n) σ.s (αs0++(A.undef::αs1)):=by
  rw [htake]
  refine ZnM _ _ _ _ _ (by rw [hal0,hlen]) hch0 ⟨?_,?_⟩
  ·unfold Zf1
   rw [hApp.guard]
   exact hApp.gives he
  ·rw [hset];exact hch1
 have haf:after σ.s (ops.toList.take n) (αs0++(A.undef::αs1))=after ((d,A.undef)::after σ.s (ops.toList.take p) αs0) ((ops.toList.take n).drop (p+1)) αs1:=by
  conv=>lhs;rw [htake]
  rw [ZnN _ _ _ _ _ (by rw [hal0,hlen])]
  simp only [after,hset]
 have inv0:InvA e U w0 S0 nt σ.m ops n σ.s (αs0++(A.undef::αs1)) L (Array.replicate ops.size false) a { w with drawn:=w.drawn+1 } S :=
  ⟨⟨by simp,fun j oj _ hl=>(by rw [getD_replicate_false] at hl;cases hl),fun t _ ht=>getD_in (by simpa using ht) (getD_replicate_false _ _)⟩,h1.size,h1.defers,h1.cls,h1.kept,fun t _=>h1.rel t,fun i o d α _ hl=>(by rw [getD_replicate_false] at hl;cases hl)⟩
 have hJ0:Zo3 w0.heap.size p d ety sz rows σ.m L (Array.replicate ops.size false) a { w with drawn:=w.drawn+1 } S:=fun hl=>by rw [getD_replicate_false] at hl;cases hl
 have hA0:∀ {i':Nat} {o':Oper} {d':Nat},HeadAt ops n i' o' d'->i'≠p->d'≠d:=fun hA hne e'=>by
  have:=(hA.dep p _ hpn hop).1 (Ne.symm hne)
  exact this (by rw [hApp.dst,e'])
 have hgo:Zi1 e U w0 S0 nt σ.m ops n σ.s (αs0++(A.undef::αs1)) L (Zo3 w0.heap.size p d ety sz rows σ.m L) Q:=by
  intro listed a w S i' o' d' α hI hJ hA hin hr hdn hα hopd hG'
  by_cases hip:i'=p
  ·subst hip
   have ho':o'=o0:=by have:=hA.op;rw [hop] at this;injection this with this;exact this.symm
   subst ho'
   have hdd:d'=d:=by have:=hA.dst;rw [hApp.dst] at this;injection this with this;exact this.symm
   subst hdd
   have hau:α=A.undef:=by rw [Tbq om,hal0] at hα;simpa using hα.symm
   subst hau
   have hC:=hI.cls
   have htk:(αs0++(A.undef::αs1)).take i'=αs0:=by rw [<- hal0];exact List.take_left
   rw [htk] at hopd
   obtain ⟨v',w',q1,q2,q3,q4⟩:=hApp.run he hC hopd
   have hk:Kept e.D e.E w.heap.size w w':=⟨q3.os,q3.tape,q3.output,q3.drawn,q3.size,fun k hk hn=>q3.block k hk (fun h=>h)⟩
   have hC':Cls e U w0.heap.size S0 σ.m w' S L:=hC.later hk (he.keep _ _ q3.size (fun b hE=>q3.block b (Tbd (hC.ein b hE) hC.bsz) (fun h=>h)) hC.g) (fun _ h=>h) (fun _ h=>.inl h)
   unfold Oper.wp
   rw [q1,Oper.upon_value]
   have hput:(a.put o'.dst v').tmps.getD d' undef=v':=by
    rw [hA.dst,Zcq (by rw [hI.size];exact hdn)]
    simp
   refine ⟨S,hI.put hH hA hin hr hdn hα (fun _ h=>h) hC' hk trivial,fun _=>?_⟩
   rw [hput]
   refine ⟨fun g hg=>?_,q2⟩
   have hge:=q4 g hg
   refine ⟨Tbe hC.bsz hge,?_,fun hs=>by have:=(hC.sin _ hs).1;omega,fun k bk hk hg=>by have:=hC.blk_lt hk hg;omega⟩
   exact (Own1.lt (L:=⟨fun _=>0,fun _=>v'⟩) (k:=0) (bk:=.buf none ety sz rows) ⟨by simp,q2⟩ hg).1
  ·refine ZeF (hG' w S L a.eval hI.cls hopd) fun v' w' ⟨S',hS,hC,hk,hv'⟩=>⟨S',hI.put hH hA hin hr hdn hα hS.1 hC hk hv',fun hl=>?_⟩
   rw [getD_set_ne false hip] at hl
   obtain ⟨q1,q2⟩:=hJ hl
   have hput:(a.put o'.dst v').tmps.getD d undef=a.tmps.getD d undef:=by
    rw [hA.dst,Zcq (by rw [hI.size];exact hdn),if_neg (Ne.symm (hA0 hA hip))]
   rw [hput]
   have hnS:∀ g,vblk (a.tmps.getD d undef)=some g->¬ S' g:=fun g hg hs=>by
    obtain ⟨_,k2,k3,_⟩:=q1 g hg
    rcases hS.2 g hs with hs | hs
    ·exact k3 hs
    ·omega
   refine ⟨fun g hg=>⟨(q1 g hg).1,Tbd (q1 g hg).2.1 hk.size,hnS g hg,(q1 g hg).2.2.2⟩,q2.keep hk.size (hI.cls.cell hk) hS.1 fun g hg=>⟨hk.block g (q1 g hg).2.1 (fun hE=>by have:=hI.cls.ein g hE;have:=(q1 g hg).1;omega),hnS g hg⟩⟩
 have hskp:∀ (listed:Array Bool) (a:Act) (w:World) (S:Nat->Prop) (i':Nat) (o':Oper) (d':Nat),Zo3 w0.heap.size p d ety sz rows σ.m L listed a w S->InvA e U w0 S0 nt σ.m ops n σ.s (αs0++(A.undef::αs1)) L listed a w S->HeadAt ops n i' o' d'->i' < n->i'∈Region.ready .any ops listed->d' < nt->o'.guard≠none->Zo3 w0.heap.size p d ety sz rows σ.m L (listed.setIfInBounds i' true) (a.put o'.dst undef) w S:=by
  intro listed a w S i' o' d' hJ hI hA hin hr hdn hg hl
  have hip:i'≠p:=fun e'=>by
   subst e'
   have:=hA.op
   rw [hop] at this
   injection this with this
   rw [<- this] at hg
   exact hg hApp.guard
  rw [getD_set_ne false hip] at hl
  have hput:(a.put o'.dst undef).tmps.getD d undef=a.tmps.getD d undef:=by
   rw [hA.dst,Zcq (by rw [hI.size];exact hdn),if_neg (Ne.symm (hA0 hA hip))]
  rw [hput]
  exact hJ hl
 have H:=Zdm (e:=e) (L:=L) (Q:=Q) he hH hn (fun hlt=>by
   rcases hs with hs | hs
   ·omega
   ·exact hs) hsq (fun i o d hi ho hdd=>hd o (List.mem_iff_getElem?.2 ⟨i,by simpa using ho⟩) d hdd) hal hch hgo hskp (fun listed a' w' S' hI hJ hall=>?_) n _ a _ S inv0 hJ0 ?_
 ·rw [show n+(ops.size - n)=ops.size by omega] at H
  exact H
 ·have hsim:=Zp6 hH hn hal hI hall
  rw [haf] at hsim
  obtain ⟨q1,q2⟩:=hJ (hall p hpn)
  have hdn:d < nt:=hd _ (List.mem_iff_getElem?.2 ⟨p,hpl⟩) d hApp.dst
  have hsimB:=hsim.bornE (bk:=.buf none ety sz rows) (w':=w') (b':=0) (v':=a'.tmps.getD d undef) (u:=a'.tmps.getD d undef) (τ:=vblk (a'.tmps.getD d undef)) (s1:=after ((d,A.undef)::after σ.s (ops.toList.take p) αs0) ((ops.toList.take n).drop (p+1)) αs1) (m1:=σ.m) (α:=.buf d) (S':=S') hdn (fun _ h=>h) (fun _ h=>.inl h) (fun t=>.inl rfl) (fun k x h=>h)
   (fun g hg=>⟨(q1 g hg).2.2.1,fun hE=>by have:=hI.cls.ein _ hE;have:=(q1 g hg).1;omega,.inl (q1 g hg).1⟩) (fun k x g hkd hx hg hb=>(q1 g hg).2.2.2 k x hx hb)
   (Kept.refl _ _ _ _) hI.cls.g (by
    simp only [Own1,if_true]
    exact ⟨by simp,q2⟩)
   (fun g hg=>by simp only [ZaB,if_true] at hg;exact .inl hg) (by simp [ARel])
  have hsimD:SimE e U w0 S0 nt ⟨(d,.buf d)::Zau d (after ((d,A.undef)::after σ.s (ops.toList.take p) αs0) ((ops.toList.take n).drop (p+1)) αs1),(d,.buf none ety sz rows)::remM d σ.m⟩ a' w':=by
   obtain ⟨S2,L2,k1,k2,k3,k4,k5⟩:=hsimB
   refine ⟨S2,L2,k1,fun t=>?_,hI.size,hI.defers,k5⟩
   have:=k2 t
   rw [Zcq (by rw [hI.size];exact hdn)] at this
   by_cases ht:t=d
   ·rw [if_pos ht] at this;rw [ht];rw [ht] at this;exact this
   ·rw [if_neg ht] at this;exact this
  have:=hrest2 he U w0 S0 nt a' w' ops.toList Q rfl (fun o ho=>hd o (List.mem_of_mem_drop ho)) hQ hsimD
  simpa using this
 ·rw [List.countP_eq_length.2]
  ·simp
  ·intro i hi
   have hi':=List.mem_range.1 hi
   have hsz:i < (Array.replicate ops.size false).size:=by simp;omega
   rw [ZbY hsz,getD_replicate_false]
   rfl
end
section
variable {e:Env} {mask:Nat} {Q:PX->St->Prop} {ds:List (Option Nat)}
theorem Zo4 {nt:Nat} {id:Nat} {ops:Array Oper} {fl:Bool} (hok:Zcn nt (.region id ops fl)=true):∀ o∈ops.toList,∀ d,o.dst=some d->d < nt:=fun o ho d hd=>by
 simp only [Zcn] at hok
 have:=List.all_eq_true.1 hok o ho
 rw [hd] at this
 simpa using this
theorem ZBW {id:Nat} {ops:Array Oper} {σ:St} (n:Nat) (hn:regT ops n=true) (hp:Runs e (ops.toList.map (·.dst)) (n+1) (ops.toList.take n) σ (ZcC e (ops.toList.map (·.dst)) ops (ZcN mask Q) (ops.size - n) (Zb8 ops.size n))):pwp e mask (.region id ops true) σ Q:=fun he U w0 S0 nt a w hok hs =>
 Zp7 he hn (fun a w σ' h1 h2=>⟨_,h1,h2.weak (fun t=>Zh1 mask t σ'.s) (fun _ _ h=>h)⟩) (Zo4 hok) hs hp
theorem ZBX {id:Nat} {ops:Array Oper} {σ:St} {n p d ety sz:Nat} {rows:List (List C)} {o0:Oper} (hop:ops[p]?=some o0) (hpn:p < n) (hn:regB ops n=true) (hp:Runs e (ops.toList.map (·.dst)) (p+1) (ops.toList.take p) σ (fun σ1=>AppAt e.P σ1 o0 d ety sz rows∧Runs e (ops.toList.map (·.dst)) (n - p) ((ops.toList.take n).drop (p+1)) ⟨(d,.undef)::σ1.s,σ1.m⟩ (fun σ2=>Runs e (ops.toList.map (·.dst)) 0 (ops.toList.drop n) ⟨(d,.buf d)::Zau d σ2.s,(d,.buf none ety sz rows)::remM d σ2.m⟩ (ZcN mask Q)))):pwp e mask (.region id ops true) σ Q:=fun he U w0 S0 nt a w hok hs =>
 ZBV he hop hpn hn (fun a w σ' h1 h2=>⟨_,h1,h2.weak (fun t=>Zh1 mask t σ'.s) (fun _ _ h=>h)⟩) (Zo4 hok) hs hp
theorem gA {id:Nat} {l l1 l2 l3:List Oper} {s s1 s2 s3:List (Nat × A)} {m m1 m2 m3:List (Nat × Bk)} {x y:Operand} {t ty d ety sz by':Nat} {pos:String} {aft:Array Edge} {r1 ys:List (List C)} (n p:Nat) (hle:r1.length+ys.length<=maxApp) (hne:r1=[]∨ys≠[]) (hK:Runs e ds 0 l3 ⟨(d,.buf d)::s3,(d,.buf none ety sz (r1++ys))::m3⟩ (ZcN mask Q))
  (hop:l[p]?=some ⟨some d,.call ⟨.builtin .append,#[x,y],#[t,t]⟩,ty,pos,aft,none⟩:=by exact rfl) (hB:regB l.toArray n=true:=by decide +kernel) (hpn:p < n:=by decide) (hds:l.map (·.dst)=ds:=by exact rfl) (h1l:l.take p=l1:=by exact rfl) (h2l:(l.take n).drop (p+1)=l2:=by exact rfl) (h3l:l.drop n=l3:=by exact rfl)
  (h1:Zbw e.P ds (p+1) l1 ⟨s,m⟩=.done ⟨s1,m1⟩:=by exact sfv) (hx:evA s1 x=.d (.clip r1):=by exact sfx) (hy:slA [] (evA s1 y)=some ys:=by exact sfx)
  (hb:Za1 e.P t=some (ety,sz,by'):=by exact sfx) (hr1:ZaT sz r1=true:=by simp only [pz,↓reduceIte,Nat.reduceEqDiff,Nat.reduceAdd,Nat.reduceSub,Nat.reduceMul,Nat.reduceLeDiff,Nat.reduceBEq,Tal,decide_true,decide_false,Int.reduceLE,Int.reduceToNat,Int.reduceLT,Int.reduceEq,eq_self,Nat.reduceShiftRight,Nat.reduceAnd,Nat.reduceBneDiff,F]) (hys:ZaT sz ys=true:=by simp only [pz,↓reduceIte,Nat.reduceEqDiff,Nat.reduceAdd,Nat.reduceSub,Nat.reduceMul,Nat.reduceLeDiff,Nat.reduceBEq,Tal,decide_true,decide_false,Int.reduceLE,Int.reduceToNat,Int.reduceLT,Int.reduceEq,eq_self,Nat.reduceShiftRight,Nat.reduceAnd,Nat.reduceBneDiff,F])
  (h2:Zbw e.P ds (n - p) l2 ⟨(d,.undef)::s1,m1⟩=.done ⟨s2,m2⟩:=by exact sfv) (hk:Zau d s2=s3:=by exact snv) (hr:remM d m2=m3:=by exact snv):pwp e mask (.region id l.toArray true) ⟨s,m⟩ Q:=by
 subst hds h1l h2l h3l hk hr
 exact ZBX (ops:=l.toArray) (by simpa using hop) hpn hB (ZfI h1 ⟨⟨⟨x,y,#[x,y],#[t,t],t,by',r1,ys,rfl,rfl,hx,hy,rfl,rfl,hb,hr1,hys,hle,hne,rfl⟩,rfl,rfl⟩,ZfI h2 hK⟩)
theorem ZHJ {id:Nat} {l l1:List Oper} {s s1:List (Nat × A)} {m m1:List (Nat × Bk)} (n:Nat) (hK:ZcC e ds l.toArray (ZcN mask Q) (l.length - n) (Zb8 l.length n) ⟨s1,m1⟩) (hB:regT l.toArray n=true:=by decide +kernel) (hds:l.map (·.dst)=ds:=by exact rfl) (h1l:l.take n=l1:=by exact rfl)
  (h1:Zbw e.P ds (n+1) l1 ⟨s,m⟩=.done ⟨s1,m1⟩:=by exact sfv):pwp e mask (.region id l.toArray true) ⟨s,m⟩ Q:=by
 subst hds h1l
 exact ZBW (ops:=l.toArray) n hB (ZfI h1 hK)
theorem Zic {K:St->Prop} {o:Oper} {s s1:List (Nat × A)} {m m1:List (Nat × Bk)} (hg:o.guard=none) (hal:∀ t,o.op≠.alloc t) (hrun:Zbw e.P ds 0 [o] ⟨s,m⟩=.done ⟨s1,m1⟩) (hK:Runs e ds 0 [] ⟨s1,m1⟩ K):ZbC e o ⟨s,m⟩ (fun σ'=>Runs e ds 0 [] σ' K):=by
 have key:∀ σ,ResQ e ds (fun σ'=>Runs e ds 0 [] σ' K) (Res.done σ)->Runs e ds 0 [] σ (fun σ'=>Runs e ds 0 [] σ' K):=fun σ h=>Zb1 h
 have hr:Zbw e.P ds 0 [o] ⟨s,m⟩=Zbn e.P o.dst o.type 0 0 [] (fun σ=>.done σ) o.op ⟨s,m⟩:=by
  obtain ⟨od,oo,ot,op,oa,og⟩:=o
  simp only at hg
  subst hg
  rfl
 rw [hr] at hrun
 have h:=Zfq (e:=e) (ds:=ds) (os:=[]) (K:=fun σ'=>Runs e ds 0 [] σ' K) (n:=0) (q:=0) (next:=fun σ=>.done σ) key (o:=o) (σ:=⟨s,m⟩) (.inl rfl) (by rw [hrun];exact hK)
 have h:ZbC e o ⟨s,m⟩ (fun σ'=>Runs e ds 0 [] σ' (fun σ'=>Runs e ds 0 [] σ' K)):=h
 intro he U w0 S0 nt a w Q hd hs
 refine Oper.wp_mono (fun a' w' ⟨σ',h1,h2⟩=>⟨σ',?_,h2⟩) (h he U w0 S0 nt a w Q hd hs)
 intro he U w0 S0 nt a w ops Q hds hd hQ hs
 exact h1 he U w0 S0 nt a w ops Q hds hd (fun a w σ2 h3 h4=>h3 he U w0 S0 nt a w ops Q hds hd hQ h4) hs
theorem gT1 {ops:Array Oper} {K:St->Prop} {f:Nat} {listed:Array Bool} {o:Oper} {s s1:List (Nat × A)} {m m1:List (Nat × Bk)} (i:Nat) (hK:Runs e ds 0 [] ⟨s1,m1⟩ (ZcC e ds ops K f (listed.setIfInBounds i true))) (hr:Region.ready .any ops listed=[i]:=by decide +kernel) (ho:ops[i]?=some o:=by simp only [List.getElem?_toArray,Tat,Tas];exact rfl) (hg:o.guard=none:=by exact rfl) (hal:∀ t,o.op≠.alloc t:=by intro t h;cases h)
  (hrun:Zbw e.P ds 0 [o] ⟨s,m⟩=.done ⟨s1,m1⟩:=by exact sfv):ZcC e ds ops K (f+1) listed ⟨s,m⟩:=by
 refine ⟨fun h=>(by rw [hr] at h;cases h),fun j hj=>?_⟩
 rw [hr] at hj
 have hji:j=i:=by simpa using hj
 subst hji
 exact ⟨o,ho,hg,Zic hg hal hrun hK⟩
theorem gT2 {ops:Array Oper} {K:St->Prop} {f:Nat} {listed:Array Bool} {o o':Oper} {s s1 s2:List (Nat × A)} {m m1 m2:List (Nat × Bk)} (i j:Nat) (hK:Runs e ds 0 [] ⟨s1,m1⟩ (ZcC e ds ops K f (listed.setIfInBounds i true))) (hK':Runs e ds 0 [] ⟨s2,m2⟩ (ZcC e ds ops K f (listed.setIfInBounds j true))) (hr:Region.ready .any ops listed=[i,j]:=by decide +kernel) (ho:ops[i]?=some o:=by simp only [List.getElem?_toArray,Tat,Tas];exact rfl) (hg:o.guard=none:=by exact rfl) (hal:∀ t,o.op≠.alloc t:=by intro t h;cases h)
  (hrun:Zbw e.P ds 0 [o] ⟨s,m⟩=.done ⟨s1,m1⟩:=by exact sfv) (ho':ops[j]?=some o':=by simp only [List.getElem?_toArray,Tat,Tas];exact rfl) (hg':o'.guard=none:=by exact rfl) (hal':∀ t,o'.op≠.alloc t:=by intro t h;cases h) (hrun':Zbw e.P ds 0 [o'] ⟨s,m⟩=.done ⟨s2,m2⟩:=by exact sfv):ZcC e ds ops K (f+1) listed ⟨s,m⟩:=by
 refine ⟨fun h=>(by rw [hr] at h;cases h),fun k hk=>?_⟩
 rw [hr] at hk
 have hk:k=i∨k=j:=by simpa using hk
 rcases hk with rfl | rfl
 ·exact ⟨o,ho,hg,Zic hg hal hrun hK⟩
 ·exact ⟨o',ho',hg',Zic hg' hal' hrun' hK'⟩
theorem gT0 {ops:Array Oper} {listed:Array Bool} {s s':List (Nat × A)} {m:List (Nat × Bk)} (hK:Q .normal ⟨s',m⟩) (hr:Region.ready .any ops listed=[]:=by decide +kernel) (hs:Zdo mask s=s':=by exact snv):ZcC e ds ops (ZcN mask Q) 0 listed ⟨s,m⟩:=by
 subst hs
 exact ⟨hr,hK⟩
end
section
variable {e:Env} {mask:Nat} {Q:PX->St->Prop} {ds:List (Option Nat)}
theorem ZG6 {P:Program} {o:Oper} {a:Act} {w:World} {K:Act->World->Prop} {Q0 Q:Exit->Act->World->Prop} (h0:∀ ex a w,ex≠.normal->¬ Q0 ex a w) (hh:o.wp P a w K Q0):o.wp P a w K Q:=by
 have hl:¬ LetsOut Q0:=fun ⟨a,w,h⟩=>h0 _ a w (by simp) h
 unfold Oper.wp at *
 generalize (execOp a.eval o).run P w=r at *
 cases r with
 | ok n w' =>
  cases n <;> simp only [Oper.upon] at hh ⊢ <;> first
   | exact hh
   | exact Calls.mono hh (fun e w'' he=>by cases e <;> first | exact he | exact absurd he (h0 _ _ _ (by simp)) | exact absurd he hl)
   | exact absurd hh hl
   | exact absurd hh (h0 _ _ _ (by simp))
 | halt x w' =>
  cases x <;> simp only [Oper.upon] at hh ⊢ <;> first
   | exact hh
   | exact absurd hh hl
   | exact absurd hh (h0 _ _ _ (by simp))
theorem Zef {o:Oper} {σ:St} {K:St->Prop} (hg:o.guard=none) (h:Runs e ds 0 [o] σ K):ZbC e o σ (fun σ'=>Runs e ds 0 [] σ' K):=by
 intro he U w0 S0 nt a w Q hd hs
 have h:Zeb e ds [o] σ K:=by simpa only [Runs] using h
 have h1:=h he U w0 S0 nt a w (ds.map fun d=>{ o with dst:=d }) (fun ex a' w'=>ex=.normal∧∃ σ',K σ'∧SimE e U w0 S0 nt σ' a' w') (by rw [List.map_map];exact List.map_id ds) (fun o' ho d hd'=>by simp only [Tbj] at ho;subst ho;exact hd d hd') (fun a w σ' k1 k2=>⟨rfl,σ',k1,k2⟩) hs
 unfold wpList at h1
 have hw:Region.wanted o (yielded (ds.map fun d=>{ o with dst:=d }).toArray a.tmps)=true:=by simp [Region.wanted,hg]
 rw [if_pos hw] at h1
 rcases h1 with h1 | ⟨_,a',w',h1,_⟩
 ·refine ZG6 (fun ex a w hne h=>hne h.1) (Oper.wp_mono (fun a' w' hk=>?_) h1)
  simp only [wpList] at hk
  obtain ⟨_,σ',k1,k2⟩:=hk
  exact ⟨σ',Zb1 k1,k2⟩
 ·cases h1
theorem gO1 {ops:Array Oper} {K:St->Prop} {f:Nat} {listed:Array Bool} {o:Oper} {σ:St} (i:Nat) (hK:Runs e ds 0 [o] σ (ZcC e ds ops K f (listed.setIfInBounds i true))) (hr:Region.ready .any ops listed=[i]:=by decide +kernel) (ho:ops[i]?=some o:=by simp only [List.getElem?_toArray,Tat,Tas];exact rfl) (hg:o.guard=none:=by exact rfl):ZcC e ds ops K (f+1) listed σ:=by
 refine ⟨fun h=>(by rw [hr] at h;cases h),fun j hj=>?_⟩
 rw [hr] at hj
 have hji:j=i:=by simpa using hj
 subst hji
 exact ⟨o,ho,hg,Zef hg hK⟩
theorem gO2 {ops:Array Oper} {K:St->Prop} {f:Nat} {listed:Array Bool} {o o':Oper} {σ:St} (i j:Nat) (hK:Runs e ds 0 [o] σ (ZcC e ds ops K f (listed.setIfInBounds i true))) (hK':Runs e ds 0 [o'] σ (ZcC e ds ops K f (listed.setIfInBounds j true))) (hr:Region.ready .any ops listed=[i,j]:=by decide +kernel) (ho:ops[i]?=some o:=by simp only [List.getElem?_toArray,Tat,Tas];exact rfl) (hg:o.guard=none:=by exact rfl) (ho':ops[j]?=some o':=by simp only [List.getElem?_toArray,Tat,Tas];exact rfl) (hg':o'.guard=none:=by exact rfl):ZcC e ds ops K (f+1) listed σ:=by
 refine ⟨fun h=>(by rw [hr] at h;cases h),fun k hk=>?_⟩
 rw [hr] at hk
 have hk:k=i∨k=j:=by simpa using hk
 rcases hk with rfl | rfl
 ·exact ⟨o,ho,hg,Zef hg hK⟩
 ·exact ⟨o',ho',hg',Zef hg' hK'⟩
theorem gO3 {K:St->Prop} {o:Oper} {s s1:List (Nat × A)} {m m1:List (Nat × Bk)} (hK:K ⟨s1,m1⟩) (h:Zbw e.P ds 0 [o] ⟨s,m⟩=.done ⟨s1,m1⟩:=by exact sfv):Runs e ds 0 [o] ⟨s,m⟩ K:=ZfI h hK
theorem ZrY {K:St->Prop} {n:Nat} {os:List Oper} {o:Oper} {σ:St} (hg:o.guard=none) (hal:isAl o=false) (h:ZeL e o σ (fun σ'=>Runs e ds n os σ' K)):Runs e ds (n+1) (o::os) σ K:=by
 simp only [Runs,hg]
 rw [if_neg (by simp [hal])]
 exact h
theorem gAq {K:St->Prop} {os:List Oper} {n d ty:Nat} {p:String} {ed:Array Edge} {x:Operand} {y:D} {s:List (Nat × A)} {m:List (Nat × Bk)} (hK:Runs e ds n os ⟨(d,.d y)::s,m⟩ K) (hx:evA s x=.d y:=by exact sfx):Runs e ds (n+1) (⟨some d,.assign x,ty,p,ed,none⟩::os) ⟨s,m⟩ K :=
 ZrY rfl rfl fun he=>⟨.d y,hK,fun U base S0=>ZaL fun w S L ρv hC hr=>⟨ρv x,by simp [execOp],by
  have h:=hr x (by simp [Op.operands])
  rw [hx] at h
  exact h⟩⟩
end
theorem Zz4 (n:Int):Con e0 222 [.one (.lit (.int .i64 n))] [.one (.lit (.bool (decide (0<=n∧n<=65535))))]:=by
 refine gI 5 Tryz.func222 ?_
 by_cases h1:0<=n <;> by_cases h2:n<=65535 <;> (have F:=ai @h1 @h2;refine gG ?_;exact gT)
theorem Zce:∀ p:Int × Int,Zc1 p=[.lit (.int .i64 p.1),.lit (.int .i64 p.2)]:=fun _=>rfl
theorem Zz5 {k:Nat} (h:k < 62):IntKind.u64.wrap (k:Int)=(k:Int):=by
 have h2:(k:Int) < 18446744073709551616:=by omega
 simp only [IntKind.wrap,IntKind.signed,IntKind.bits,Tal,if_false]
 exact Int.emod_eq_of_lt om om
theorem ZfM:Tryz.prog.underlying 3=some (.int .i64):=by kernel_rfl
theorem Zfg:ZdA (Tryz.prog.underlying 168)=some .u64:=by kernel_rfl
theorem Zga {k:Nat} (h:k < 62):IntKind.i64.wrap (1 * 2 ^ min k 64)=((2 ^ k:Nat):Int):=by
 rw [Nat.min_eq_left om,Int.one_mul,show (2:Int) ^ k=((2 ^ k:Nat):Int) by rw [Int.natCast_pow];rfl]
 have:=ZgC h
 generalize 2 ^ k=x at this ⊢
 exact IntWalk.i64_in _ om
theorem Zeg (j:Int):ZlD j (some (.int .i64)) (some .u64)=some (.d (.one (.lit (.int .u64 (IntKind.u64.wrap j))))):=rfl
theorem ZfN {k:Nat} (hk:k < 62):Con e0 211 [.one (.lit (.int .i64 k))] [.one (.lit (.int .i64 ((2 ^ k:Nat):Int)))]:=by
 have h1:=Zz5 hk
 have h2:=Zga hk
 refine gI 5 Tryz.func211 ?_
 (have F:=ai @ZfM (ai @Zfg (ai @Zeg (ai @h1 (ai @h2 @Zas))));refine gG ?_;exact gT)
def tbit (a k:Nat):Bool:=a.testBit k
theorem ZHK {a k:Nat} (ha:a < 4611686018427387904) (h:k < 62):decide (bits .and .i64 ((a:Int).fdiv (2 ^ min k 64)) 1=1)=tbit a k:=by
 rw [tbit]
 rw [Nat.min_eq_left om,Int.fdiv_eq_ediv_of_nonneg _ (Int.pow_nonneg (by decide)),<- ZrU ha]
 exact (Bool.beq_eq_decide_eq _ _).symm
theorem ZeN {a k:Nat} (ha:a < 4611686018427387904) (hk:k < 16):Con e0 119 [.one (.lit (.int .i64 a)),.one (.lit (.int .i64 k))] [.one (.lit (.bool (tbit a k)))]:=by
 have h1:=Zz5 (k:=k) om
 have h2:=ZHK (k:=k) ha om
 have z1:((k:Int) < 16)=True:=eq_true om
 have z2:((0:Int)<=(k:Int))=True:=eq_true om
 refine gI 19 Tryz.func119 ?_
 (have F:=ai @ZfM (ai @Zfg (ai @Zeg (ai @h1 (ai @h2 (ai @Zas (ai @z1 @z2))))));refine gG ?_;exact gT)
theorem Zz6 (a b:Nat):Con e0 233 [.one (.lit (.int .i64 a)),.one (.lit (.int .i64 b))] [.one (.lit (.int .i64 ((min a b:Nat):Int)))]:=by
 refine gI 147 Tryz.func233 ?_
 by_cases h:a < b
 ·have z1:((a:Int) < (b:Int))=True:=eq_true om
  have e:min a b=a:=Nat.min_eq_left om
  (have F:=ai @z1 @e;refine gG ?_;exact gT)
 ·have z1:((a:Int) < (b:Int))=False:=eq_false om
  have e:min a b=b:=Nat.min_eq_right om
  (have F:=ai @z1 @e;refine gG ?_;exact gT)
theorem ZGc (n:Nat):ZdU n 0=List.replicate n 0:=by simp [ZdU,up0]
theorem Zp8 (subs:List (Int × Int)) (l:List Nat):Zc2 subs 0 l=l:=rfl
theorem ZmW (n:Nat) (z:List C):(List.replicate n z).length=n:=Tbr
def nR (l:List Nat):List (List C):=(ZbU l).map ZbQ
section
variable {l:List Nat}
theorem ZaF:(nR l).length=l.length:=by rw [nR,Tax,Zhe]
theorem ZaH {i x:Nat} (h:l[i]?=some x):(nR l)[i]?=some [.lit (.int .i64 x)]:=by rw [nR,Taz,ZnI h];rfl
theorem Zcf (i x:Nat):(nR l).set i [.lit (.int .i64 x)]=nR (l.set i x):=by rw [nR,nR,ZzY,List.map_set];rfl
theorem Zay:ZaT 1 (nR l)=true:=ZpW _
theorem Zgl (x:Nat):nR l++[[.lit (.int .i64 x)]]=nR (l++[x]):=by rw [nR,nR,ZvW,Tbw];rfl
end
theorem nR_0 (n:Nat):List.replicate n [C.lit (.int .i64 0)]=nR (List.replicate n 0):=by simp [nR,ZbU,ZbQ]
theorem ZuD:∀ (l:List Nat) (p:Int × Int),Zc7 l p=l.set p.1.toNat (l.getD p.1.toNat 0 ||| l.getD p.2.toNat 0):=fun _ _=>rfl
theorem ZuE (subs:List (Int × Int)) (l:List Nat):(subs.take 0).foldl Zc7 l=l:=rfl
theorem ZuF (subs:List (Int × Int)) (l:List Nat):Zct subs 0 l=l:=rfl
theorem Zz7 (subs:List (Int × Int)) (l:List Nat):(subs.take 0).foldl kSub l=l:=rfl
theorem ZnO {subs:List (Int × Int)} {i:Nat} {p:Int × Int} (h:subs[i]?=some p) (l:List Nat):(subs.take (i+1)).foldl kSub l=kSub ((subs.take i).foldl kSub l) p:=Zia h l
theorem Zz8:nR (up0 0)=[]∧nR (List.range 0)=[]∧nR []=[]:=⟨rfl,rfl,rfl⟩
theorem ZuG (a:Nat):nR (ZbS a 0)=[]:=rfl
theorem ZlS {subs:List (Int × Int)} {i:Nat} {p:Int × Int} (h:subs[i]?=some p) (l:List Nat):(subs.take (i+1)).foldl Zc7 l=Zc7 ((subs.take i).foldl Zc7 l) p:=Zia h l
section
variable {s:Srt}
theorem ZiD (h1:1<=s.names.length) (h8:s.names.length<=8) (hm:s.subs.length<=16) (hs:ZbP s.names.length s.subs):Con e0 164 [.agg (Za6 s)] [.one (.sl (nR (up s)))]:=by
 have hmx:((s.names.length:Int)<=(maxApp:Int))=True:=eq_true (by unfold maxApp;omega)
 rw [Za6]
 refine gI 2072014943 Tryz.func164 ?_
 (have F:=ai @hmx (ai @Tbz @ZmW);refine gG ?_;clear F)
 rw [nR_0]
 (have F:=@ZGc;refine gL (ι:=Nat) [3,4,13,14] [3] (fun k=>[(13,A.d (.one (.lit (.int .i64 k)))),(3,.buf 3)]) (fun k=>[(3,.buf none 3 1 (nR (ZdU s.names.length k)))]) (fun k=>k<=s.names.length) (fun k=>s.names.length - k) (0) (Tai _) (fun k hk=>?_);clear F)
 by_cases hlt:k < s.names.length
 ·have q1:(k:Int) < (s.names.length:Int):=by omega
  have hw:=Zap (k:=k) om
  have hsh:=Zga (k:=k) om
  have l1:=ZzZ (n:=s.names.length) (k:=k) om
  have l2:=ZaF (l:=ZdU s.names.length k)
  have l3:=Zay (l:=ZdU s.names.length k)
  have l4:=Zcf (l:=ZdU s.names.length k) k (2 ^ k)
  rw [Zz0 hlt] at l4
  rw [l1] at l2
  obtain ⟨x,hx⟩:∃ x,(ZdU s.names.length k)[k]?=some x:=⟨_,Taa om⟩
  have l5:=ZaH hx
  (have F:=ai @q1 (ai @hsh (ai @l2 (ai @l3 (ai @l4 (ai @l5 (ai @hlt (ai @hw @Zas)))))));refine gG ?_;exact ⟨k+1,hlt,gw,gw,by omega⟩)
 obtain rfl:k=s.names.length:=by omega
 have q1:¬ ((s.names.length:Int) < (s.names.length:Int)):=by omega
 rw [Zz1]
 have hU:=UpOk.start s.names.length
 have l0:(nR (up0 s.names.length)).length=s.names.length:=by rw [ZaF,hU.1]
 (have F:=ai @q1 @l0;refine gG ?_;clear F)
 (have F:=@Zp8;refine gL (ι:=Nat) [3,6,24,25,27,28,29,30] [3] (fun j=>[(24,A.d (.one (.lit (.int .i64 j)))),(3,.buf 3)]) (fun j=>[(3,.buf none 3 1 (nR (Zc2 s.subs j (up0 s.names.length))))]) (fun j=>j<=s.names.length) (fun j=>s.names.length - j) (0) (Tai _) (fun j hj=>?_);clear F)
 by_cases hlj:j < s.names.length
 rotate_left
 ·obtain rfl:j=s.names.length:=by omega
  have q2:¬ ((s.names.length:Int) < (s.names.length:Int)):=by omega
  rw [up]
  (have F:=@q2;refine gG ?_;clear F)
  (have F:=@e0P;refine gG ?_;exact gTz [2])
 have q2:(j:Int) < (s.names.length:Int):=by omega
 have hwj:=Zap (k:=j) om
 have hUj:=UpOk.iter hs j hU
 have hnx:Zc2 s.subs (j+1) (up0 s.names.length)=s.subs.foldl Zc7 (Zc2 s.subs j (up0 s.names.length)):=rfl
 generalize Zc2 s.subs j (up0 s.names.length)=u at hUj hnx ⊢
 (have F:=@q2;refine gG ?_;clear F)
 (have F:=@ZuE;refine gL (ι:=Nat) [3,6,29,30] [3] (fun i=>[(29,A.d (.one (.lit (.int .i64 i)))),(3,.buf 3)]) (fun i=>[(3,.buf none 3 1 (nR ((s.subs.take i).foldl Zc7 u)))]) (fun i=>i<=s.subs.length) (fun i=>s.subs.length - i) (0) (Tai _) (fun i hi=>?_);clear F)
 by_cases hli:i < s.subs.length
 rotate_left
 ·obtain rfl:i=s.subs.length:=by omega
  have q3:¬ ((s.subs.length:Int) < (s.subs.length:Int)):=by omega
  rw [Tao,<- hnx]
  (have F:=ai @q3 @hwj;refine gG ?_;exact ⟨j+1,hlj,gw,gw,by omega⟩)
 have q3:(i:Int) < (s.subs.length:Int):=by omega
 have hwi:=Zap (k:=i) om
 obtain ⟨p,hp⟩:∃ p,s.subs[i]?=some p:=⟨_,Taa hli⟩
 have hps:=hs p (Tab hp)
 have hst:=ZlS hp u
 have hUi:=UpOk.foldl hUj (hs.take i)
 generalize (s.subs.take i).foldl Zc7 u=v at hUi hst ⊢
 obtain ⟨g1,b1⟩:=hUi.get (i:=p.1.toNat) om
 obtain ⟨g2,b2⟩:=hUi.get (i:=p.2.toNat) om
 have p256:2 ^ s.names.length<=256:=Tbe (Tbt om h8) (by decide)
 have hor:=Zc8 (a:=v.getD p.1.toNat 0) (b:=v.getD p.2.toNat 0) om om
 have l1:=ZaH g1
 have l2:=ZaH g2
 have l3:=ZaF (l:=v)
 rw [hUi.1] at l3
 have l4:=Zay (l:=v)
 have l5:=Zcf (l:=v) p.1.toNat (v.getD p.1.toNat 0 ||| v.getD p.2.toNat 0)
 have i1:0<=p.1:=hps.1
 have i2:0<=p.2:=hps.2.2.1
 have i3:p.1.toNat < s.names.length:=by omega
 have i4:p.2.toNat < s.names.length:=by omega
 (have F:=ai @q3 (ai @hp (ai @Zce (ai @l1 (ai @l2 (ai @l3 (ai @l4 (ai @l5 (ai @hor (ai @i1 (ai @i2 (ai @i3 (ai @i4 (ai @hwi (ai @hst @ZuD))))))))))))));refine gG ?_;exact ⟨i+1,hli,gw,gw,by omega⟩)
theorem Zfh (h8:s.names.length<=8) (hm:s.subs.length<=16) (hs:ZbP s.names.length s.subs):Con e0 206 [.agg (Za6 s)] [.one (.sl (nR (up s)))]:=by
 rw [Za6]
 refine gI 2164265087 Tryz.func206 ?_
 (have F:=@e0P;refine gG ?_;clear F)
 (have F:=@Zz8;refine gL (ι:=Nat) [3,4,12] [3] (fun k=>[(4,A.d (.one (.lit (.int .i64 k)))),(3,.buf 3)]) (fun k=>[(3,.buf none 3 1 (nR (up0 k)))]) (fun k=>k<=s.names.length) (fun k=>s.names.length - k) (0) (Tai _) (fun k hk=>?_);clear F)
 by_cases hlt:k < s.names.length
 ·have q1:(k:Int) < (s.names.length:Int):=by omega
  have hw:=Zap (k:=k) om
  have l2:=ZaF (l:=up0 k)
  rw [(UpOk.start k).1] at l2
  have l3:=Zay (l:=up0 k)
  have l4:=Zgl (l:=up0 k) (2 ^ k)
  rw [<- ZBT] at l4
  have hmx:(k+1<=maxApp)=True:=eq_true (by unfold maxApp;omega)
  (have F:=@q1;refine gG ?_;clear F)
  refine gB ?_
  (have F:=@e0P;refine gC (ZfN (k:=k) om) ?_;clear F)
  (have F:=ai @l2 (ai @l3 (ai @l4 @hmx));refine gR ?_;clear F)
  (have F:=@hw;refine gG ?_;exact ⟨k+1,hlt,gw,gw,by omega⟩)
 obtain rfl:k=s.names.length:=by omega
 have q1:¬ ((s.names.length:Int) < (s.names.length:Int)):=by omega
 have hU:=UpOk.start s.names.length
 (have F:=@q1;refine gG ?_;clear F)
 (have F:=@Zp8;refine gL (ι:=Nat) [3,5,6,24,31] [3] (fun j=>[(5,A.d (.one (.lit (.int .i64 j)))),(3,.buf 3)]) (fun j=>[(3,.buf none 3 1 (nR (Zc2 s.subs j (up0 s.names.length))))]) (fun j=>j<=s.names.length) (fun j=>s.names.length - j) (0) (Tai _) (fun j hj=>?_);clear F)
 by_cases hlj:j < s.names.length
 rotate_left
 ·obtain rfl:j=s.names.length:=by omega
  have q2:¬ ((s.names.length:Int) < (s.names.length:Int)):=by omega
  rw [up]
  (have F:=@q2;refine gG ?_;clear F)
  (have F:=@e0P;refine gG ?_;exact gTz [2])
 have q2:(j:Int) < (s.names.length:Int):=by omega
 have hwj:=Zap (k:=j) om
 have hUj:=UpOk.iter hs j hU
 have hnx:Zc2 s.subs (j+1) (up0 s.names.length)=s.subs.foldl Zc7 (Zc2 s.subs j (up0 s.names.length)):=rfl
 generalize Zc2 s.subs j (up0 s.names.length)=u at hUj hnx ⊢
 (have F:=@q2;refine gG ?_;clear F)
 (have F:=@ZuE;refine gL (ι:=Nat) [3,6,31] [3] (fun i=>[(6,A.d (.one (.lit (.int .i64 i)))),(3,.buf 3)]) (fun i=>[(3,.buf none 3 1 (nR ((s.subs.take i).foldl Zc7 u)))]) (fun i=>i<=s.subs.length) (fun i=>s.subs.length - i) (0) (Tai _) (fun i hi=>?_);clear F)
 by_cases hli:i < s.subs.length
 rotate_left
 ·obtain rfl:i=s.subs.length:=by omega
  have q3:¬ ((s.subs.length:Int) < (s.subs.length:Int)):=by omega
  rw [Tao,<- hnx]
  (have F:=ai @q3 @hwj;refine gG ?_;exact ⟨j+1,hlj,gw,gw,by omega⟩)
 have q3:(i:Int) < (s.subs.length:Int):=by omega
 have hwi:=Zap (k:=i) om
 obtain ⟨p,hp⟩:∃ p,s.subs[i]?=some p:=⟨_,Taa hli⟩
 have hps:=hs p (Tab hp)
 have hst:=ZlS hp u
 have hUi:=UpOk.foldl hUj (hs.take i)
 generalize (s.subs.take i).foldl Zc7 u=v at hUi hst ⊢
 obtain ⟨g1,b1⟩:=hUi.get (i:=p.1.toNat) om
 obtain ⟨g2,b2⟩:=hUi.get (i:=p.2.toNat) om
 have p256:2 ^ s.names.length<=256:=Tbe (Tbt om h8) (by decide)
 have hor:=Zc8 (a:=v.getD p.1.toNat 0) (b:=v.getD p.2.toNat 0) om om
 have l1:=ZaH g1
 have l2:=ZaH g2
 have l3:=ZaF (l:=v)
 rw [hUi.1] at l3
 have l4:=Zay (l:=v)
 have l5:=Zcf (l:=v) p.1.toNat (v.getD p.1.toNat 0 ||| v.getD p.2.toNat 0)
 have i1:0<=p.1:=hps.1
 have i2:0<=p.2:=hps.2.2.1
 have i3:p.1.toNat < s.names.length:=by omega
 have i4:p.2.toNat < s.names.length:=by omega
 (have F:=ai @q3 (ai @hp (ai @Zce (ai @l1 (ai @l2 (ai @l3 (ai @l4 (ai @l5 (ai @hor (ai @i1 (ai @i2 (ai @i3 (ai @i4 (ai @hwi (ai @hst @ZuD))))))))))))));refine gG ?_;exact ⟨i+1,hli,gw,gw,by omega⟩)
theorem Zp9 (h8:s.names.length<=8) (hm:s.subs.length<=16) (hs:ZbP s.names.length s.subs):Con e0 180 [.agg (Za6 s)] [.one (.sl (nR (kinds s)))]:=by
 rw [Za6]
 refine gI 4328555519 Tryz.func180 ?_
 (have F:=@e0P;refine gG ?_;clear F)
 (have F:=@Zz8;refine gL (ι:=Nat) [3,4,15] [3] (fun k=>[(4,A.d (.one (.lit (.int .i64 k)))),(3,.buf 3)]) (fun k=>[(3,.buf none 3 1 (nR (List.range k)))]) (fun k=>k<=s.names.length) (fun k=>s.names.length - k) (0) (Tai _) (fun k hk=>?_);clear F)
 by_cases hlt:k < s.names.length
 ·have q1:(k:Int) < (s.names.length:Int):=by omega
  have hw:=Zap (k:=k) om
  have l2:=ZaF (l:=List.range k)
  rw [List.length_range] at l2
  have l3:=Zay (l:=List.range k)
  have l4:=Zgl (l:=List.range k) k
  rw [<- List.range_succ] at l4
  have hmx:(k+1<=maxApp)=True:=eq_true (by unfold maxApp;omega)
  (have F:=ai @q1 (ai @l2 (ai @l3 (ai @l4 (ai @hmx @hw))));refine gG ?_;exact ⟨k+1,hlt,gw,gw,by omega⟩)
 obtain rfl:k=s.names.length:=by omega
 have q1:¬ ((s.names.length:Int) < (s.names.length:Int)):=by omega
 have hU:=KOk.start s.names.length
 (have F:=@q1;refine gG ?_;clear F)
 (have F:=@ZuF;refine gL (ι:=Nat) [3,5,6,7,8,9,25,32] [3] (fun j=>[(5,A.d (.one (.lit (.int .i64 j)))),(3,.buf 3)]) (fun j=>[(3,.buf none 3 1 (nR (Zct s.subs j (List.range s.names.length))))]) (fun j=>j<=s.names.length) (fun j=>s.names.length - j) (0) (Tai _) (fun j hj=>?_);clear F)
 have hUj:=KOk.iter hs j hU
 have l0:=ZaF (l:=Zct s.subs j (List.range s.names.length))
 rw [hUj.1] at l0
 by_cases hlj:j < s.names.length
 rotate_left
 ·obtain rfl:j=s.names.length:=by omega
  have q2:¬ ((s.names.length:Int) < (s.names.length:Int)):=by omega
  rw [kinds]
  (have F:=ai @l0 @q2;refine gG ?_;clear F)
  (have F:=@e0P;refine gG ?_;exact gTz [2])
 have q2:(j:Int) < (s.names.length:Int):=by omega
 have hwj:=Zap (k:=j) om
 have hnx:Zct s.subs (j+1) (List.range s.names.length)=s.subs.foldl kSub (Zct s.subs j (List.range s.names.length)):=rfl
 generalize Zct s.subs j (List.range s.names.length)=u at hUj hnx l0 ⊢
 (have F:=ai @l0 @q2;refine gG ?_;clear F)
 (have F:=@Zz7;refine gL (ι:=Nat) [3,6,7,8,9,32] [3] (fun i=>[(6,A.d (.one (.lit (.int .i64 i)))),(3,.buf 3)]) (fun i=>[(3,.buf none 3 1 (nR ((s.subs.take i).foldl kSub u)))]) (fun i=>i<=s.subs.length) (fun i=>s.subs.length - i) (0) (Tai _) (fun i hi=>?_);clear F)
 by_cases hli:i < s.subs.length
 rotate_left
 ·obtain rfl:i=s.subs.length:=by omega
  have q3:¬ ((s.subs.length:Int) < (s.subs.length:Int)):=by omega
  rw [Tao,<- hnx]
  (have F:=ai @q3 @hwj;refine gG ?_;exact ⟨j+1,hlj,gw,gw,by omega⟩)
 have q3:(i:Int) < (s.subs.length:Int):=by omega
 have hwi:=Zap (k:=i) om
 obtain ⟨p,hp⟩:∃ p,s.subs[i]?=some p:=⟨_,Taa hli⟩
 have hps:=hs p (Tab hp)
 have hst:=ZnO hp u
 have hUi:=KOk.foldl hUj (hs.take i)
 generalize (s.subs.take i).foldl kSub u=v at hUi hst ⊢
 obtain ⟨g1,b1⟩:=hUi.get (i:=p.1.toNat) om
 obtain ⟨g2,b2⟩:=hUi.get (i:=p.2.toNat) om
 have l1:=ZaH g1
 have l2:=ZaH g2
 have l3:=ZaF (l:=v)
 rw [hUi.1] at l3
 have l4:=Zay (l:=v)
 have l5:=Zcf (l:=v) p.1.toNat (min (v.getD p.1.toNat 0) (v.getD p.2.toNat 0))
 have l6:=Zcf (l:=v.set p.1.toNat (min (v.getD p.1.toNat 0) (v.getD p.2.toNat 0))) p.2.toNat (min (v.getD p.1.toNat 0) (v.getD p.2.toNat 0))
 have l7:=ZaF (l:=v.set p.1.toNat (min (v.getD p.1.toNat 0) (v.getD p.2.toNat 0)))
 rw [Tay,hUi.1] at l7
 have l8:=Zay (l:=v.set p.1.toNat (min (v.getD p.1.toNat 0) (v.getD p.2.toNat 0)))
 obtain ⟨x9,g9⟩:∃ x,(v.set p.1.toNat (min (v.getD p.1.toNat 0) (v.getD p.2.toNat 0)))[p.2.toNat]?=some x:=⟨_,Taa (by rw [Tay,hUi.1];omega)⟩
 have l9:=ZaH g9
 have i1:0<=p.1:=hps.1
 have i2:0<=p.2:=hps.2.2.1
 have i3:p.1.toNat < s.names.length:=by omega
 have i4:p.2.toNat < s.names.length:=by omega
 have hst:(s.subs.take (i+1)).foldl kSub u=(v.set p.1.toNat (min (v.getD p.1.toNat 0) (v.getD p.2.toNat 0))).set p.2.toNat (min (v.getD p.1.toNat 0) (v.getD p.2.toNat 0)):=hst
 (have F:=@q3;have NN:Zag 12:=trivial;refine gGn ?_;clear F NN)
 refine Zam 14 (by decide +kernel) ?_
 intro ds hds
 simp only [List.map] at hds
 subst hds
 refine (have F:=ai hp Zce;gP 12 ?_)
 refine (have F:=i1;gAq ?_)
 refine (have F:=i1;gAq ?_)
 (have F:=@i1;refine gR ?_;clear F)
 (have F:=@e0P;have NN:Zag 13:=trivial;refine gGn ?_;clear F NN)
 refine gB ?_
 (have F:=ai @l1 (ai @l2 (ai @l3 (ai @l4 (ai @i1 (ai @i2 (ai @i3 @i4))))));refine gC (Zz6 (v.getD p.1.toNat 0) (v.getD p.2.toNat 0)) ?_;clear F)
 (have F:=@e0P;refine gR ?_;clear F)
 (have F:=ai @l1 (ai @l2 (ai @l3 (ai @l4 (ai @l5 (ai @l6 (ai @l7 (ai @l8 (ai @l9 (ai @i1 (ai @i2 (ai @i3 (ai @i4 (ai @hwi @hst)))))))))))));refine gG ?_;exact ⟨i+1,hli,gw,gw,by omega⟩)
theorem Zet (hs:SortsOk s):Con e0 180 [.agg (Za6 s)] [.one (.sl ((ZbU (kinds s)).map ZbQ))]:=Zp9 hs.n8 hs.m16 (SortsOk.subsIn hs.subs)
end
theorem ZG7 {k:Nat} (h:k < 62):IntKind.i64.wrap (1 * 2 ^ min k 64)=((2 ^ k:Nat):Int):=Zga h
theorem ZjY {x k:Nat} (hx:x < 4611686018427387904) (hk:k < 62):decide (bits .and .i64 (x:Int) ((2 ^ k:Nat):Int)=0)=!(tbit x k):=by
 rw [tbit,<- testBit_and,Zd5 hx (ZgC hk)]
 simp only [bne,Bool.not_not]
 rw [Bool.eq_iff_iff,decide_eq_true_eq,beq_iff_eq]
 omega
theorem ZvX {a:Nat} (ha:a < 65536):Con e0 165 [.one (.lit (.int .i64 a))] [.one (.sl (nR (Zbq a)))]:=by
 have cS:=Zz4 (a:Int)
 have z0:decide (0<=(a:Int)∧(a:Int)<=65535)=true:=decide_eq_true om
 rw [z0] at cS
 refine gI 264221 Tryz.func165 ?_
 (have F:=@e0P;refine gG ?_;clear F)
 (have F:=@ZuG;refine gL (ι:=Nat) [3,4,11,18] [3] (fun k=>[(4,A.d (.one (.lit (.int .i64 k)))),(3,.buf 3)]) (fun k=>[(3,.buf none 3 1 (nR (ZbS a k)))]) (fun k=>k<=16) (fun k=>16 - k) (0) om (fun k hk=>?_);clear F)
 by_cases hlt:k < 16
 rotate_left
 ·obtain rfl:k=16:=by omega
  have q1:¬ (((16:Nat):Int) < 16):=by omega
  rw [show Zbq a=ZbS a 16 from rfl]
  (have F:=@q1;refine gG ?_;clear F)
  (have F:=@e0P;refine gG ?_;exact gTz [2])
 have q1:((k:Int) < 16)=True:=eq_true om
 have hw:=Zap (k:=k) om
 have h1:=Zga (k:=k) om
 have h2:=ZjY (x:=a) (k:=k) om om
 (have F:=@e0P;have NN:Zag 3:=trivial;refine gGn ?_;clear F NN)
 refine gB ?_
 (have F:=@q1;refine gC (cS) ?_;clear F)
 (have F:=@q1;refine gR ?_;clear F)
 have l2:=ZaF (l:=ZbS a k)
 have l3:=Zay (l:=ZbS a k)
 have l4:=Zgl (l:=ZbS a k) k
 have hmx:((ZbS a k).length+1<=maxApp)=True:=eq_true (by have:=Zf8 a k;unfold maxApp;omega)
 cases hb:tbit a k with
 | false =>
  rw [hb] at h2
  rw [<- ZnJ hb]
  (have F:=ai @q1 (ai @h1 (ai @h2 (ai @Zas @hw)));refine gG ?_;exact ⟨k+1,hlt,gw,gw,by omega⟩)
 | true =>
  rw [hb] at h2
  rw [<- ZlQ hb] at l4
  (have F:=ai @q1 (ai @h1 (ai @h2 (ai @Zas (ai @l2 (ai @l3 (ai @l4 (ai @hmx @hw)))))));refine gG ?_;exact ⟨k+1,hlt,gw,gw,by omega⟩)
end Go.Proofs.YtffmjghcpgpfpaaGreatDoor
namespace Go.Proofs.YtffmjghcpgpfpaaGreatDoor
open Go.RowKit Go.MapKept Go.ChangeMaps
def MapL (w:World) (b:Nat) (l:List (ByteArray × Value)):Prop:=∃ (es:Array MapEntry) (clock:Nat),w.heap[b]?=some (.map es clock)∧es.toList.map (fun e=>(e.key,e.val))=l.map (fun p=>(Value.string p.1,p.2))
def ZbM (l:List (ByteArray × Value)) (s:ByteArray):Option Value:=(l.find? fun p=>s.toList==p.1.toList).map (·.2)
def mapB (b:Nat) (l:List (ByteArray × Value)):Bk:=.set (fun g=>g=b) fun w=>MapL w b l
theorem MapL.stable (b:Nat) (l:List (ByteArray × Value)):Zdz (fun g=>g=b) fun w=>MapL w b l:=fun w w' _ hE ⟨es,c,h1,h2⟩=>⟨es,c,by rw [hE b rfl];exact h1,h2⟩
theorem MapL.lt {w:World} {b:Nat} {l:List (ByteArray × Value)} (h:MapL w b l):b < w.heap.size:=by
 obtain ⟨es,clock,h,_⟩:=h
 exact (Tbl.1 h).1
theorem ZkT (s:ByteArray):∀ (es:List MapEntry) (l:List (ByteArray × Value)) (i:Nat),es.map (fun e=>(e.key,e.val))=l.map (fun p=>(Value.string p.1,p.2)) ->
  (∀ v,ZbM l s=some v->∃ j,Instr.findNow .string (.string s) es i=some (some (j,v)))∧(ZbM l s=none->Instr.findNow .string (.string s) es i=some none)
 | [],[],i,_=>⟨fun v h=>by simp [ZbM] at h,fun _=>rfl⟩
 | [],_::_,_,h=>by simp at h
 | _::_,[],_,h=>by simp at h
 | e::es,t::ts,i,h=>by
  simp only [Tbv,List.cons.injEq,Prod.mk.injEq] at h
  obtain ⟨⟨h1,h2⟩,h3⟩:=h
  obtain ⟨ih1,ih2⟩:=ZkT s es ts (i+1) h3
  simp only [Instr.findNow,h1,h2,Instr.sameNow,beq_toListBytes,ZbM,List.find?_cons]
  cases he:(s.toList==t.1.toList)
  ·exact ⟨ih1,ih2⟩
  ·exact ⟨fun v hv=>⟨i,by simpa using hv⟩,fun h=>by simp at h⟩
section
variable {P:Program} {w:World} {b:Nat} {l:List (ByteArray × Value)} {t k el:TypeId}
theorem ZBY (h:MapL w b l) (ht:P.underlying t=some (.map k el)) (hk:P.underlying k=some .string) {z:Value} (hz:∀ w,(zeroValue el).run P w=.ok z w) (s:ByteArray) (ok:Bool) :
  (Instr.lookup t (.map (some b)) (.string s) ok).run P w=.ok (if ok then .tuple #[(ZbM l s).getD z,.bool (ZbM l s).isSome] else (ZbM l s).getD z) w:=by
 obtain ⟨es,clock,h1,h2⟩:=h
 obtain ⟨f1,f2⟩:=ZkT s es.toList l 0 h2
 have hc:∀ em,(Instr.checkKey em 10000 k (.string s)).run P w=.ok () w:=fun em=>MapKept.run_checkKey hk (by simp [MapKept.IsKey]) em 9999
 rcases hs:ZbM l s with _ | v
 ·have:=MapKept.run_findKey (w:=w) hk (f2 hs)
  simp [Instr.lookup,run_underlying ht,MapKept.run_getObj_map h1,hc,this,hs,hz]
 ·obtain ⟨j,hf⟩:=f1 v hs
  have:=MapKept.run_findKey (w:=w) hk hf
  simp [Instr.lookup,run_underlying ht,MapKept.run_getObj_map h1,hc,this,hs]
theorem ZGd (h:MapL w b l) (ht:P.underlying t=some (.map k el)) (hk:P.underlying k=some .string) {s:ByteArray} (hs:ZbM l s=none) (v:Value) :
  ∃ w',(Instr.mapUpdate t (.map (some b)) (.string s) v).run P w=.ok () w'∧MapL w' b (l++[(s,v)])∧w'.os=w.os∧w'.tape=w.tape∧w'.output=w.output∧w'.drawn=w.drawn∧w'.heap.size=w.heap.size∧∀ x,x≠b->w'.heap[x]?=w.heap[x]?:=by
 obtain ⟨es,clock,h1,h2⟩:=h
 obtain ⟨f1,f2⟩:=ZkT s es.toList l 0 h2
 have hc:∀ em,(Instr.checkKey em 10000 k (.string s)).run P w=.ok () w:=fun em=>MapKept.run_checkKey hk (by simp [MapKept.IsKey]) em 9999
 have:=MapKept.run_findKey (w:=w) hk (f2 hs)
 refine ⟨setBlock w b (.map (es.push { key:=.string s,val:=v,born:=clock }) (clock+1)),?_,⟨_,_,heap_setBlock_same h1 _,by simp [h2]⟩,rfl,rfl,rfl,rfl,by simp [setBlock],fun x hx=>heap_setBlock_other h1 _ hx⟩
 simp [Instr.mapUpdate,run_underlying ht,MapKept.run_getObj_map h1,hc,this,MapKept.run_setObj_map _ h1,setBlock]
end
section
variable {e:Env} {σ:St} {o:Oper} {K:St->Prop}
theorem ZrZ {t:TypeId} (ho:o.op=.makeMap t none) {d:Nat} (hdd:o.dst=some d) (hK:∀ b:Nat,K ⟨(d,.d (.one (.lit (.map (some b)))))::Zau d σ.s,(d,mapB b [])::remM d σ.m⟩):ZbC e o σ K:=by
 intro he U w0 S0 nt a w Q hd ⟨S,L,h1⟩
 have hb:Below w.heap.size w (w.alloc (.map #[] 0)):=ZeS w _
 have hk:Kept e.D (fun b=>(none:Option Nat)=some b) w.heap.size w (w.alloc (.map #[] 0)):=Kept.of_below hb (fun _=>Tah _)
 unfold Oper.wp
 have hrun:(execOp a.eval o).run e.P w=.ok (.value (.map (some w.heap.size))) (w.alloc (.map #[] 0)):=by
  simp [execOp,ho,Instr.makeMap,newObj,Result.andThen]
  rfl
 rw [hrun,Oper.upon_value,hdd]
 refine ⟨_,hK w.heap.size,h1.born he (hd d hdd) (τ:=none) (b':=0) (v':=Go.undef) (S':=S) (fun _ h=>h) (fun _ h=>.inl h) (fun t=>.inl rfl) (fun k x h=>h) (by simp) (by simp) hk ?_ ?_ (by simp [ARel,DRel,Rep])⟩
 ·simp only [Own1,mapB]
  refine ⟨fun b hb'=>?_,⟨#[],0,heap_alloc_new w _,rfl⟩,MapL.stable _ _⟩
  subst hb'
  exact ⟨by simp,fun hs=>by have:=(h1.cls.sin _ hs).1;omega⟩
 ·intro g hg
  simp only [ZaB,mapB] at hg
  exact .inr om
theorem ZnP {t:TypeId} {x y:Operand} {ok:Bool} (ho:o.op=.lookup t x y ok) {κ b:Nat} {l:List (ByteArray × Value)} {s:ByteArray} {kt el:TypeId} {z:Value} (ht:e.P.underlying t=some (.map kt el)) (hk:e.P.underlying kt=some .string) (hz:∀ w,(zeroValue el).run e.P w=.ok z w)
  (hx:evA σ.s x=.d (.one (.lit (.map (some b))))) (hy:evA σ.s y=.d (.one (.lit (.string s)))) (hm:gm σ.m κ=some (mapB b l)) {α:A} (hα:∀ (w:World) (S:Nat->Prop) (L:Lay),ARel w S L α (if ok then .tuple #[(ZbM l s).getD z,.bool (ZbM l s).isSome] else (ZbM l s).getD z)) (hK:K ⟨setA σ.s o.dst α,σ.m⟩):ZbC e o σ K:=by
 intro he U w0 S0 nt a w Q hd ⟨S,L,h1⟩
 have hx':=h1.eval x
 have hy':=h1.eval y
 rw [hx] at hx'
 rw [hy] at hy'
 have hx':a.eval x=.map (some b):=by simpa [ARel,DRel,Rep] using hx'
 have hy':a.eval y=.string s:=by simpa [ARel,DRel,Rep] using hy'
 obtain ⟨_,hM,_⟩:=h1.cls.own κ _ hm
 unfold Oper.wp
 have hrun:(execOp a.eval o).run e.P w=.ok (.value (if ok then .tuple #[(ZbM l s).getD z,.bool (ZbM l s).isSome] else (ZbM l s).getD z)) w:=by
  simp [execOp,ho,hx',hy',ZBY hM ht hk hz s ok,Result.andThen]
 rw [hrun,Oper.upon_value]
 exact ⟨_,hK,S,L,h1.put (hα w S L) hd⟩
theorem ZBZ {t:TypeId} {x y u:Operand} (ho:o.op=.mapUpdate t x y u) {κ b:Nat} {l:List (ByteArray × Value)} {s:ByteArray} {kt el:TypeId} {v:Value} (hdn:o.dst=none) (ht:e.P.underlying t=some (.map kt el)) (hk:e.P.underlying kt=some .string)
  (hx:evA σ.s x=.d (.one (.lit (.map (some b))))) (hy:evA σ.s y=.d (.one (.lit (.string s)))) (hu:evA σ.s u=.d (.one (.lit v))) (hm:gm σ.m κ=some (mapB b l)) (hs:ZbM l s=none) (hK:K ⟨σ.s,(κ,mapB b (l++[(s,v)]))::remM κ σ.m⟩):ZbC e o σ K:=by
 intro he U w0 S0 nt a w Q hd ⟨S,L,h1⟩
 have hx':=h1.eval x
 have hy':=h1.eval y
 have hu':=h1.eval u
 rw [hx] at hx'
 rw [hy] at hy'
 rw [hu] at hu'
 have hx':a.eval x=.map (some b):=by simpa [ARel,DRel,Rep] using hx'
 have hy':a.eval y=.string s:=by simpa [ARel,DRel,Rep] using hy'
 have hu':a.eval u=v:=by simpa [ARel,DRel,Rep] using hu'
 obtain ⟨hbb,hM,_⟩:=h1.cls.own κ _ hm
 obtain ⟨w',hrun,hM',o1,o2,o3,o4,o5,o6⟩:=ZGd hM ht hk hs v
 unfold Oper.wp
 have hrun:(execOp a.eval o).run e.P w=.ok .skip w':=by
  simp [execOp,ho,hx',hy',hu',hrun,Result.andThen]
 rw [hrun,Oper.upon_skip,hdn]
 have hkc:∀ c,S c->w'.heap[c]?=w.heap[c]?:=fun c hc=>o6 c fun e1=>(hbb b rfl).2 (e1 ▸ hc)
 obtain ⟨t1,t2,t3⟩:=h1.touch he (d:=κ) (bk:=mapB b (l++[(s,v)])) (m':=(κ,mapB b (l++[(s,v)]))::remM κ σ.m) (w':=w') (L':=L) (τ:=some b) (S':=S) (fun _ h=>h) (fun _ h=>.inl h)
  (fun k' x hkd hx=>by simp only [gm,hkd,if_false,Za7] at hx;exact hx) (by simp [gm]) (fun _ _=>⟨rfl,rfl⟩)
  (fun g hg=>by injection hg with hg;subst hg;exact ⟨(hbb b rfl).2,h1.cls.notE hm rfl,h1.cls.mine κ _ _ hm rfl⟩)
  (fun k' x g hkd hx hg hb=>by
   injection hg with hg;subst hg
   simp only [gm,hkd,if_false,Za7] at hx
   exact hkd (h1.cls.inj k' κ x _ _ hx hm hb rfl))
  ⟨o1,o2,o3,fun _=>Nat.le_of_eq o4.symm,by omega,fun c hc hE=>o6 c (fun eq=>hE (by rw [eq]))⟩
  ⟨fun c hc=>by have:=hbb c hc;exact ⟨by omega,this.2⟩,hM',MapL.stable _ _⟩ (fun g hg=>.inl (by simp only [ZaB,mapB] at hg;rw [hg]))
 exact ⟨_,hK,S,L,t1,fun t=>t3 _ _ (fun _=>⟨rfl,rfl⟩) (h1.rel t),h1.size,h1.defers,t2⟩
end
section
variable {e:Env} {K:St->Prop} {ds:List (Option Nat)} {os:List Oper} {s:List (Nat × A)} {m:List (Nat × Bk)}
theorem Zgb {o:Oper} {σ:St} (hg:o.guard=none) (h:ZbC e o σ (fun σ'=>Runs e ds 0 os σ' K)):Runs e ds 0 (o::os) σ K:=by
 simp only [Runs] at h ⊢
 exact ZcM hg h
theorem gMk {d t ty:Nat} {p:String} {ed:Array Edge} {s2:List (Nat × A)} {m2:List (Nat × Bk)} (hK:∀ b:Nat,Runs e ds 0 os ⟨(d,.d (.one (.lit (.map (some b)))))::s2,(d,mapB b [])::m2⟩ K) (hs:Zau d s=s2:=by exact snv) (hr:remM d m=m2:=by exact snv):Runs e ds 0 (⟨some d,.makeMap t none,ty,p,ed,none⟩::os) ⟨s,m⟩ K :=
 Zgb rfl (ZrZ rfl rfl (by simp only [hs,hr];exact hK))
theorem gLk {d t ty:Nat} {p:String} {ed:Array Edge} {x y:Operand} {b:Nat} {l:List (ByteArray × Value)} {k:ByteArray} {kt el:TypeId} {z v:Value} (κ:Nat) (ht:e.P.underlying t=some (.map kt el)) (hk:e.P.underlying kt=some .string) (hz:∀ w,(zeroValue el).run e.P w=.ok z w) (hv:(ZbM l k).getD z=v)
  (hK:Runs e ds 0 os ⟨(d,.d (.one (.lit v)))::s,m⟩ K) (hx:evA s x=.d (.one (.lit (.map (some b)))):=by exact sfx) (hy:evA s y=.d (.one (.lit (.string k))):=by exact sfx) (hm:gm m κ=some (mapB b l):=by exact snx):Runs e ds 0 (⟨some d,.lookup t x y false,ty,p,ed,none⟩::os) ⟨s,m⟩ K :=
 Zgb rfl (ZnP rfl ht hk hz hx hy hm (α:=.d (.one (.lit v))) (fun w S L=>by rw [<- hv];simp [ARel,DRel,Rep]) hK)
theorem gUp {t ty:Nat} {p:String} {ed:Array Edge} {x y u:Operand} {b:Nat} {l:List (ByteArray × Value)} {k:ByteArray} {kt el:TypeId} {v:Value} {m2:List (Nat × Bk)} (κ:Nat) (ht:e.P.underlying t=some (.map kt el)) (hk:e.P.underlying kt=some .string) (hs:ZbM l k=none)
  (hK:Runs e ds 0 os ⟨s,(κ,mapB b (l++[(k,v)]))::m2⟩ K) (hx:evA s x=.d (.one (.lit (.map (some b)))):=by exact sfx) (hy:evA s y=.d (.one (.lit (.string k))):=by exact sfx) (hu:evA s u=.d (.one (.lit v)):=by exact sfx)
  (hm:gm m κ=some (mapB b l):=by exact snx) (hr:remM κ m=m2:=by exact snv):Runs e ds 0 (⟨none,.mapUpdate t x y u,ty,p,ed,none⟩::os) ⟨s,m⟩ K :=
 Zgb rfl (ZBZ rfl rfl ht hk hx hy hu hm hs (by simp only [hr];exact hK))
end
end Go.Proofs.YtffmjghcpgpfpaaGreatDoor
namespace Go.Proofs.YtffmjghcpgpfpaaGreatDoor
open Go.RowKit
def Zdr (l:List ByteArray):List (ByteArray × Value):=l.map fun x=>(x,.bool true)
theorem ZlT (l:List ByteArray) (s:ByteArray):ZbM (Zdr l) s=if Zbl l s then some (.bool true) else none:=by
 induction l with
 | nil=>rfl
 | cons x xs ih =>
  simp only [ZbM,Zdr,Zbl,Tbv,List.any_cons] at ih ⊢
  by_cases h:(s.toList==x.toList)=true
  ·rw [List.find?_cons_of_pos (by exact h)]
   simp [h]
  ·rw [List.find?_cons_of_neg (by exact h),ih]
   simp [h]
theorem ZvY {l:List ByteArray} {i:Nat} {x:ByteArray} (h:l[i]?=some x):Zdr (l.take i)++[(x,.bool true)]=Zdr (l.take (i+1)):=by
 rw [List.take_add_one,h,Zdr,Zdr,Tbw]
 rfl
theorem ZgG:∀ x,ZcH x=[.lit (.string x)]:=fun _=>rfl
theorem Zgm:e0.P.underlying 91=some (.map 9 4):=by kernel_rfl
theorem ZdK:e0.P.underlying 9=some .string:=by kernel_rfl
theorem ZjZ:∀ w,(zeroValue 4).run e0.P w=.ok (.bool false) w:=fun w=>by kernel_rfl
theorem ZGe:Zdr []=[]∧∀ l:List ByteArray,Zdr (l.take 0)=[]:=⟨rfl,fun _=>rfl⟩
section
variable {s:Srt}
theorem ZiE (hok:ZlJ s):Con e0 163 [.agg (Za6 s)] [.one (.lit (.bool (ZbZ s)))]:=by
 have hno:¬ SortsOk s->ZbZ s=false:=ZfT
 have cU:=fun h1 h2 h3 h4=>ZiD (s:=s) h1 h2 h3 h4
 have hrs:=Zi8 s.names
 rw [Za6] at cU ⊢
 refine gI 41538379337072913235836183427157855 Tryz.func163 ?_
 by_cases h1:1<=s.names.length
 rotate_left
 ·have hf:=hno fun h=>h1 h.n1
  have z1:((s.names.length:Int) < 1)=True:=eq_true om
  (have F:=ai @z1 @hf;refine gG ?_;exact gT)
 have z1:((s.names.length:Int) < 1)=False:=eq_false om
 by_cases h8:s.names.length<=8
 rotate_left
 ·have hf:=hno fun h=>h8 h.n8
  have z2:((8:Int) < (s.names.length:Int))=True:=eq_true om
  (have F:=ai @z1 (ai @z2 @hf);refine gG ?_;exact gT)
 have z2:((8:Int) < (s.names.length:Int))=False:=eq_false om
 by_cases h16:s.subs.length<=16
 rotate_left
 ·have hf:=hno fun h=>h16 h.m16
  have z3:((16:Int) < (s.subs.length:Int))=True:=eq_true om
  (have F:=ai @z1 (ai @z2 (ai @z3 @hf));refine gG ?_;exact gT)
 have z3:((16:Int) < (s.subs.length:Int))=False:=eq_false om
 (have F:=ai @z1 (ai @z2 @z3);have NN:Zag 4:=trivial;refine gGn ?_;clear F NN)
 refine gB ?_
 refine gMk fun b=>?_
 (have F:=@e0P;refine gR ?_;clear F)
 (have F:=@e0P;refine gG ?_;clear F)
 (have F:=@ZGe;refine gL (ι:=Nat) [2,6,31,32,42] [27] (fun i=>[(31,A.d (.one (.lit (.int .i64 i))))]) (fun i=>[(27,mapB b (Zdr (s.names.take i)))]) (fun i=>i<=s.names.length∧∀ j,j < i->Zjd s.names j) (fun i=>s.names.length - i) (0) (⟨Tai _,fun j h=>absurd h om⟩) (fun i hi=>?_);clear F)
 obtain ⟨hil,hall⟩:=hi
 by_cases hlt:i < s.names.length
 ·have q1:(i:Int) < (s.names.length:Int):=by omega
  obtain ⟨x,hx⟩:∃ x,s.names[i]?=some x:=⟨_,Taa hlt⟩
  have hw:=Zap (k:=i) om
  have hfs:=ZlT (s.names.take i) x
  have hbad:¬ (Zbm x=true∧Zbl (s.names.take i) x=false)->ZbZ s=false:=fun h=>hno fun hs=>h (hs.names i hlt x hx)
  have cN:=ZgE (hok.1 x (Tab hx))
  (have F:=ai @q1 (ai @hx @ZgG);have NN:Zag 8:=trivial;refine gGn ?_;clear F NN)
  refine gB ?_
  (have F:=@e0P;refine gP 2 ?_;clear F)
  cases hh:Zbl (s.names.take i) x with
  | true =>
   rw [hh] at hfs hbad
   have hf:=hbad fun h=>by cases h.2
   refine (have F:=e0P;gLk 27 Zgm ZdK ZjZ (v:=.bool true) (by rw [hfs];rfl) ?_)
   (have F:=@e0P;refine gR ?_;clear F)
   (have F:=@hf;refine gG ?_;exact gT)
  | false =>
  rw [hh] at hfs hbad
  refine (have F:=e0P;gLk 27 Zgm ZdK ZjZ (v:=.bool false) (by rw [hfs];rfl) ?_)
  (have F:=@e0P;refine gC (cN) ?_;clear F)
  cases hn:Zbm x with
  | false =>
   have hf:=hbad fun h=>by rw [hn] at h;cases h.1
   (have F:=@e0P;refine gR ?_;clear F)
   (have F:=@hf;refine gG ?_;exact gT)
  | true =>
  have hq:i+1<=s.names.length∧∀ j,j < i+1->Zjd s.names j:=⟨hlt,fun j hj=>by
   by_cases e:j=i
   ·subst e
    intro y hy
    rw [hx] at hy
    injection hy with hy
    subst hy
    exact ⟨hn,hh⟩
   ·exact hall j om⟩
  have hsn:=ZvY hx
  (have F:=@e0P;refine gR ?_;clear F)
  (have F:=@e0P;have NN:Zag 10:=trivial;refine gGn ?_;clear F NN)
  refine gB ?_
  (have F:=@e0P;refine gP 2 ?_;clear F)
  refine (have F:=e0P;gUp 27 Zgm ZdK (by rw [hfs];rfl) ?_)
  rw [hsn]
  (have F:=@e0P;refine gR ?_;clear F)
  (have F:=@hw;refine gG ?_;exact ⟨i+1,hq,gw,gw,by omega⟩)
 obtain rfl:i=s.names.length:=by omega
 have q1:¬ ((s.names.length:Int) < (s.names.length:Int)):=by omega
 (have F:=@q1;refine gG ?_;clear F)
 (have F:=@e0P;refine gL (ι:=Nat) [2,8,49,50,79] [] (fun k=>[(49,A.d (.one (.lit (.int .i64 k))))]) (fun k=>[]) (fun k=>k<=s.subs.length∧∀ (j:Nat) p,j < k->s.subs[j]?=some p->Zfu s.names.length p) (fun k=>s.subs.length - k) (0) (⟨Tai _,fun j p h=>absurd h om⟩) (fun k hk=>?_);clear F)
 obtain ⟨hkl,hsub⟩:=hk
 by_cases hlk:k < s.subs.length
 ·have q2:(k:Int) < (s.subs.length:Int):=by omega
  obtain ⟨p,hp⟩:∃ x,s.subs[k]?=some x:=⟨_,Taa hlk⟩
  have hw:=Zap (k:=k) om
  have hbad:¬ Zfu s.names.length p->ZbZ s=false:=fun h=>hno fun hs=>h (hs.subs p (Tab hp))
  by_cases c1:p.1 < 0
  ·have hf:=hbad fun h=>by have:=h.1;omega
   (have F:=ai @q2 (ai @hp (ai @Zce (ai @c1 @hf)));refine gG ?_;exact gT)
  by_cases c2:(s.names.length:Int)<=p.1
  ·have hf:=hbad fun h=>by have:=h.2.1;omega
   (have F:=ai @q2 (ai @hp (ai @Zce (ai @c1 (ai @c2 @hf))));refine gG ?_;exact gT)
  by_cases c3:p.2 < 0
  ·have hf:=hbad fun h=>by have:=h.2.2.1;omega
   (have F:=ai @q2 (ai @hp (ai @Zce (ai @c1 (ai @c2 (ai @c3 @hf)))));refine gG ?_;exact gT)
  by_cases c4:(s.names.length:Int)<=p.2
  ·have hf:=hbad fun h=>by have:=h.2.2.2.1;omega
   (have F:=ai @q2 (ai @hp (ai @Zce (ai @c1 (ai @c2 (ai @c3 (ai @c4 @hf))))));refine gG ?_;exact gT)
  by_cases c5:p.1=p.2
  ·have hf:=hbad fun h=>h.2.2.2.2 c5
   have c5:(p.1=p.2)=True:=eq_true c5
   (have F:=ai @q2 (ai @hp (ai @Zce (ai @c1 (ai @c2 (ai @c3 (ai @c4 (ai @c5 @hf)))))));refine gG ?_;exact gT)
  have hq:k+1<=s.subs.length∧∀ (j:Nat) p,j < k+1->s.subs[j]?=some p->Zfu s.names.length p:=⟨hlk,fun j p' hj hp'=>by
   by_cases e:j=k
   ·subst e
    rw [hp] at hp'
    injection hp' with hp'
    subst hp'
    exact ⟨by omega,by omega,by omega,by omega,c5⟩
   ·exact hsub j p' om hp'⟩
  (have F:=ai @q2 (ai @hp (ai @Zce (ai @c1 (ai @c2 (ai @c3 (ai @c4 (ai @c5 @hw)))))));refine gG ?_;exact ⟨k+1,hq,gw,gw,by omega⟩)
 obtain rfl:k=s.subs.length:=by omega
 have q2:¬ ((s.subs.length:Int) < (s.subs.length:Int)):=by omega
 have hsubs:∀ p∈s.subs,Zfu s.names.length p:=fun p hp=>by obtain ⟨j,hj⟩:=Tbk hp;exact hsub j p (Tac.1 hj).1 hj
 have hSI:=SortsOk.subsIn hsubs
 have hU:=ZdT hSI
 have hyes:(∀ i k,i < s.names.length->k < s.names.length->Zc3 (up s) i k)->ZbZ s=true:=fun h=>Zd6 ⟨h1,h8,h16,fun i hi=>hall i hi,hsubs,h⟩
 have hno2:∀ i k,i < s.names.length->k < s.names.length->¬ Zc3 (up s) i k->ZbZ s=false:=fun i k h1 h2 h3=>hno fun h=>h3 (h.pairs i k h1 h2)
 have lU:=ZaF (l:=up s)
 rw [hU.1] at lU
 have rU:=Zay (l:=up s)
 (have F:=@q2;refine gG ?_;clear F)
 refine gB ?_
 (have F:=@e0P;refine gC (cU h1 h8 h16 hSI) ?_;clear F)
 (have F:=@e0P;refine gR ?_;clear F)
 generalize up s=u at hU hyes hno2 lU rU ⊢
 have hpw:∀ i,i < s.names.length->u[i]?=some (u.getD i 0)∧u.getD i 0 < 4611686018427387904:=fun i hi=>by
  obtain ⟨g1,g2⟩:=hU.get hi
  exact ⟨g1,Nat.lt_trans g2 (ZgC om)⟩
 (have F:=@lU;refine gG ?_;clear F)
 (have F:=@e0P;refine gL (ι:=Nat) [2,10,11,85,86,89,90,91,115] [] (fun i=>[(85,A.d (.one (.lit (.int .i64 i))))]) (fun i=>[]) (fun i=>i<=s.names.length∧∀ i' k,i' < i->k < s.names.length->Zc3 u i' k) (fun i=>s.names.length - i) (0) (⟨Tai _,fun i' k h=>absurd h om⟩) (fun i hi=>?_);clear F)
 obtain ⟨hil,hpi⟩:=hi
 by_cases hlt:i < s.names.length
 rotate_left
 ·have q3:¬ ((i:Int) < (s.names.length:Int)):=by omega
  have ht:=hyes fun i' k h1 h2=>hpi i' k om h2
  (have F:=ai @q3 @ht;refine gG ?_;exact gT)
 have q3:(i:Int) < (s.names.length:Int):=by omega
 have hwi:=Zap (k:=i) om
 obtain ⟨gi,bi⟩:=hpw i hlt
 (have F:=ai @q3 @lU;refine gG ?_;clear F)
 (have F:=@e0P;refine gL (ι:=Nat) [2,11,90,91,115] [] (fun k=>[(90,A.d (.one (.lit (.int .i64 k))))]) (fun k=>[]) (fun k=>k<=s.names.length∧∀ k',k' < k->Zc3 u i k') (fun k=>s.names.length - k) (0) (⟨Tai _,fun k h=>absurd h om⟩) (fun k hk=>?_);clear F)
 obtain ⟨hkl,hpk⟩:=hk
 have hwk:=Zap (k:=k) om
 by_cases hlk:k < s.names.length
 rotate_left
 ·have q4:¬ ((k:Int) < (s.names.length:Int)):=by omega
  have hq:i+1<=s.names.length∧∀ i' k,i' < i+1->k < s.names.length->Zc3 u i' k:=⟨hlt,fun i' k' h h2=>by
   by_cases e:i'=i
   ·subst e;exact hpk k' om
   ·exact hpi i' k' om h2⟩
  (have F:=ai @q4 @hwi;refine gG ?_;exact ⟨i+1,hq,gw,gw,by omega⟩)
 have q4:(k:Int) < (s.names.length:Int):=by omega
 obtain ⟨gk,bk⟩:=hpw k hlk
 have nx:Zc3 u i k->k+1<=s.names.length∧∀ k',k' < k+1->Zc3 u i k':=fun h=>⟨hlk,fun k' h2=>by
  by_cases e:k'=k
  ·subst e;exact h
  ·exact hpk k' om⟩
 have si:=Zga (k:=i) om
 have sk:=Zga (k:=k) om
 have a1:=ZjY (x:=u.getD i 0) (k:=k) bi om
 have a2:=ZjY (x:=u.getD k 0) (k:=i) bk om
 have r1:=ZaH gi
 have r2:=ZaH gk
 by_cases hik:i=k
 ·have z4:((i:Int)=(k:Int))=True:=eq_true om
  have hq:=nx fun h=>h.1 hik
  (have F:=ai @q4 (ai @z4 @hwk);refine gG ?_;exact ⟨k+1,hq,gw,gw,by omega⟩)
 have z4:((i:Int)=(k:Int))=False:=eq_false om
 cases b1:tbit (u.getD i 0) k with
 | false =>
  rw [b1] at a1
  have hq:=nx fun h=>by have:=h.2.1;rw [show (u.getD i 0).testBit k=false from b1] at this;cases this
  (have F:=ai @q4 (ai @z4 (ai @sk (ai @a1 (ai @r1 (ai @rU (ai @Zas @hwk))))));refine gG ?_;exact ⟨k+1,hq,gw,gw,by omega⟩)
 | true =>
 rw [b1] at a1
 cases b2:tbit (u.getD k 0) i with
 | false =>
  rw [b2] at a2
  have hq:=nx fun h=>by have:=h.2.2;rw [show (u.getD k 0).testBit i=false from b2] at this;cases this
  (have F:=ai @q4 (ai @z4 (ai @sk (ai @si (ai @a1 (ai @a2 (ai @r1 (ai @r2 (ai @rU (ai @Zas @hwk)))))))));refine gG ?_;exact ⟨k+1,hq,gw,gw,by omega⟩)
 | true =>
  rw [b2] at a2
  have hf:=hno2 i k hlt hlk fun h=>h ⟨hik,b1,b2⟩
  (have F:=ai @q4 (ai @z4 (ai @sk (ai @si (ai @a1 (ai @a2 (ai @r1 (ai @r2 (ai @rU (ai @Zas @hf)))))))));refine gG ?_;exact gT)
end
theorem ZdE (x lo hi:Int):Con e0 210 [.one (.lit (.int .i64 x)),.one (.lit (.int .i64 lo)),.one (.lit (.int .i64 hi))] [.one (.lit (.bool (decide (lo<=x∧x<=hi))))]:=by
 refine gI 71 Tryz.func210 ?_
 by_cases h1:lo<=x
 ·by_cases h2:x<=hi
  ·(have F:=ai @h1 @h2;refine gG ?_;exact gT)
  ·(have F:=ai @h1 @h2;refine gG ?_;exact gT)
 ·(have F:=@h1;refine gG ?_;exact gT)
theorem Zz9 {l:List ByteArray} (s:ByteArray) (hl:l.length<=1048576):Con e0 217 [.one (.sl (l.map ZcH)),.one (.lit (.string s))] [.one (.lit (.bool (Zbl l s)))]:=by
 have hr:=Zi8 l
 refine gI 131635 Tryz.func217 ?_
 (have F:=@e0P;refine gG ?_;clear F)
 (have F:=@e0P;refine gL (ι:=Nat) [4,5,9,17] [] (fun i=>[(5,A.d (.one (.lit (.int .i64 i))))]) (fun i=>[]) (fun i=>i<=l.length∧Zbl l s=Zbl (l.drop i) s) (fun i=>l.length - i) (0) (⟨Tai _,rfl⟩) (fun i hi=>?_);clear F)
 obtain ⟨hil,he⟩:=hi
 rw [he]
 by_cases hlt:i < l.length
 rotate_left
 ·have q1:¬ ((i:Int) < (l.length:Int)):=by omega
  have ht:Zbl (l.drop i) s=false:=by rw [List.drop_eq_nil_of_le om];rfl
  (have F:=ai @q1 @ht;refine gG ?_;exact gT)
 have q1:(i:Int) < (l.length:Int):=by omega
 obtain ⟨x,hx⟩:∃ x,l[i]?=some x:=⟨_,Taa hlt⟩
 have hw:=Zap (k:=i) om
 have hst:=ZrW (s:=s) hx
 cases hb:(x.toList==s.toList) with
 | true =>
  have ht:Zbl (l.drop i) s=true:=by rw [hst,hb];rfl
  (have F:=ai @q1 (ai @hr (ai @hx (ai @ZgG (ai @hb @ht))));refine gG ?_;exact gT)
 | false =>
  have hq:Zbl (l.drop i) s=Zbl (l.drop (i+1)) s:=by rw [hst,hb,Bool.false_or]
  (have F:=ai @q1 (ai @hr (ai @hx (ai @ZgG (ai @hb @hw))));refine gG ?_;exact ⟨i+1,⟨hlt,hq⟩,gw,gw,by omega⟩)
section
variable {s:Srt}
theorem ZiF (hok:ZlJ s):Con e0 149 [.agg (Za6 s)] [.one (.lit (.bool (ZbZ s)))]:=by
 have hno:¬ SortsOk s->ZbZ s=false:=ZfT
 have cU:=fun h2 h3 h4=>Zfh (s:=s) h2 h3 h4
 have hrs:=Zi8 s.names
 rw [Za6] at cU ⊢
 refine gI 21267982750773439247570160629959360767 Tryz.func149 ?_
 by_cases h1:1<=s.names.length
 rotate_left
 ·have hf:=hno fun h=>h1 h.n1
  have z1:((s.names.length:Int) < 1)=True:=eq_true om
  (have F:=ai @z1 @hf;refine gG ?_;exact gT)
 have z1:((s.names.length:Int) < 1)=False:=eq_false om
 by_cases h8:s.names.length<=8
 rotate_left
 ·have hf:=hno fun h=>h8 h.n8
  have z2:((8:Int) < (s.names.length:Int))=True:=eq_true om
  (have F:=ai @z1 (ai @z2 @hf);refine gG ?_;exact gT)
 have z2:((8:Int) < (s.names.length:Int))=False:=eq_false om
 by_cases h16:s.subs.length<=16
 rotate_left
 ·have hf:=hno fun h=>h16 h.m16
  have z3:((16:Int) < (s.subs.length:Int))=True:=eq_true om
  (have F:=ai @z1 (ai @z2 (ai @z3 @hf));refine gG ?_;exact gT)
 have z3:((16:Int) < (s.subs.length:Int))=False:=eq_false om
 have hw1n:IntKind.i64.wrap ((s.names.length:Int) - 1)=(s.names.length:Int) - 1:=IntWalk.i64_in _ om
 (have F:=ai @z1 (ai @z2 @z3);refine gG ?_;clear F)
 (have F:=@e0P;refine gL (ι:=Nat) [2,3,28,49] [] (fun i=>[(3,A.d (.one (.lit (.int .i64 i))))]) (fun i=>[]) (fun i=>i<=s.names.length∧∀ j,j < i->Zjd s.names j) (fun i=>s.names.length - i) (0) (⟨Tai _,fun j h=>absurd h om⟩) (fun i hi=>?_);clear F)
 obtain ⟨hil,hall⟩:=hi
 by_cases hlt:i < s.names.length
 ·have q1:(i:Int) < (s.names.length:Int):=by omega
  obtain ⟨x,hx⟩:∃ x,s.names[i]?=some x:=⟨_,Taa hlt⟩
  have hw:=Zap (k:=i) om
  have hbad:¬ (Zbm x=true∧Zbl (s.names.take i) x=false)->ZbZ s=false:=fun h=>hno fun hs=>h (hs.names i hlt x hx)
  have cN:=ZgF (hok.1 x (Tab hx))
  have cH:=Zz9 (l:=s.names.take i) x (by rw [Tav];omega)
  rw [List.map_take] at cH
  have z4:((i:Int)<=(s.names.length:Int))=True:=eq_true om
  (have F:=@q1;refine gG ?_;clear F)
  refine gB ?_
  (have F:=ai @hrs (ai @hx @ZgG);refine gC (cN) ?_;clear F)
  cases hn:Zbm x with
  | false =>
   have hf:=hbad fun h=>by rw [hn] at h;cases h.1
   (have F:=@e0P;refine gR ?_;clear F)
   (have F:=@hf;refine gG ?_;exact gT)
  | true =>
  (have F:=ai @hrs (ai @hx (ai @ZgG (ai @z4 @Zas)));refine gC (cH) ?_;clear F)
  cases hh:Zbl (s.names.take i) x with
  | true =>
   have hf:=hbad fun h=>by rw [hh] at h;cases h.2
   (have F:=@e0P;refine gR ?_;clear F)
   (have F:=@hf;refine gG ?_;exact gT)
  | false =>
  have hq:i+1<=s.names.length∧∀ j,j < i+1->Zjd s.names j:=⟨hlt,fun j hj=>by
   by_cases e:j=i
   ·subst e
    intro y hy
    rw [hx] at hy
    injection hy with hy
    subst hy
    exact ⟨hn,hh⟩
   ·exact hall j om⟩
  (have F:=@e0P;refine gR ?_;clear F)
  (have F:=@hw;refine gG ?_;exact ⟨i+1,hq,gw,gw,by omega⟩)
 obtain rfl:i=s.names.length:=by omega
 have q1:¬ ((s.names.length:Int) < (s.names.length:Int)):=by omega
 (have F:=@q1;refine gG ?_;clear F)
 (have F:=@e0P;refine gL (ι:=Nat) [2,4,54,97] [] (fun k=>[(4,A.d (.one (.lit (.int .i64 k))))]) (fun k=>[]) (fun k=>k<=s.subs.length∧∀ (j:Nat) p,j < k->s.subs[j]?=some p->Zfu s.names.length p) (fun k=>s.subs.length - k) (0) (⟨Tai _,fun j p h=>absurd h om⟩) (fun k hk=>?_);clear F)
 obtain ⟨hkl,hsub⟩:=hk
 by_cases hlk:k < s.subs.length
 ·have q2:(k:Int) < (s.subs.length:Int):=by omega
  obtain ⟨p,hp⟩:∃ x,s.subs[k]?=some x:=⟨_,Taa hlk⟩
  have hw:=Zap (k:=k) om
  have hbad:¬ Zfu s.names.length p->ZbZ s=false:=fun h=>hno fun hs=>h (hs.subs p (Tab hp))
  have hrb:=ZpX s.subs
  (have F:=@q2;refine gG ?_;clear F)
  refine gB ?_
  (have F:=ai @hrb (ai @hp (ai @Zce @hw1n));refine gC (ZdE p.1 0 ((s.names.length:Int) - 1)) ?_;clear F)
  by_cases c1:0<=p.1∧p.1<=(s.names.length:Int) - 1
  rotate_left
  ·have hf:=hbad fun h=>c1 ⟨h.1,by have:=h.2.1;omega⟩
   have y1:decide (0<=p.1∧p.1<=(s.names.length:Int) - 1)=false:=decide_eq_false c1
   (have F:=@y1;refine gR ?_;clear F)
   (have F:=@hf;refine gG ?_;exact gT)
  have y1:decide (0<=p.1∧p.1<=(s.names.length:Int) - 1)=true:=decide_eq_true c1
  (have F:=ai @hrb (ai @hp (ai @Zce (ai @hw1n @y1)));refine gC (ZdE p.2 0 ((s.names.length:Int) - 1)) ?_;clear F)
  by_cases c2:0<=p.2∧p.2<=(s.names.length:Int) - 1
  rotate_left
  ·have hf:=hbad fun h=>c2 ⟨h.2.2.1,by have:=h.2.2.2.1;omega⟩
   have y2:decide (0<=p.2∧p.2<=(s.names.length:Int) - 1)=false:=decide_eq_false c2
   (have F:=ai @y1 @y2;refine gR ?_;clear F)
   (have F:=@hf;refine gG ?_;exact gT)
  have y2:decide (0<=p.2∧p.2<=(s.names.length:Int) - 1)=true:=decide_eq_true c2
  by_cases c5:p.1=p.2
  ·have hf:=hbad fun h=>h.2.2.2.2 c5
   have y5:(p.1=p.2)=True:=eq_true c5
   (have F:=ai @y1 (ai @y2 (ai @hrb (ai @hp (ai @Zce @y5))));refine gR ?_;clear F)
   (have F:=@hf;refine gG ?_;exact gT)
  have y5:(p.1=p.2)=False:=eq_false c5
  have hq:k+1<=s.subs.length∧∀ (j:Nat) p,j < k+1->s.subs[j]?=some p->Zfu s.names.length p:=⟨hlk,fun j p' hj hp'=>by
   by_cases e:j=k
   ·subst e
    rw [hp] at hp'
    injection hp' with hp'
    subst hp'
    exact ⟨by omega,by omega,by omega,by omega,c5⟩
   ·exact hsub j p' om hp'⟩
  (have F:=ai @y1 (ai @y2 (ai @hrb (ai @hp (ai @Zce @y5))));refine gR ?_;clear F)
  (have F:=@hw;refine gG ?_;exact ⟨k+1,hq,gw,gw,by omega⟩)
 obtain rfl:k=s.subs.length:=by omega
 have q2:¬ ((s.subs.length:Int) < (s.subs.length:Int)):=by omega
 have hsubs:∀ p∈s.subs,Zfu s.names.length p:=fun p hp=>by obtain ⟨j,hj⟩:=Tbk hp;exact hsub j p (Tac.1 hj).1 hj
 have hSI:=SortsOk.subsIn hsubs
 have hU:=ZdT hSI
 have hyes:(∀ i k,i < s.names.length->k < i->Zc3 (up s) i k)->ZbZ s=true:=fun h=>Zd6 ⟨h1,h8,h16,fun i hi=>hall i hi,hsubs,fun i k hi hk hb=>by
  rcases Nat.lt_trichotomy i k with h2 | h2 | h2
  ·exact h k i hk h2 ⟨fun e=>hb.1 e.symm,hb.2.2,hb.2.1⟩
  ·exact hb.1 h2
  ·exact h i k hi h2 hb⟩
 have hno2:∀ i k,i < s.names.length->k < s.names.length->¬ Zc3 (up s) i k->ZbZ s=false:=fun i k h1 h2 h3=>hno fun h=>h3 (h.pairs i k h1 h2)
 have lU:=ZaF (l:=up s)
 rw [hU.1] at lU
 have rU:=Zay (l:=up s)
 (have F:=@q2;refine gG ?_;clear F)
 refine gB ?_
 (have F:=@e0P;refine gC (cU h8 h16 hSI) ?_;clear F)
 (have F:=@e0P;refine gR ?_;clear F)
 generalize up s=u at hU hyes hno2 lU rU ⊢
 have hpw:∀ i,i < s.names.length->u[i]?=some (u.getD i 0)∧u.getD i 0 < 4611686018427387904:=fun i hi=>by
  obtain ⟨g1,g2⟩:=hU.get hi
  exact ⟨g1,Nat.lt_trans g2 (ZgC om)⟩
 (have F:=@lU;refine gG ?_;clear F)
 (have F:=@e0P;refine gL (ι:=Nat) [2,6,7,103,108,124] [] (fun i=>[(6,A.d (.one (.lit (.int .i64 i))))]) (fun i=>[]) (fun i=>i<=s.names.length∧∀ i' k,i' < i->k < i'->Zc3 u i' k) (fun i=>s.names.length - i) (0) (⟨Tai _,fun i' k h=>absurd h om⟩) (fun i hi=>?_);clear F)
 obtain ⟨hil,hpi⟩:=hi
 by_cases hlt:i < s.names.length
 rotate_left
 ·have q3:¬ ((i:Int) < (s.names.length:Int)):=by omega
  have ht:=hyes fun i' k h1 h2=>hpi i' k om h2
  (have F:=ai @q3 (ai @lU @ht);refine gG ?_;exact gT)
 have q3:(i:Int) < (s.names.length:Int):=by omega
 have hwi:=Zap (k:=i) om
 obtain ⟨gi,bi⟩:=hpw i hlt
 (have F:=ai @q3 @lU;refine gG ?_;clear F)
 (have F:=@e0P;refine gL (ι:=Nat) [2,7,108,124] [] (fun k=>[(7,A.d (.one (.lit (.int .i64 k))))]) (fun k=>[]) (fun k=>k<=i∧∀ k',k' < k->Zc3 u i k') (fun k=>i - k) (0) (⟨Tai _,fun k h=>absurd h om⟩) (fun k hk=>?_);clear F)
 obtain ⟨hkl,hpk⟩:=hk
 have hwk:=Zap (k:=k) om
 by_cases hlk:k < i
 rotate_left
 ·have q4:((k:Int) < (i:Int))=False:=eq_false om
  have hq:i+1<=s.names.length∧∀ i' k,i' < i+1->k < i'->Zc3 u i' k:=⟨hlt,fun i' k' h h2=>by
   by_cases e:i'=i
   ·subst e;exact hpk k' om
   ·exact hpi i' k' om h2⟩
  (have F:=ai @q4 @hwi;refine gG ?_;exact ⟨i+1,hq,gw,gw,by omega⟩)
 have q4:((k:Int) < (i:Int))=True:=eq_true om
 obtain ⟨gk,bk⟩:=hpw k om
 have nx:Zc3 u i k->k+1<=i∧∀ k',k' < k+1->Zc3 u i k':=fun h=>⟨hlk,fun k' h2=>by
  by_cases e:k'=k
  ·subst e;exact h
  ·exact hpk k' om⟩
 have r1:=ZaH gi
 have r2:=ZaH gk
 (have F:=@q4;refine gG ?_;clear F)
 refine gB ?_
 (have F:=ai @rU @r1;refine gC (ZeN (a:=u.getD i 0) (k:=k) bi om) ?_;clear F)
 cases b1:tbit (u.getD i 0) k with
 | false =>
  have hq:=nx fun h=>by have:=h.2.1;rw [show (u.getD i 0).testBit k=false from b1] at this;cases this
  (have F:=@e0P;refine gR ?_;clear F)
  (have F:=@hwk;refine gG ?_;exact ⟨k+1,hq,gw,gw,by omega⟩)
 | true =>
 (have F:=ai @rU @r2;refine gC (ZeN (a:=u.getD k 0) (k:=i) bk om) ?_;clear F)
 cases b2:tbit (u.getD k 0) i with
 | false =>
  have hq:=nx fun h=>by have:=h.2.2;rw [show (u.getD k 0).testBit i=false from b2] at this;cases this
  (have F:=@e0P;refine gR ?_;clear F)
  (have F:=@hwk;refine gG ?_;exact ⟨k+1,hq,gw,gw,by omega⟩)
 | true =>
  have hf:=hno2 i k hlt om fun h=>h ⟨by omega,b1,b2⟩
  (have F:=@e0P;refine gR ?_;clear F)
  (have F:=@hf;refine gG ?_;exact gT)
end
def Zd7 (s:Srt):List C:=[.sl (nR (up s)),.sl (nR (down s)),.sl (nR (kinds s))]
theorem Zid:∀ s,Zd7 s=[.sl (nR (up s)),.sl (nR (down s)),.sl (nR (kinds s))]:=fun _=>rfl
section
variable {s:Srt}
theorem kdg (hs:SortsOk s) {k:Int} (h:0<=k∧k < s.names.length):(nR (kinds s))[k.toNat]?=some [.lit (.int .i64 (kd s k:Nat))]:=by
 have hk:=Zib (SortsOk.subsIn hs.subs)
 have hl:k.toNat < (kinds s).length:=by rw [hk.1];omega
 rw [ZaH (Taa hl),kd,List.getD_eq_getElem?_getD,Taa hl]
 rfl
theorem ZG8 (hs:SortsOk s):(nR (kinds s)).length=s.names.length:=by rw [ZaF,(Zib (SortsOk.subsIn hs.subs)).1]
theorem ZB0 (hs:SortsOk s) (k:Int):Con e0 174 [.agg (Zd7 s),.one (.lit (.int .i64 k))] [.one (.lit (.bool (decide (0<=k∧k < s.names.length))))]:=by
 have hl:(nR (up s)).length=s.names.length:=by rw [ZaF,(ZdT (SortsOk.subsIn hs.subs)).1]
 rw [Zd7]
 refine gI 23 Tryz.func174 ?_
 by_cases h0:0<=k
 ·by_cases h1:k < s.names.length
  ·(have F:=ai @h0 (ai @hl @h1);refine gG ?_;exact gT)
  ·(have F:=ai @h0 (ai @hl @h1);refine gG ?_;exact gT)
 ·(have F:=@h0;refine gG ?_;exact gT)
theorem ZAa {l:List Int} {p:Int->Prop} {j:Nat} {c:Int} (hc:l[j]?=some c) (h:∀ (i:Nat) (c:Int),i < j->l[i]?=some c->p c) (hp:p c):∀ (i:Nat) (c:Int),i < j+1->l[i]?=some c->p c:=fun i c' hi hc'=>by
 by_cases hij:i=j
 ·subst hij;rw [hc] at hc';injection hc' with hc';subst hc';exact hp
 ·exact h i c' om hc'
theorem ZlU {f d:Dcl} {i:Nat} {a:Int} (ha:d.args[i]?=some a) (hall:∀ (i':Nat) a,i' < i->d.args[i']?=some a->(0<=a∧a < s.names.length)∧∀ b,f.args[i']?=some b->kd s a=kd s b) (h1:0<=a∧a < s.names.length) (h2:∀ b,f.args[i]?=some b->kd s a=kd s b) :
  ∀ (i':Nat) a,i' < i+1->d.args[i']?=some a->(0<=a∧a < s.names.length)∧∀ b,f.args[i']?=some b->kd s a=kd s b:=fun i' a' h ha'=>by
 by_cases e:i'=i
 ·subst e
  rw [ha] at ha'
  injection ha' with ha'
  subst ha'
  exact ⟨h1,h2⟩
 ·exact hall i' a' om ha'
theorem ZnQ {f d:Dcl} (h1:d.args.length=f.args.length) (h2:0<=d.res∧d.res < s.names.length) (h3:kd s d.res=kd s f.res) (hall:∀ (i':Nat) a,i' < d.args.length->d.args[i']?=some a->(0<=a∧a < s.names.length)∧∀ b,f.args[i']?=some b->kd s a=kd s b):DeclOk s f d :=
 ⟨h1,h2,fun k hk=>by obtain ⟨i,hi⟩:=Tbk hk;exact (hall i k (Tac.1 hi).1 hi).1,h3,fun i a b ha hb=>(hall i a (Tac.1 ha).1 ha).2 b hb⟩
theorem ZlV {l:List Dcl} {P:Dcl->Prop} {j:Nat} {d:Dcl} (hd:l[j]?=some d) (hall:∀ (j':Nat) d,j' < j->l[j']?=some d->P d) (h:P d):∀ (j':Nat) d,j' < j+1->l[j']?=some d->P d:=fun j' d' hj hd'=>by
 by_cases e:j'=j
 ·subst e
  rw [hd] at hd'
  injection hd' with hd'
  subst hd'
  exact h
 ·exact hall j' d' om hd'
theorem ZoE (hs:SortsOk s) (o:Opr):Con e0 161 [.agg (Zd7 s),.agg (ZbK o)] [.one (.lit (.bool (Zcj s o)))]:=by
 have hno:¬ DeclsOk s o->Zcj s o=false:=ZiC
 have cH:=ZB0 hs
 have rK:=Zay (l:=kinds s)
 rw [Zd7] at cH ⊢
 rw [ZbK]
 refine gI 83076759175850041743779962279694015 Tryz.func161 ?_
 by_cases h1:1<=o.decls.length
 rotate_left
 ·have hf:=hno fun h=>h1 h.len1
  have z1:((o.decls.length:Int) < 1)=True:=eq_true om
  (have F:=ai @z1 @hf;refine gG ?_;exact gT)
 have z1:((o.decls.length:Int) < 1)=False:=eq_false om
 by_cases h4:o.decls.length<=4
 rotate_left
 ·have hf:=hno fun h=>h4 h.len4
  have z2:((4:Int) < (o.decls.length:Int))=True:=eq_true om
  (have F:=ai @z1 (ai @z2 @hf);refine gG ?_;exact gT)
 have z2:((4:Int) < (o.decls.length:Int))=False:=eq_false om
 obtain ⟨f,hf0⟩:∃ f,o.decls[0]?=some f:=⟨_,Taa om⟩
 have hfm:=Tab hf0
 by_cases h3:f.args.length<=3
 rotate_left
 ·have hf:=hno fun h=>h3 (h.ar f hf0)
  have z3:((3:Int) < (f.args.length:Int))=True:=eq_true om
  (have F:=ai @z1 (ai @z2 (ai @hf0 (ai @ZaR (ai @z3 @hf))));refine gG ?_;exact gT)
 have z3:((3:Int) < (f.args.length:Int))=False:=eq_false om
 (have F:=ai @z1 (ai @z2 (ai @hf0 (ai @ZaR @z3)));refine gG ?_;clear F)
 refine gB ?_
 (have F:=@e0P;refine gC (cH f.res) ?_;clear F)
 by_cases hr:0<=f.res∧f.res < (s.names.length:Int)
 rotate_left
 ·have hf:=hno fun h=>hr (h.all f hf0 f hfm).res
  have y1:decide (0<=f.res∧f.res < (s.names.length:Int))=false:=decide_eq_false hr
  (have F:=@y1;refine gR ?_;clear F)
  (have F:=@hf;refine gG ?_;exact gT)
 have y1:decide (0<=f.res∧f.res < (s.names.length:Int))=true:=decide_eq_true hr
 have gr:=kdg hs hr
 have ir:=hr.1
 (have F:=@y1;refine gR ?_;clear F)
 (have F:=@e0P;refine gG ?_;clear F)
 (have F:=@e0P;refine gL (ι:=Nat) [4,7,43,44,50] [] (fun i=>[(43,A.d (.one (.lit (.int .i64 i))))]) (fun i=>[]) (fun i=>i<=f.args.length∧∀ (i':Nat) k,i' < i->f.args[i']?=some k->0<=k∧k < s.names.length) (fun i=>f.args.length - i) (0) (⟨Tai _,fun i' k h=>absurd h om⟩) (fun i hi=>?_);clear F)
 obtain ⟨hil,hfa⟩:=hi
 by_cases hlt:i < f.args.length
 ·have q1:(i:Int) < (f.args.length:Int):=by omega
  obtain ⟨k,hk⟩:∃ k,f.args[i]?=some k:=⟨_,Taa hlt⟩
  have hw:=Zap (k:=i) om
  (have F:=ai @q1 (ai @hk @Za4);refine gG ?_;clear F)
  refine gB ?_
  (have F:=@e0P;refine gC (cH k) ?_;clear F)
  by_cases hkr:0<=k∧k < (s.names.length:Int)
  rotate_left
  ·have hf:=hno fun h=>hkr ((h.all f hf0 f hfm).args k (Tab hk))
   have y2:decide (0<=k∧k < (s.names.length:Int))=false:=decide_eq_false hkr
   (have F:=@y2;refine gR ?_;clear F)
   (have F:=@hf;refine gG ?_;exact gT)
  have y2:decide (0<=k∧k < (s.names.length:Int))=true:=decide_eq_true hkr
  have hq:i+1<=f.args.length∧_:=⟨hlt,ZAa hk hfa hkr⟩
  (have F:=@y2;refine gR ?_;clear F)
  (have F:=@hw;refine gG ?_;exact ⟨i+1,hq,gw,gw,by omega⟩)
 obtain rfl:i=f.args.length:=by omega
 have q1:¬ ((f.args.length:Int) < (f.args.length:Int)):=by omega
 (have F:=@q1;refine gG ?_;clear F)
 (have F:=@e0P;refine gL (ι:=Nat) [4,9,10,11,55,56,87,89,90,91,92,116] [] (fun j=>[(55,A.d (.one (.lit (.int .i64 j))))]) (fun j=>[]) (fun j=>j<=o.decls.length∧∀ (j':Nat) d,j' < j->o.decls[j']?=some d->DeclOk s f d) (fun j=>o.decls.length - j) (0) (⟨Tai _,fun j' d h=>absurd h om⟩) (fun j hj=>?_);clear F)
 obtain ⟨hjl,hdo⟩:=hj
 by_cases hlj:j < o.decls.length
 rotate_left
 ·have q2:¬ ((j:Int) < (o.decls.length:Int)):=by omega
  have ht:=ZeY (s:=s) (o:=o) ⟨h1,h4,fun f' h=>by rw [hf0] at h;injection h with h;subst h;exact h3,fun f' h d hd=>by
   rw [hf0] at h;injection h with h;subst h
   obtain ⟨j',hj'⟩:=Tbk hd
   exact hdo j' d (by have:=(Tac.1 hj').1;omega) hj'⟩
  (have F:=ai @q2 @ht;refine gG ?_;exact gT)
 have q2:(j:Int) < (o.decls.length:Int):=by omega
 obtain ⟨d,hd⟩:∃ d,o.decls[j]?=some d:=⟨_,Taa hlj⟩
 have hdm:=Tab hd
 have hwj:=Zap (k:=j) om
 have hbad:¬ DeclOk s f d->Zcj s o=false:=fun h=>hno fun hD=>h (hD.all f hf0 d hdm)
 by_cases hdl:d.args.length=f.args.length
 rotate_left
 ·have hf:=hbad fun h=>hdl h.len
  have y3:((d.args.length:Int)=(f.args.length:Int))=False:=eq_false om
  (have F:=ai @q2 (ai @hd (ai @ZaR (ai @y3 @hf)));refine gG ?_;exact gT)
 have y3:((d.args.length:Int)=(f.args.length:Int))=True:=eq_true om
 (have F:=ai @q2 (ai @hd @ZaR);refine gG ?_;clear F)
 refine gB ?_
 (have F:=@y3;refine gC (cH d.res) ?_;clear F)
 by_cases hdr:0<=d.res∧d.res < (s.names.length:Int)
 rotate_left
 ·have hf:=hbad fun h=>hdr h.res
  have y4:decide (0<=d.res∧d.res < (s.names.length:Int))=false:=decide_eq_false hdr
  (have F:=ai @y3 @y4;refine gR ?_;clear F)
  (have F:=@hf;refine gG ?_;exact gT)
 have y4:decide (0<=d.res∧d.res < (s.names.length:Int))=true:=decide_eq_true hdr
 have gd:=kdg hs hdr
 have id':=hdr.1
 have jd:=hdr.2
 by_cases hkr:kd s d.res=kd s f.res
 rotate_left
 ·have hf:=hbad fun h=>hkr h.kres
  have y5:((kd s d.res:Int)=(kd s f.res:Int))=False:=eq_false om
  (have F:=ai @y3 (ai @y4 (ai @gr (ai @gd (ai @ir (ai @id' (ai @jd (ai @rK @y5)))))));refine gR ?_;clear F)
  (have F:=@hf;refine gG ?_;exact gT)
 have y5:((kd s d.res:Int)=(kd s f.res:Int))=True:=eq_true om
 (have F:=ai @y3 (ai @y4 (ai @gr (ai @gd (ai @ir (ai @id' (ai @jd (ai @rK @y5)))))));refine gR ?_;clear F)
 (have F:=@e0P;refine gG ?_;clear F)
 (have F:=@e0P;refine gL (ι:=Nat) [4,10,11,91,92,116] [] (fun i=>[(91,A.d (.one (.lit (.int .i64 i))))]) (fun i=>[]) (fun i=>i<=d.args.length∧∀ (i':Nat) a,i' < i->d.args[i']?=some a->(0<=a∧a < s.names.length)∧∀ b,f.args[i']?=some b->kd s a=kd s b) (fun i=>d.args.length - i) (0) (⟨Tai _,fun i' a h=>absurd h om⟩) (fun i hi=>?_);clear F)
 obtain ⟨hil2,hka⟩:=hi
 by_cases hlt:i < d.args.length
 rotate_left
 ·obtain rfl:i=d.args.length:=by omega
  have q3:¬ ((d.args.length:Int) < (d.args.length:Int)):=by omega
  have hq:j+1<=o.decls.length∧_:=⟨hlj,ZlV hd hdo (ZnQ hdl hdr hkr hka)⟩
  (have F:=ai @q3 @hwj;refine gG ?_;exact ⟨j+1,hq,gw,gw,by omega⟩)
 have q3:(i:Int) < (d.args.length:Int):=by omega
 obtain ⟨a,ha⟩:∃ k,d.args[i]?=some k:=⟨_,Taa hlt⟩
 obtain ⟨b,hb⟩:∃ k,f.args[i]?=some k:=⟨_,Taa om⟩
 have hw:=Zap (k:=i) om
 have hbr:=hfa i b om hb
 have gb:=kdg hs hbr
 have ib:=hbr.1
 (have F:=ai @q3 (ai @ha @Za4);refine gG ?_;clear F)
 refine gB ?_
 (have F:=@e0P;refine gC (cH a) ?_;clear F)
 by_cases har:0<=a∧a < (s.names.length:Int)
 rotate_left
 ·have hf:=hbad fun h=>har (h.args a (Tab ha))
  have y6:decide (0<=a∧a < (s.names.length:Int))=false:=decide_eq_false har
  (have F:=@y6;refine gR ?_;clear F)
  (have F:=@hf;refine gG ?_;exact gT)
 have y6:decide (0<=a∧a < (s.names.length:Int))=true:=decide_eq_true har
 have ga:=kdg hs har
 have ia:=har.1
 have ja:=har.2
 by_cases hkk:kd s a=kd s b
 rotate_left
 ·have hf:=hbad fun h=>hkk (h.kargs i a b ha hb)
  have y7:((kd s a:Int)=(kd s b:Int))=False:=eq_false om
  (have F:=ai @y6 (ai @ga (ai @gb (ai @ia (ai @ja (ai @ib (ai @hb (ai @Za4 (ai @rK @y7))))))));refine gR ?_;clear F)
  (have F:=@hf;refine gG ?_;exact gT)
 have y7:((kd s a:Int)=(kd s b:Int))=True:=eq_true om
 have hq:i+1<=d.args.length∧_:=⟨hlt,ZlU (f:=f) ha hka har fun b' hb'=>by rw [hb] at hb';injection hb' with hb';subst hb';exact hkk⟩
 (have F:=ai @y6 (ai @ga (ai @gb (ai @ia (ai @ja (ai @ib (ai @hb (ai @Za4 (ai @rK @y7))))))));refine gR ?_;clear F)
 (have F:=@hw;refine gG ?_;exact ⟨i+1,hq,gw,gw,by omega⟩)
theorem Zr0 {g:Sgn} (hs:SortsOk g.sorts) (o:Opr):Con e0 151 [.agg (Zav g),.agg (ZbK o)] [.one (.lit (.bool (Zcj g.sorts o)))]:=by
 have hno:¬ DeclsOk g.sorts o->Zcj g.sorts o=false:=ZiC
 have cK:=Zet hs
 rw [show (ZbU (kinds g.sorts)).map ZbQ=nR (kinds g.sorts) from rfl] at cK
 have rK:=Zay (l:=kinds g.sorts)
 have lK:=ZG8 hs
 have n1:=hs.n1
 have n8:=hs.n8
 have hw1n:IntKind.i64.wrap ((g.sorts.names.length:Int) - 1)=(g.sorts.names.length:Int) - 1:=IntWalk.i64_in _ om
 rw [Za6] at cK
 rw [Zav,ZbK]
 refine gI 1298708039934125393111688421573631 Tryz.func151 ?_
 by_cases h1:1<=o.decls.length
 rotate_left
 ·have hf:=hno fun h=>h1 h.len1
  have z1:((o.decls.length:Int) < 1)=True:=eq_true om
  (have F:=ai @z1 @hf;refine gG ?_;exact gT)
 have z1:((o.decls.length:Int) < 1)=False:=eq_false om
 by_cases h4:o.decls.length<=4
 rotate_left
 ·have hf:=hno fun h=>h4 h.len4
  have z2:((4:Int) < (o.decls.length:Int))=True:=eq_true om
  (have F:=ai @z1 (ai @z2 @hf);refine gG ?_;exact gT)
 have z2:((4:Int) < (o.decls.length:Int))=False:=eq_false om
 obtain ⟨f,hf0⟩:∃ f,o.decls[0]?=some f:=⟨_,Taa om⟩
 have hfm:=Tab hf0
 by_cases h3:f.args.length<=3
 rotate_left
 ·have hf:=hno fun h=>h3 (h.ar f hf0)
  have z3:((3:Int) < (f.args.length:Int))=True:=eq_true om
  (have F:=ai @z1 (ai @z2 (ai @hf0 (ai @ZaR (ai @z3 @hf))));refine gG ?_;exact gT)
 have z3:((3:Int) < (f.args.length:Int))=False:=eq_false om
 (have F:=ai @z1 (ai @z2 (ai @hf0 (ai @ZaR @z3)));refine gG ?_;clear F)
 refine gB ?_
 (have F:=@e0P;refine gC (cK) ?_;clear F)
 (have F:=@e0P;refine gR ?_;clear F)
 (have F:=ai @hf0 @ZaR;refine gG ?_;clear F)
 (have F:=@e0P;refine gL (ι:=Nat) [4,7,8,9,40,63,68,99,110] [] (fun j=>[(7,A.d (.one (.lit (.int .i64 j))))]) (fun j=>[]) (fun j=>j<=o.decls.length∧∀ (j':Nat) d,j' < j->o.decls[j']?=some d->DeclOk g.sorts f d) (fun j=>o.decls.length - j) (0) (⟨Tai _,fun j' d h=>absurd h om⟩) (fun j hj=>?_);clear F)
 obtain ⟨hjl,hdo⟩:=hj
 by_cases hlj:j < o.decls.length
 rotate_left
 ·have q2:¬ ((j:Int) < (o.decls.length:Int)):=by omega
  have ht:=ZeY (s:=g.sorts) (o:=o) ⟨h1,h4,fun f' h=>by rw [hf0] at h;injection h with h;subst h;exact h3,fun f' h d hd=>by
   rw [hf0] at h;injection h with h;subst h
   obtain ⟨j',hj'⟩:=Tbk hd
   exact hdo j' d (by have:=(Tac.1 hj').1;omega) hj'⟩
  (have F:=ai @q2 @ht;refine gG ?_;exact gT)
 have q2:(j:Int) < (o.decls.length:Int):=by omega
 obtain ⟨d,hd⟩:∃ d,o.decls[j]?=some d:=⟨_,Taa hlj⟩
 have hdm:=Tab hd
 have hwj:=Zap (k:=j) om
 have hbad:¬ DeclOk g.sorts f d->Zcj g.sorts o=false:=fun h=>hno fun hD=>h (hD.all f hf0 d hdm)
 have hj0:d=f∨DeclOk g.sorts f f:=by
  rcases Nat.eq_zero_or_pos j with h | h
  ·subst h;rw [hf0] at hd;injection hd with hd;exact .inl hd.symm
  ·exact .inr (hdo 0 f h hf0)
 by_cases hdl:d.args.length=f.args.length
 rotate_left
 ·have hf:=hbad fun h=>hdl h.len
  have y3:((d.args.length:Int)=(f.args.length:Int))=False:=eq_false om
  (have F:=ai @q2 (ai @hd (ai @ZaR (ai @y3 @hf)));refine gG ?_;exact gT)
 have y3:((d.args.length:Int)=(f.args.length:Int))=True:=eq_true om
 (have F:=ai @q2 (ai @hd @ZaR);refine gG ?_;clear F)
 refine gB ?_
 (have F:=ai @y3 (ai @lK @hw1n);refine gC (ZdE d.res 0 ((g.sorts.names.length:Int) - 1)) ?_;clear F)
 by_cases hdr:0<=d.res∧d.res < (g.sorts.names.length:Int)
 rotate_left
 ·have hf:=hbad fun h=>hdr h.res
  have y4:decide (0<=d.res∧d.res<=(g.sorts.names.length:Int) - 1)=false:=decide_eq_false om
  (have F:=ai @y3 @y4;refine gR ?_;clear F)
  (have F:=@hf;refine gG ?_;exact gT)
 have y4:decide (0<=d.res∧d.res<=(g.sorts.names.length:Int) - 1)=true:=decide_eq_true om
 have gd:=kdg hs hdr
 have id':=hdr.1
 have hfr:0<=f.res∧f.res < (g.sorts.names.length:Int):=by
  rcases hj0 with h | h
  ·rw [<- h];exact hdr
  ·exact h.res
 have gr:=kdg hs hfr
 have ir:=hfr.1
 (have F:=ai @y3 @y4;refine gR ?_;clear F)
 (have F:=@e0P;refine gG ?_;clear F)
 (have F:=@e0P;refine gL (ι:=Nat) [4,9,68,99] [] (fun i=>[(9,A.d (.one (.lit (.int .i64 i))))]) (fun i=>[]) (fun i=>i<=d.args.length∧∀ (i':Nat) a,i' < i->d.args[i']?=some a->(0<=a∧a < g.sorts.names.length)∧∀ b,f.args[i']?=some b->kd g.sorts a=kd g.sorts b) (fun i=>d.args.length - i) (0) (⟨Tai _,fun i' a h=>absurd h om⟩) (fun i hi=>?_);clear F)
 obtain ⟨hil2,hka⟩:=hi
 by_cases hlt:i < d.args.length
 rotate_left
 ·obtain rfl:i=d.args.length:=by omega
  have q3:¬ ((d.args.length:Int) < (d.args.length:Int)):=by omega
  by_cases hkr:kd g.sorts d.res=kd g.sorts f.res
  rotate_left
  ·have hf:=hbad fun h=>hkr h.kres
   have y5:((kd g.sorts d.res:Int)=(kd g.sorts f.res:Int))=False:=eq_false om
   (have F:=ai @q3 (ai @gr (ai @gd (ai @ir (ai @id' (ai @rK (ai @y5 @hf))))));refine gG ?_;exact gT)
  have y5:((kd g.sorts d.res:Int)=(kd g.sorts f.res:Int))=True:=eq_true om
  have hq:j+1<=o.decls.length∧_:=⟨hlj,ZlV hd hdo (ZnQ hdl hdr hkr hka)⟩
  (have F:=ai @q3 (ai @gr (ai @gd (ai @ir (ai @id' (ai @rK (ai @y5 @hwj))))));refine gG ?_;exact ⟨j+1,hq,gw,gw,by omega⟩)
 have q3:(i:Int) < (d.args.length:Int):=by omega
 obtain ⟨a,ha⟩:∃ k,d.args[i]?=some k:=⟨_,Taa hlt⟩
 obtain ⟨b,hb⟩:∃ k,f.args[i]?=some k:=⟨_,Taa om⟩
 have hw:=Zap (k:=i) om
 (have F:=@q3;refine gG ?_;clear F)
 refine gB ?_
 (have F:=ai @ha (ai @Za4 (ai @lK @hw1n));refine gC (ZdE a 0 ((g.sorts.names.length:Int) - 1)) ?_;clear F)
 by_cases har:0<=a∧a < (g.sorts.names.length:Int)
 rotate_left
 ·have hf:=hbad fun h=>har (h.args a (Tab ha))
  have y6:decide (0<=a∧a<=(g.sorts.names.length:Int) - 1)=false:=decide_eq_false om
  (have F:=@y6;refine gR ?_;clear F)
  (have F:=@hf;refine gG ?_;exact gT)
 have y6:decide (0<=a∧a<=(g.sorts.names.length:Int) - 1)=true:=decide_eq_true om
 have y8:(a<=(g.sorts.names.length:Int) - 1)=True:=eq_true om
 have ga:=kdg hs har
 have ia:=har.1
 have hbr:0<=b∧b < (g.sorts.names.length:Int):=by
  rcases hj0 with h | h
  ·rw [<- h,ha] at hb;injection hb with hb;rw [<- hb];exact har
  ·exact h.args b (Tab hb)
 have gb:=kdg hs hbr
 have ib:=hbr.1
 by_cases hkk:kd g.sorts a=kd g.sorts b
 rotate_left
 ·have hf:=hbad fun h=>hkk (h.kargs i a b ha hb)
  have y7:((kd g.sorts a:Int)=(kd g.sorts b:Int))=False:=eq_false om
  (have F:=ai @y6 (ai @y8 (ai @ga (ai @gb (ai @ia (ai @ib (ai @ha (ai @hb (ai @Za4 (ai @rK @y7)))))))));refine gR ?_;clear F)
  (have F:=@hf;refine gG ?_;exact gT)
 have y7:((kd g.sorts a:Int)=(kd g.sorts b:Int))=True:=eq_true om
 have hq:i+1<=d.args.length∧_:=⟨hlt,ZlU (f:=f) ha hka har fun b' hb'=>by rw [hb] at hb';injection hb' with hb';subst hb';exact hkk⟩
 (have F:=ai @y6 (ai @y8 (ai @ga (ai @gb (ai @ia (ai @ib (ai @ha (ai @hb (ai @Za4 (ai @rK @y7)))))))));refine gR ?_;clear F)
 (have F:=@hw;refine gG ?_;exact ⟨i+1,hq,gw,gw,by omega⟩)
end
theorem Zfw {o:Opr} {d:Dcl} (hd:o.decls[0]?=some d):Con e0 181 [.agg (ZbK o)] [.one (.lit (.int .i64 d.args.length))]:=by
 refine gI 7 Tryz.func181 ?_
 (have F:=ai @Zaj (ai @hd @ZaR);refine gG ?_;exact gT)
section
variable {g:Sgn} {o:Opr}
theorem Zj0 {d:Dcl} (hd:o.decls[0]?=some d) (h1:0<=o.unit) (h2:o.unit<=g.ops.length) (h3:d.args.length=2) {a b:Int} (ha:d.args[0]?=some a) (hb:d.args[1]?=some b) (hk:kd g.sorts a=kd g.sorts b) (hr:¬ ((o.assoc=true∨o.unit≠0)∧kd g.sorts a≠kd g.sorts d.res))
  (hu:o.unit≠0->∀ (p:Opr) (u:Dcl),g.ops[o.unit.toNat - 1]?=some p->p.decls[0]?=some u->u.args.length=0∧kd g.sorts u.res=kd g.sorts d.res):AxOk g o :=
 ⟨h1,h2,fun _ d' hd'=>by
  rw [hd] at hd';injection hd' with hd';subst hd'
  refine ⟨h3,fun a' b' ha' hb'=>?_⟩
  rw [ha] at ha';injection ha' with ha';subst ha'
  rw [hb] at hb';injection hb' with hb';subst hb'
  exact ⟨hk,fun h=>Classical.byContradiction fun hn=>hr ⟨h,hn⟩,hu⟩⟩
theorem Zqa (h:o.assoc=false∧o.comm=false∧o.unit=0):AxOk g o:=⟨by rw [h.2.2];exact Int.le_refl _,by rw [h.2.2];omega,fun h2=>by
 rcases h2 with h2 | h2 | h2
 ·rw [h.1] at h2;cases h2
 ·rw [h.2.1] at h2;cases h2
 ·exact absurd h.2.2 h2⟩
theorem ZuH (h:¬ (o.assoc=false∧o.comm=false∧o.unit=0)):o.assoc=true∨o.comm=true∨o.unit≠0:=by
 by_cases h1:o.assoc=true
 ·exact .inl h1
 by_cases h2:o.comm=true
 ·exact .inr (.inl h2)
 exact .inr (.inr fun h3=>h ⟨by simpa using h1,by simpa using h2,h3⟩)
theorem ZmX (hs:SortsOk g.sorts) (hall:∀ p∈g.ops,DeclsOk g.sorts p) (ho:o∈g.ops) (hol:g.ops.length<=14):Con e0 162 [.agg (Zd7 g.sorts),.agg (Zav g),.agg (ZbK o)] [.one (.lit (.bool (axOk g o)))]:=by
 have hno:¬ AxOk g o->axOk g o=false:=ZlR
 have rK:=Zay (l:=kinds g.sorts)
 obtain ⟨d,hd,hdd⟩:=(hall o ho).first
 have gr:=kdg hs hdd.res
 have ir:=hdd.res.1
 rw [Zd7,Zav,ZbK]
 refine gI 87042659588714057177760255 Tryz.func162 ?_
 by_cases h1:0<=o.unit
 rotate_left
 ·have hf:=hno fun h=>h1 h.lo
  have z1:(o.unit < 0)=True:=eq_true om
  (have F:=ai @z1 @hf;refine gG ?_;exact gT)
 have z1:(o.unit < 0)=False:=eq_false om
 by_cases h2:o.unit<=g.ops.length
 rotate_left
 ·have hf:=hno fun h=>h2 h.hi
  have z2:((g.ops.length:Int) < o.unit)=True:=eq_true om
  (have F:=ai @z1 (ai @z2 @hf);refine gG ?_;exact gT)
 have z2:((g.ops.length:Int) < o.unit)=False:=eq_false om
 by_cases hp:o.assoc=false∧o.comm=false∧o.unit=0
 ·have ht:=Zdx (Zqa (g:=g) hp)
  obtain ⟨p1,p2,p3⟩:=hp
  have p3:(o.unit=0)=True:=eq_true p3
  (have F:=ai @z1 (ai @z2 (ai @p1 (ai @p2 (ai @p3 @ht))));refine gG ?_;exact gT)
 have hnd:=ZuH hp
 (have F:=ai @z1 @z2;have NN:Zag 3:=trivial;refine gGn ?_;clear F NN)
 refine gM (ι:=Unit) [32] [] (fun v=>[(32,A.d (.one (.lit (.bool false))))]) (fun v=>[]) (fun v=>True) ?_ (fun v hv=>Exists.intro _ (ai (Wk.refl _) ?_))
 ·cases q1:o.assoc with
  | true=>(have F:=@q1;refine gG ?_;exact ⟨(),trivial,gw,gw⟩)
  | false =>
  cases q2:o.comm with
  | true=>(have F:=ai @q1 @q2;refine gG ?_;exact ⟨(),trivial,gw,gw⟩)
  | false =>
   have q3:(o.unit=0)=False:=eq_false fun h=>hp ⟨q1,q2,h⟩
   (have F:=ai @q1 (ai @q2 @q3);refine gG ?_;exact ⟨(),trivial,gw,gw⟩)
 clear hv
 by_cases h3:d.args.length=2
 rotate_left
 ·have hf:=hno fun h=>h3 (h.two hnd d hd).1
  have z3:((d.args.length:Int)=2)=False:=eq_false om
  (have F:=ai @hd (ai @ZaR (ai @z3 @hf));refine gG ?_;exact gT)
 have z3:((d.args.length:Int)=2)=True:=eq_true om
 obtain ⟨a,ha⟩:∃ k,d.args[0]?=some k:=⟨_,Taa om⟩
 obtain ⟨b,hb⟩:∃ k,d.args[1]?=some k:=⟨_,Taa om⟩
 have har:=hdd.args a (Tab ha)
 have hbr:=hdd.args b (Tab hb)
 have ga:=kdg hs har
 have gb:=kdg hs hbr
 have ia:=har.1
 have ib:=hbr.1
 by_cases hk:kd g.sorts a=kd g.sorts b
 rotate_left
 ·have hf:=hno fun h=>hk ((h.two hnd d hd).2 a b ha hb).1
  have z4:((kd g.sorts a:Int)=(kd g.sorts b:Int))=False:=eq_false om
  (have F:=ai @hd (ai @ZaR (ai @z3 (ai @ha (ai @hb (ai @Za4 (ai @ga (ai @gb (ai @ia (ai @ib (ai @rK (ai @z4 @hf)))))))))));refine gG ?_;exact gT)
 have z4:((kd g.sorts a:Int)=(kd g.sorts b:Int))=True:=eq_true om
 (have F:=ai @hd (ai @ZaR (ai @z3 (ai @ha (ai @hb (ai @Za4 (ai @ga (ai @gb (ai @ia (ai @ib (ai @rK @z4))))))))));have NN:Zag 8:=trivial;refine gGn ?_;clear F NN)
 refine gM (ι:=Bool) [83] [] (fun v=>[(83,A.d (.one (.lit (.bool v))))]) (fun v=>[]) (fun v=>(v=true->((o.assoc=true∨o.unit≠0)∧kd g.sorts a≠kd g.sorts d.res))∧(v=false->¬ ((o.assoc=true∨o.unit≠0)∧kd g.sorts a≠kd g.sorts d.res))) ?_ (fun v hv=>Exists.intro _ (ai (Wk.refl _) ?_))
 ·cases q1:o.assoc with
  | true =>
   by_cases hr:kd g.sorts a=kd g.sorts d.res
   ·have z5:((kd g.sorts a:Int)=(kd g.sorts d.res:Int))=True:=eq_true om
    (have F:=ai @q1 (ai @ha (ai @Za4 (ai @ga (ai @gr (ai @ia (ai @ir (ai @rK @z5)))))));refine gG ?_;exact ⟨false,⟨fun h=>(by cases h),fun _ h=>h.2 hr⟩,gw,gw⟩)
   ·have z5:((kd g.sorts a:Int)=(kd g.sorts d.res:Int))=False:=eq_false om
    (have F:=ai @q1 (ai @ha (ai @Za4 (ai @ga (ai @gr (ai @ia (ai @ir (ai @rK @z5)))))));refine gG ?_;exact ⟨true,⟨fun _=>⟨.inl rfl,hr⟩,fun h=>(by cases h)⟩,gw,gw⟩)
  | false =>
  by_cases q3:o.unit=0
  ·have z6:(o.unit=0)=True:=eq_true q3
   (have F:=ai @q1 @z6;refine gG ?_;exact ⟨false,⟨fun h=>(by cases h),fun _ h=>h.1.elim (fun h=>(by cases h)) fun h=>h q3⟩,gw,gw⟩)
  ·have z6:(o.unit=0)=False:=eq_false q3
   by_cases hr:kd g.sorts a=kd g.sorts d.res
   ·have z5:((kd g.sorts a:Int)=(kd g.sorts d.res:Int))=True:=eq_true om
    (have F:=ai @q1 (ai @z6 (ai @ha (ai @Za4 (ai @ga (ai @gr (ai @ia (ai @ir (ai @rK @z5))))))));refine gG ?_;exact ⟨false,⟨fun h=>(by cases h),fun _ h=>h.2 hr⟩,gw,gw⟩)
   ·have z5:((kd g.sorts a:Int)=(kd g.sorts d.res:Int))=False:=eq_false om
    (have F:=ai @q1 (ai @z6 (ai @ha (ai @Za4 (ai @ga (ai @gr (ai @ia (ai @ir (ai @rK @z5))))))));refine gG ?_;exact ⟨true,⟨fun _=>⟨.inr q3,hr⟩,fun h=>(by cases h)⟩,gw,gw⟩)
 obtain ⟨hv1,hv2⟩:=hv
 cases v with
 | true =>
  have hf:=hno fun h=>(hv1 rfl).2 (((h.two hnd d hd).2 a b ha hb).2.1 (hv1 rfl).1)
  (have F:=@hf;refine gG ?_;exact gT)
 | false =>
 have hr:=hv2 rfl
 by_cases q3:o.unit=0
 ·have z6:(o.unit=0)=True:=eq_true q3
  have ht:=Zdx (Zj0 hd h1 h2 h3 ha hb hk hr fun h=>absurd q3 h)
  (have F:=ai @z6 @ht;refine gG ?_;exact gT)
 have z6:(o.unit=0)=False:=eq_false q3
 have hsub:IntKind.i64.wrap (o.unit - 1)=((o.unit.toNat - 1:Nat):Int):=ZaQ om om om
 obtain ⟨p,hp⟩:∃ p,g.ops[o.unit.toNat - 1]?=some p:=⟨_,Taa om⟩
 obtain ⟨u,hu,huu⟩:=(hall p (Tab hp)).first
 have gu':=kdg hs huu.res
 have iu:=huu.res.1
 have key:(u.args.length=0∧kd g.sorts u.res=kd g.sorts d.res)->axOk g o=true:=fun h=>Zdx (Zj0 hd h1 h2 h3 ha hb hk hr fun _ p' u' hp' hu'=>by
  rw [hp] at hp';injection hp' with hp';subst hp'
  rw [hu] at hu';injection hu' with hu';subst hu'
  exact h)
 have keyn:¬ (u.args.length=0∧kd g.sorts u.res=kd g.sorts d.res)->axOk g o=false:=fun h=>hno fun hA=>h (((hA.two hnd d hd).2 a b ha hb).2.2 q3 p u hp hu)
 by_cases hl0:u.args.length=0
 rotate_left
 ·have hf:=keyn fun h=>hl0 h.1
  have z7:((u.args.length:Int)=0)=False:=eq_false om
  (have F:=ai @z6 (ai @hsub (ai @hp (ai @Zaj (ai @hu (ai @ZaR (ai @Zas (ai @z7 @hf)))))));refine gG ?_;exact gT)
 have z7:((u.args.length:Int)=0)=True:=eq_true om
 by_cases hku:kd g.sorts u.res=kd g.sorts d.res
 ·have ht:=key ⟨hl0,hku⟩
  have z8:((kd g.sorts u.res:Int)=(kd g.sorts d.res:Int))=True:=eq_true om
  (have F:=ai @z6 (ai @hsub (ai @hp (ai @Zaj (ai @hu (ai @ZaR (ai @Zas (ai @z7 (ai @gu' (ai @gr (ai @iu (ai @ir (ai @rK (ai @z8 @ht)))))))))))));refine gG ?_;exact gT)
 ·have hf:=keyn fun h=>hku h.2
  have z8:((kd g.sorts u.res:Int)=(kd g.sorts d.res:Int))=False:=eq_false om
  (have F:=ai @z6 (ai @hsub (ai @hp (ai @Zaj (ai @hu (ai @ZaR (ai @Zas (ai @z7 (ai @gu' (ai @gr (ai @iu (ai @ir (ai @rK (ai @z8 @hf)))))))))))));refine gG ?_;exact gT)
theorem Zqb (hs:SortsOk g.sorts) (hall:∀ p∈g.ops,DeclsOk g.sorts p) {k:Nat} (hk0:g.ops[k]?=some o) (hol:g.ops.length<=14):Con e0 152 [.agg (Zav g),.one (.lit (.int .i64 k))] [.one (.lit (.bool (axOk g o)))]:=by
 have hno:¬ AxOk g o->axOk g o=false:=ZlR
 have ho:=Tab hk0
 have hkl:=(Tac.1 hk0).1
 have cK:=Zet hs
 rw [show (ZbU (kinds g.sorts)).map ZbQ=nR (kinds g.sorts) from rfl] at cK
 have rK:=Zay (l:=kinds g.sorts)
 obtain ⟨d,hd,hdd⟩:=(hall o ho).first
 have cA:=Zfw hd
 have gr:=kdg hs hdd.res
 have ir:=hdd.res.1
 rw [Za6] at cK
 rw [ZbK] at cA
 rw [Zav]
 refine gI 174085318024508800717819895 Tryz.func152 ?_
 by_cases hp:o.assoc=false∧o.comm=false∧o.unit=0
 ·have ht:=Zdx (Zqa (g:=g) hp)
  obtain ⟨p1,p2,p3⟩:=hp
  have p3:(o.unit=0)=True:=eq_true p3
  (have F:=ai @hk0 (ai @Zaj (ai @p1 (ai @p2 (ai @p3 @ht))));refine gG ?_;exact gT)
 have hnd:=ZuH hp
 (have F:=ai @hk0 @Zaj;have NN:Zag 2:=trivial;refine gGn ?_;clear F NN)
 refine gM (ι:=Unit) [29] [] (fun v=>[(29,A.d (.one (.lit (.bool false))))]) (fun v=>[]) (fun v=>True) ?_ (fun v hv=>Exists.intro _ (ai (Wk.refl _) ?_))
 ·cases q1:o.assoc with
  | true=>(have F:=@q1;refine gG ?_;exact ⟨(),trivial,gw,gw⟩)
  | false =>
  cases q2:o.comm with
  | true=>(have F:=ai @q1 @q2;refine gG ?_;exact ⟨(),trivial,gw,gw⟩)
  | false =>
   have q3:(o.unit=0)=False:=eq_false fun h=>hp ⟨q1,q2,h⟩
   (have F:=ai @q1 (ai @q2 @q3);refine gG ?_;exact ⟨(),trivial,gw,gw⟩)
 clear hv
 (have F:=@e0P;refine gG ?_;clear F)
 refine gB ?_
 (have F:=@e0P;refine gC (cA) ?_;clear F)
 by_cases h3:d.args.length=2
 rotate_left
 ·have hf:=hno fun h=>h3 (h.two hnd d hd).1
  have z3:((d.args.length:Int)=2)=False:=eq_false om
  (have F:=@z3;refine gR ?_;clear F)
  (have F:=@hf;refine gG ?_;exact gT)
 have z3:((d.args.length:Int)=2)=True:=eq_true om
 (have F:=@z3;refine gC (ZdE o.unit 0 (g.ops.length:Int)) ?_;clear F)
 by_cases h12:0<=o.unit∧o.unit<=(g.ops.length:Int)
 rotate_left
 ·have hf:=hno fun h=>h12 ⟨h.lo,h.hi⟩
  have z1:decide (0<=o.unit∧o.unit<=(g.ops.length:Int))=false:=decide_eq_false h12
  (have F:=ai @z3 @z1;refine gR ?_;clear F)
  (have F:=@hf;refine gG ?_;exact gT)
 have z1:decide (0<=o.unit∧o.unit<=(g.ops.length:Int))=true:=decide_eq_true h12
 obtain ⟨h1,h2⟩:=h12
 obtain ⟨a,ha⟩:∃ k,d.args[0]?=some k:=⟨_,Taa om⟩
 obtain ⟨b,hb⟩:∃ k,d.args[1]?=some k:=⟨_,Taa om⟩
 have har:=hdd.args a (Tab ha)
 have hbr:=hdd.args b (Tab hb)
 have ga:=kdg hs har
 have gb:=kdg hs hbr
 have ia:=har.1
 have ib:=hbr.1
 (have F:=ai @z3 @z1;refine gR ?_;clear F)
 (have F:=@e0P;refine gG ?_;clear F)
 refine gB ?_
 (have F:=@e0P;refine gC (cK) ?_;clear F)
 (have F:=@e0P;refine gR ?_;clear F)
 (have F:=ai @hd @ZaR;have NN:Zag 8:=trivial;refine gGn ?_;clear F NN)
 refine Zam 22 (by decide +kernel) ?_
 intro ds hds
 simp only [List.map] at hds
 subst hds
 refine (have F:=ai ha (ai hb (ai Za4 (ai ga (ai gb (ai gr (ai ia (ai ib (ai ir rK))))))));gP 19 ?_)
 refine (have F:=ia;gAq ?_)
 refine (have F:=ia;gAq ?_)
 refine (have F:=ia;gAq ?_)
 (have F:=@e0P;refine gR ?_;clear F)
 (have F:=@e0P;have NN:Zag 9:=trivial;refine gGn ?_;clear F NN)
 refine gM (ι:=Bool) [84] [] (fun v=>[(84,A.d (.one (.lit (.bool v))))]) (fun v=>[]) (fun v=>(v=true->kd g.sorts a≠kd g.sorts b∨((o.assoc=true∨o.unit≠0)∧kd g.sorts a≠kd g.sorts d.res))∧(v=false->kd g.sorts a=kd g.sorts b∧¬ ((o.assoc=true∨o.unit≠0)∧kd g.sorts a≠kd g.sorts d.res))) ?_ (fun v hv=>Exists.intro _ (ai (Wk.refl _) ?_))
 ·by_cases hk:kd g.sorts a=kd g.sorts b
  rotate_left
  ·have z4:((kd g.sorts a:Int)=(kd g.sorts b:Int))=False:=eq_false om
   (have F:=@z4;refine gG ?_;exact ⟨true,⟨fun _=>.inl hk,fun h=>(by cases h)⟩,gw,gw⟩)
  have z4:((kd g.sorts a:Int)=(kd g.sorts b:Int))=True:=eq_true om
  cases q1:o.assoc with
  | true =>
   by_cases hr:kd g.sorts a=kd g.sorts d.res
   ·have z5:((kd g.sorts a:Int)=(kd g.sorts d.res:Int))=True:=eq_true om
    (have F:=ai @q1 (ai @Zaj (ai @z4 @z5));refine gG ?_;exact ⟨false,⟨fun h=>(by cases h),fun _=>⟨hk,fun h=>h.2 hr⟩⟩,gw,gw⟩)
   ·have z5:((kd g.sorts a:Int)=(kd g.sorts d.res:Int))=False:=eq_false om
    (have F:=ai @q1 (ai @Zaj (ai @z4 @z5));refine gG ?_;exact ⟨true,⟨fun _=>.inr ⟨.inl rfl,hr⟩,fun h=>(by cases h)⟩,gw,gw⟩)
  | false =>
  by_cases q3:o.unit=0
  ·have z6:((0:Int) < o.unit)=False:=eq_false om
   (have F:=ai @q1 (ai @Zaj (ai @z4 @z6));refine gG ?_;exact ⟨false,⟨fun h=>(by cases h),fun _=>⟨hk,fun h=>h.1.elim (fun h=>(by cases h)) fun h=>h q3⟩⟩,gw,gw⟩)
  ·have z6:((0:Int) < o.unit)=True:=eq_true om
   by_cases hr:kd g.sorts a=kd g.sorts d.res
   ·have z5:((kd g.sorts a:Int)=(kd g.sorts d.res:Int))=True:=eq_true om
    (have F:=ai @q1 (ai @Zaj (ai @z4 (ai @z6 @z5)));refine gG ?_;exact ⟨false,⟨fun h=>(by cases h),fun _=>⟨hk,fun h=>h.2 hr⟩⟩,gw,gw⟩)
   ·have z5:((kd g.sorts a:Int)=(kd g.sorts d.res:Int))=False:=eq_false om
    (have F:=ai @q1 (ai @Zaj (ai @z4 (ai @z6 @z5)));refine gG ?_;exact ⟨true,⟨fun _=>.inr ⟨.inr q3,hr⟩,fun h=>(by cases h)⟩,gw,gw⟩)
 obtain ⟨hv1,hv2⟩:=hv
 cases v with
 | true =>
  have hf:=hno fun h=>(hv1 rfl).elim (fun h'=>h' ((h.two hnd d hd).2 a b ha hb).1) fun h'=>h'.2 (((h.two hnd d hd).2 a b ha hb).2.1 h'.1)
  (have F:=@hf;refine gG ?_;exact gT)
 | false =>
 obtain ⟨hk,hr⟩:=hv2 rfl
 by_cases q3:o.unit=0
 ·have z6:(o.unit=0)=True:=eq_true q3
  have ht:=Zdx (Zj0 hd h1 h2 h3 ha hb hk hr fun h=>absurd q3 h)
  (have F:=ai @Zaj (ai @z6 @ht);refine gG ?_;exact gT)
 have z6:(o.unit=0)=False:=eq_false q3
 have hsub:IntKind.i64.wrap (o.unit - 1)=((o.unit.toNat - 1:Nat):Int):=ZaQ om om om
 obtain ⟨p,hp⟩:∃ p,g.ops[o.unit.toNat - 1]?=some p:=⟨_,Taa om⟩
 obtain ⟨u,hu,huu⟩:=(hall p (Tab hp)).first
 have cP:=Zfw hu
 rw [ZbK] at cP
 have gu':=kdg hs huu.res
 have iu:=huu.res.1
 have key:(u.args.length=0∧kd g.sorts u.res=kd g.sorts d.res)->axOk g o=true:=fun h=>Zdx (Zj0 hd h1 h2 h3 ha hb hk hr fun _ p' u' hp' hu'=>by
  rw [hp] at hp';injection hp' with hp';subst hp'
  rw [hu] at hu';injection hu' with hu';subst hu'
  exact h)
 have keyn:¬ (u.args.length=0∧kd g.sorts u.res=kd g.sorts d.res)->axOk g o=false:=fun h=>hno fun hA=>h (((hA.two hnd d hd).2 a b ha hb).2.2 q3 p u hp hu)
 (have F:=ai @z6 (ai @hsub (ai @hp (ai @Zaj @Zas)));refine gG ?_;clear F)
 refine gB ?_
 (have F:=@e0P;refine gC (cP) ?_;clear F)
 by_cases hl0:u.args.length=0
 rotate_left
 ·have hf:=keyn fun h=>hl0 h.1
  have z7:((u.args.length:Int)=0)=False:=eq_false om
  (have F:=@z7;refine gR ?_;clear F)
  (have F:=@hf;refine gG ?_;exact gT)
 have z7:((u.args.length:Int)=0)=True:=eq_true om
 by_cases hku:kd g.sorts u.res=kd g.sorts d.res
 ·have ht:=key ⟨hl0,hku⟩
  have z8:((kd g.sorts u.res:Int)=(kd g.sorts d.res:Int))=True:=eq_true om
  (have F:=ai @z7 (ai @hu (ai @ZaR (ai @gu' (ai @iu (ai @rK @z8)))));refine gR ?_;clear F)
  (have F:=@ht;refine gG ?_;exact gT)
 ·have hf:=keyn fun h=>hku h.2
  have z8:((kd g.sorts u.res:Int)=(kd g.sorts d.res:Int))=False:=eq_false om
  (have F:=ai @z7 (ai @hu (ai @ZaR (ai @gu' (ai @iu (ai @rK @z8)))));refine gR ?_;clear F)
  (have F:=@hf;refine gG ?_;exact gT)
end
theorem ZnR {f:FuncId} (hb:Zb3 e0.P f=true) {a b:Tm} (h:ZfK f a b) (ha:okTm a) (hk:okTm b):Con e0 f [.agg (encTm a),.agg (encTm b)] [.one (.lit (.int .i64 (Zak a b)))]:=by
 refine Zhc Zhb hb fun w S vs hv=>?_
 match vs,hv with
 | [v,u],hv =>
  obtain ⟨⟨us,rfl,hu⟩,⟨us',rfl,hu'⟩,_⟩:=hv
  exact (h S S us us' w ha hk hu hu').mono fun e w' ⟨h1,h2⟩=>⟨_,h1,h2,by simp [retA,ARel,DRel,Rep]⟩
theorem Zr1 {a b:Tm} (ha:okTm a) (hk:okTm b):Con e0 82 [.agg (encTm a),.agg (encTm b)] [.one (.lit (.int .i64 (Zak a b)))]:=ZnR (by kernel_rfl) (ZkQ a b) ha hk
theorem Zfx {a b:Tm} (ha:okTm a) (hk:okTm b):Con e0 114 [.agg (encTm a),.agg (encTm b)] [.one (.lit (.int .i64 (Zak a b)))]:=ZnR (by kernel_rfl) (ZkR a b) ha hk
theorem Zks (a b:List Tm):sizeTms (a++b)=sizeTms a+sizeTms b:=by
 induction a with
 | nil=>simp [sizeTms]
 | cons x xs ih=>simp only [Tae,sizeTms,ih];omega
theorem Zbb {ts:List Tm} {t:Tm} (h:t∈ts):sizeTm t<=sizeTms ts:=by
 induction ts with
 | nil=>cases h
 | cons x xs ih =>
  simp only [sizeTms]
  rcases Tbg.1 h with rfl | h
  ·omega
  ·have:=ih h;omega
theorem Zqc {ts:List Tm} {i:Nat} {t:Tm} (h:ts[i]?=some t):sizeTms (ts.take (i+1))=sizeTms (ts.take i)+sizeTm t:=by
 rw [Zcu h,Zks];simp [sizeTms]
theorem Zqd (ts:List Tm) (i:Nat):sizeTms (ts.take i)<=sizeTms ts:=by
 have:=Zks (ts.take i) (ts.drop i)
 rw [Tbm] at this
 omega
theorem ZbN (ts:List Tm):ts.length<=sizeTms ts:=by
 induction ts with
 | nil=>simp [sizeTms]
 | cons x xs ih=>cases x;simp only [Taf,sizeTms,sizeTm];omega
mutual
def depthTm:Tm->Nat
 | .mk _ _ _ a=>1+depthTms a
def depthTms:List Tm->Nat
 | []=>0
 | t::ts=>max (depthTm t) (depthTms ts)
end
mutual
theorem ZlW:∀ t:Tm,depthTm t<=sizeTm t
 | .mk _ _ _ a=>by
  have:=Zfy a
  simp only [depthTm,sizeTm];omega
theorem Zfy:∀ ts:List Tm,depthTms ts<=sizeTms ts
 | []=>by simp [depthTms]
 | t::ts=>by
  have:=ZlW t
  have:=Zfy ts
  simp only [depthTms,sizeTms];omega
end
theorem Zqe (a b:List Tm):depthTms (a++b)=max (depthTms a) (depthTms b):=by
 induction a with
 | nil=>simp [depthTms]
 | cons x xs ih=>simp only [Tae,depthTms,ih];omega
theorem ZiG {ts:List Tm} {i:Nat} {t:Tm} (h:ts[i]?=some t):depthTms (ts.take (i+1))=max (depthTms (ts.take i)) (depthTm t):=by
 rw [Zcu h,Zqe];simp [depthTms]
theorem Zjh {ts:List Tm} {t:Tm} (h:t∈ts):depthTm t<=depthTms ts:=by
 induction ts with
 | nil=>cases h
 | cons x xs ih =>
  simp only [depthTms]
  rcases Tbg.1 h with rfl | h
  ·omega
  ·have:=ih h;omega
theorem Zj1:∀ op nm so args,encTm (.mk op nm so args)=[.lit (.int .i64 op),.lit (.string nm),.lit (.int .i64 so),.sl (Zab args)]:=fun _ _ _ _=>by rw [encTm]
theorem ZB1:∀ op nm so args,sizeTm (.mk op nm so args)=1+sizeTms args:=fun _ _ _ _=>by rw [sizeTm]
theorem ZnS:∀ op nm so args,depthTm (.mk op nm so args)=1+depthTms args:=fun _ _ _ _=>by rw [depthTm]
theorem ZnT:sizeTms []=0:=by rw [sizeTms]
theorem ZlX:depthTms []=0:=by rw [depthTms]
def big:Nat:=4611686018427387904
theorem ZkU:∀ (n:Nat) (t:Tm),sizeTm t < n->sizeTm t<=big->Con e0 105 [.agg (encTm t)] [.one (.lit (.int .i64 (sizeTm t)))]:=by
 intro n
 induction n with
 | zero=>intro t h;omega
 | succ n ih =>
  intro t hn hb
  obtain ⟨op,nm,so,args⟩:=t
  simp only [sizeTm,big] at hn hb
  have hal:=ZbN args
  refine gI 1967 Tryz.func105 ?_
  (have F:=ai @Zj1 @tmz;refine gG ?_;clear F)
  (have F:=@ZnT;refine gL (ι:=Nat) [3,5,9,10] [] (fun i=>[(9,A.d (.one (.lit (.int .i64 i)))),(3,A.d (.one (.lit (.int .i64 ((1+sizeTms (args.take i):Nat):Int)))))]) (fun i=>[]) (fun i=>i<=args.length) (fun i=>args.length - i) (0) om (fun i hi=>?_);clear F)
  by_cases hl:i < args.length
  rotate_left
  ·have hl':¬ ((i:Int) < (args.length:Int)):=by omega
   have e:args.take i=args:=List.take_of_length_le om
   (have F:=ai @hl' (ai @e @ZB1);refine gG ?_;exact gT)
  have hl':(i:Int) < (args.length:Int):=by omega
  obtain ⟨a,ha⟩:∃ a,args[i]?=some a:=⟨_,Taa hl⟩
  have hs:=Zqc ha
  have ht:=Zqd args (i+1)
  have hm:=Zbb (Tab ha)
  have hw:IntKind.i64.wrap (((1+sizeTms (args.take i):Nat):Int)+(sizeTm a:Int))=((1+sizeTms (args.take (i+1)):Nat):Int):=ZaQ om om om
  have hw1:=Zap (k:=i) om
  (have F:=ai @hl' (ai @tmz @ha);refine gG ?_;clear F)
  refine gB ?_
  (have F:=@tmz;refine gC (ih a om (by unfold big;omega)) ?_;clear F)
  (have F:=@hw;refine gR ?_;clear F)
  (have F:=ai @hw1 (ai @hw @tmz);refine gG ?_;exact ⟨i+1,by omega,gw,gw,by omega⟩)
theorem Zji {t:Tm} (h:sizeTm t<=big):Con e0 105 [.agg (encTm t)] [.one (.lit (.int .i64 (sizeTm t)))]:=ZkU _ t (Tam _) h
theorem Zkh:∀ (n:Nat) (t:Tm),sizeTm t < n->sizeTm t<=big->Con e0 106 [.agg (encTm t)] [.one (.lit (.int .i64 (depthTm t)))]:=by
 intro n
 induction n with
 | zero=>intro t h;omega
 | succ n ih =>
  intro t hn hb
  obtain ⟨op,nm,so,args⟩:=t
  simp only [sizeTm,big] at hn hb
  have hal:=ZbN args
  have hds:=Zfy args
  refine gI 1967 Tryz.func106 ?_
  (have F:=ai @Zj1 @tmz;refine gG ?_;clear F)
  (have F:=@ZlX;refine gL (ι:=Nat) [3,5,9,10] [] (fun i=>[(9,A.d (.one (.lit (.int .i64 i)))),(3,A.d (.one (.lit (.int .i64 ((depthTms (args.take i):Nat):Int)))))]) (fun i=>[]) (fun i=>i<=args.length) (fun i=>args.length - i) (0) om (fun i hi=>?_);clear F)
  by_cases hl:i < args.length
  rotate_left
  ·have hl':¬ ((i:Int) < (args.length:Int)):=by omega
   have e:args.take i=args:=List.take_of_length_le om
   have hw:IntKind.i64.wrap ((depthTms args:Int)+1)=((1+depthTms args:Nat):Int):=ZaQ om om om
   (have F:=ai @hl' (ai @e (ai @hw @ZnS));refine gG ?_;exact gT)
  have hl':(i:Int) < (args.length:Int):=by omega
  obtain ⟨a,ha⟩:∃ a,args[i]?=some a:=⟨_,Taa hl⟩
  have hs:=ZiG ha
  have hm:=Zbb (Tab ha)
  have hw:(if (depthTm a:Int) > (depthTms (args.take i):Int) then (depthTm a:Int) else (depthTms (args.take i):Int))=((depthTms (args.take (i+1)):Nat):Int):=by
   split <;> omega
  have hw1:=Zap (k:=i) om
  (have F:=ai @hl' (ai @tmz @ha);refine gG ?_;clear F)
  refine gB ?_
  (have F:=@tmz;refine gC (ih a om (by unfold big;omega)) ?_;clear F)
  (have F:=@hw;refine gR ?_;clear F)
  (have F:=ai @hw1 (ai @hw @tmz);refine gG ?_;exact ⟨i+1,by omega,gw,gw,by omega⟩)
theorem ZiH {t:Tm} (h:sizeTm t<=big):Con e0 106 [.agg (encTm t)] [.one (.lit (.int .i64 (depthTm t)))]:=Zkh _ t (Tam _) h
theorem ZAb (a b:Int):Con e0 218 [.one (.lit (.int .i64 a)),.one (.lit (.int .i64 b))] [.one (.lit (.int .i64 (max a b)))]:=by
 refine gI 147 Tryz.func218 ?_
 by_cases h:b < a
 ·have e:max a b=a:=by omega
  (have F:=ai @h @e;refine gG ?_;exact gT)
 ·have e:max a b=b:=by omega
  (have F:=ai @h @e;refine gG ?_;exact gT)
theorem Zki:∀ (n:Nat) (t:Tm),sizeTm t < n->sizeTm t<=big->Con e0 154 [.agg (encTm t)] [.one (.lit (.int .i64 (depthTm t)))]:=by
 intro n
 induction n with
 | zero=>intro t h;omega
 | succ n ih =>
  intro t hn hb
  obtain ⟨op,nm,so,args⟩:=t
  simp only [sizeTm,big] at hn hb
  have hal:=ZbN args
  have hds:=Zfy args
  refine gI 543 Tryz.func154 ?_
  (have F:=ai @Zj1 @tmz;refine gG ?_;clear F)
  (have F:=@ZlX;refine gL (ι:=Nat) [3,4,9] [] (fun i=>[(4,A.d (.one (.lit (.int .i64 i)))),(3,A.d (.one (.lit (.int .i64 ((depthTms (args.take i):Nat):Int)))))]) (fun i=>[]) (fun i=>i<=args.length) (fun i=>args.length - i) (0) om (fun i hi=>?_);clear F)
  by_cases hl:i < args.length
  rotate_left
  ·have hl':¬ ((i:Int) < (args.length:Int)):=by omega
   have e:args.take i=args:=List.take_of_length_le om
   have hw:IntKind.i64.wrap ((depthTms args:Int)+1)=((1+depthTms args:Nat):Int):=ZaQ om om om
   (have F:=ai @hl' (ai @e (ai @hw (ai @ZnS @tmz)));refine gG ?_;exact gT)
  have hl':(i:Int) < (args.length:Int):=by omega
  obtain ⟨a,ha⟩:∃ a,args[i]?=some a:=⟨_,Taa hl⟩
  have hs:=ZiG ha
  have hm:=Zbb (Tab ha)
  have hw:max (depthTms (args.take i):Int) (depthTm a:Int)=((depthTms (args.take (i+1)):Nat):Int):=by omega
  have hw1:=Zap (k:=i) om
  (have F:=ai @hl' (ai @tmz @ha);refine gG ?_;clear F)
  refine gB ?_
  (have F:=ai @tmz @ha;refine gC (ih a om (by unfold big;omega)) ?_;clear F)
  (have F:=@tmz;refine gC (ZAb _ _) ?_;clear F)
  (have F:=@hw;refine gR ?_;clear F)
  (have F:=ai @hw1 (ai @hw @tmz);refine gG ?_;exact ⟨i+1,by omega,gw,gw,by omega⟩)
theorem ZoF {t:Tm} (h:sizeTm t<=big):Con e0 154 [.agg (encTm t)] [.one (.lit (.int .i64 (depthTm t)))]:=Zki _ t (Tam _) h
def Lks (sb:List (Nat × A)) (mb:List (Nat × Bk)) (σ:St):Prop:=(∀ p∈sb,gs σ.s p.1=p.2)∧∀ p∈mb,gm σ.m p.1=some p.2
def keyB (k:Nat):A->Bool
 | .ref k' _=>k'==k
 | .buf k'=>k'==k
 | .row k' _ _ _=>k'==k
 | _=>false
def Zj2 (d:Nat) (sb:List (Nat × A)) (mb:List (Nat × Bk)):Bool:=sb.all (fun p=>p.1 != d && !keyB d p.2) && mb.all (fun p=>p.1 != d)
theorem ZfU (k t:Nat):∀ (s:List (Nat × A)),keyB k (gs s t)=false->gs (Zau k s) t=gs s t
 | [],_=>rfl
 | (t',x)::r,h=>by
  have ih:=ZfU k t r
  by_cases ht:t=t'
  ·cases x <;> simp_all [Zau,gs,keyB]
  ·have h2:keyB k (gs r t)=false:=by simpa [gs,ht] using h
   have h3:=ih h2
   clear h ih
   cases x <;> simp [Zau,gs,ht,h3]
theorem ZAc {d:Nat} {a:Option Addr} {n cap:Nat} {x:A} (h:keyB d x=false):litB d a n cap x=x:=by
 cases x <;> simp_all [litB,keyB]
section
variable {sb sb':List (Nat × A)} {mb mb':List (Nat × Bk)} {s:List (Nat × A)} {m:List (Nat × Bk)} {d:Nat} {α:A} {bk:Bk} {σ:St}
theorem Lks.app (h:Lks sb mb σ) (h':Lks sb' mb' σ):Lks (sb++sb') (mb++mb') σ :=
 ⟨fun p hp=>(Tbh.1 hp).elim (h.1 p) (h'.1 p),fun p hp=>(Tbh.1 hp).elim (h.2 p) (h'.2 p)⟩
theorem Lks.born (h:Lks sb mb ⟨s,m⟩) (hf:Zj2 d sb mb=true):Lks sb mb ⟨(d,α)::Zau d s,(d,bk)::remM d m⟩:=by
 simp only [Zj2,Taq,List.all_eq_true,bne_iff_ne,ne_eq,Bool.not_eq_true'] at hf
 refine ⟨fun p hp=>?_,fun p hp=>?_⟩
 ·have h1:=hf.1 p hp
  have h2:=h.1 p hp
  simp only [gs,h1.1,if_false]
  rw [ZfU _ _ _ (by rw [h2];exact h1.2)]
  exact h2
 ·have h1:=hf.2 p hp
  simp only [gm,h1,if_false,Za7]
  exact h.2 p hp
theorem Lks.pin (h:Lks sb mb ⟨s,m⟩) (hf:Zj2 d sb mb=true) {a:Option Addr} {n cap:Nat}:Lks sb mb ⟨(d,α)::mapS (litB d a n cap) (Zau d s),(d,bk)::remM d (remM d m)⟩:=by
 simp only [Zj2,Taq,List.all_eq_true,bne_iff_ne,ne_eq,Bool.not_eq_true'] at hf
 refine ⟨fun p hp=>?_,fun p hp=>?_⟩
 ·have h1:=hf.1 p hp
  have h2:=h.1 p hp
  simp only [gs,h1.1,if_false]
  rw [ZjU rfl,ZfU _ _ _ (by rw [h2];exact h1.2),h2]
  exact ZAc h1.2
 ·have h1:=hf.2 p hp
  simp only [gm,h1,if_false,Za7]
  exact h.2 p hp
theorem Lks.slot (h:Lks sb mb ⟨s,m⟩) (hf:sb.all (fun p=>p.1 != d)=true):Lks sb mb ⟨(d,α)::s,m⟩:=by
 simp only [List.all_eq_true,bne_iff_ne,ne_eq] at hf
 refine ⟨fun p hp=>?_,h.2⟩
 simp only [gs,hf p hp,if_false]
 exact h.1 p hp
theorem Lks.own (h:Lks sb mb ⟨s,m⟩) (hf:mb.all (fun p=>p.1 != d)=true):Lks sb mb ⟨s,(d,bk)::remM d m⟩:=by
 simp only [List.all_eq_true,bne_iff_ne,ne_eq] at hf
 refine ⟨h.1,fun p hp=>?_⟩
 simp only [gm,hf p hp,if_false,Za7]
 exact h.2 p hp
theorem ZAd:∀ {sb:List (Nat × A)} (t:Nat),(∀ p∈sb,gs σ.s p.1=p.2)->gs sb t=gs σ.s t∨gs sb t=.undef
 | [],t,_=>.inr rfl
 | (t',x)::r,t,h=>by
  simp only [gs]
  by_cases ht:t=t'
  ·have:=h (t',x) (by simp)
   rw [if_pos ht,ht]
   exact .inl this.symm
  ·rw [if_neg ht]
   exact ZAd t fun p hp=>h p (by simp [hp])
theorem ZAe:∀ {mb:List (Nat × Bk)} (t:Nat) (bk:Bk),(∀ p∈mb,gm σ.m p.1=some p.2)->gm mb t=some bk->gm σ.m t=some bk
 | [],t,bk,_,h=>by simp [gm] at h
 | (t',x)::r,t,bk,h,hg=>by
  simp only [gm] at hg
  by_cases ht:t=t'
  ·rw [if_pos ht] at hg
   injection hg with hg
   have:=h (t',x) (by simp)
   rw [ht,this,hg]
  ·rw [if_neg ht] at hg
   exact ZAe t bk (fun p hp=>h p (by simp [hp])) hg
end
section
variable {e:Env} {mask:Nat} {Q:PX->St->Prop} {ds:List (Option Nat)}
theorem ZvZ {os:List Oper} {σ:St} {K K':St->Prop} (h:Runs e ds 0 os σ K) (hk:∀ σ',K σ'->K' σ'):Runs e ds 0 os σ K':=by
 simp only [Runs] at h ⊢
 exact fun he U w0 S0 nt a w ops Q hds hd hQ hs=>h he U w0 S0 nt a w ops Q hds hd (fun a w σ' k1 k2=>hQ a w σ' (hk σ' k1) k2) hs
def ZFG (l:List Oper):Bool:=(List.range l.length).all fun i=>match l[i]? with
 | none=>true
 | some o=>o.guard.isNone && o.after.toList.all fun e=>!Region.binds .any e || decide (e.on < i)
def ZhM (o:Oper):List Nat:=(o.after.toList.filter fun e=>Region.binds .any e).map (·.on)
def ZdL (L:List Oper) (j:Nat):List Nat:=match L[j]? with
 | some o=>ZhM o
 | none=>[]
def ZgH (e:Env) (ds:List (Option Nat)) (L:List Oper) (B:St->Prop) (P:Nat->St->Prop):Nat->List Oper->Prop
 | _,[]=>True
 | i,o::os=>(∀ s m,B ⟨s,m⟩->(∀ j∈ZhM o,P j ⟨s,m⟩)->Runs e ds 0 [o] ⟨s,m⟩ (fun σ'=>B σ'∧P i σ'∧∀ j,j≠i->i ∉ ZdL L j->P j ⟨s,m⟩->P j σ'))∧ZgH e ds L B P (i+1) os
theorem ZgH.get {L:List Oper} {B:St->Prop} {P:Nat->St->Prop}:∀ {l:List Oper} {k i:Nat} {o:Oper},ZgH e ds L B P k l->l[i]?=some o->∀ s m,B ⟨s,m⟩->(∀ j∈ZhM o,P j ⟨s,m⟩)->Runs e ds 0 [o] ⟨s,m⟩ (fun σ'=>B σ'∧P (k+i) σ'∧∀ j,j≠k+i->k+i ∉ ZdL L j->P j ⟨s,m⟩->P j σ')
 | [],k,i,o,_,h=>by simp at h
 | x::l,k,0,o,h,ho=>by
  simp only [Tas,Tap] at ho
  subst ho
  exact h.1
 | x::l,k,i+1,o,h,ho=>by
  have:=ZgH.get (l:=l) (k:=k+1) (i:=i) (o:=o) h.2 (by simpa using ho)
  rw [show k+1+i=k+(i+1) by omega] at this
  exact this
theorem Zv0 {l:List Oper} {K B:St->Prop} {P:Nat->St->Prop} (hb:ZFG l=true) (hstep:ZgH e ds l B P 0 l) (hK:∀ s m,B ⟨s,m⟩->(∀ i,i < l.length->P i ⟨s,m⟩)->K ⟨s,m⟩) :
  ∀ (f:Nat) (listed:Array Bool) (σ:St),listed.size=l.length->(List.range l.length).countP (fun i=>!listed.getD i true)=f->B σ->(∀ j,listed.getD j false=true->P j σ∧∀ q∈ZdL l j,listed.getD q false=true)->ZcC e ds l.toArray K f listed σ:=by
 have hback:∀ i o,l[i]?=some o->o.guard=none∧∀ e∈o.after,Region.binds .any e=true->e.on < i:=fun i o ho=>by
  have h1:=List.all_eq_true.1 hb i (List.mem_range.2 (Tac.1 ho).1)
  rw [ho] at h1
  simp only [Taq,Option.isNone_iff_eq_none,List.all_eq_true,Bool.or_eq_true,Bool.not_eq_true',decide_eq_true_eq] at h1
  refine ⟨h1.1,fun e he hbe=>?_⟩
  rcases h1.2 e (Array.mem_toList_iff.2 he) with h2 | h2
  ·rw [hbe] at h2;cases h2
  ·exact h2
 have hfirst:∀ (listed:Array Bool),listed.size=l.length->Region.ready .any l.toArray listed=[]->∀ i,i < l.length->listed.getD i false=true:=fun listed hsz h0 i=>by
  induction i using Nat.strongRecOn with
  | _ i ih =>
   intro hi
   rw [<- ZbY (by omega:i < listed.size)]
   cases hun:listed.getD i true with
   | true=>rfl
   | false =>
   obtain ⟨o,ho⟩:∃ o,l[i]?=some o:=⟨_,Taa hi⟩
   have:=(mem_ready (ops:=l.toArray) (md:=.any)).2 ⟨hun,o,by simpa using ho,fun e he hbe=>ih e.on ((hback i o ho).2 e he hbe) (by have:=(hback i o ho).2 e he hbe;omega)⟩
   rw [h0] at this
   cases this
 intro f
 induction f with
 | zero =>
  intro listed σ hsz hc hB hP
  have hall:∀ i,i < l.length->listed.getD i true=true:=fun i hi=>by
   have:=List.countP_eq_zero.1 hc i (List.mem_range.2 hi)
   simpa using this
  refine ⟨?_,hK σ.s σ.m hB fun i hi=>(hP i (by rw [<- ZbY om];exact hall i hi)).1⟩
  cases hr:Region.ready .any l.toArray listed with
  | nil=>rfl
  | cons i r =>
   have hi:i∈Region.ready .any l.toArray listed:=by rw [hr];simp
   obtain ⟨hun,oi,hoi,_⟩:=mem_ready.1 hi
   have hil:i < l.length:=by
    have:=(Tbl.1 hoi).1
    simpa using this
   rw [hall i hil] at hun
   cases hun
 | succ f ih =>
  intro listed σ hsz hc hB hP
  refine ⟨fun h0=>hK σ.s σ.m hB fun i hi=>(hP i (hfirst listed hsz h0 i hi)).1,fun i hi=>?_⟩
  obtain ⟨hun,o,hoi,hall⟩:=mem_ready.1 hi
  have ho:l[i]?=some o:=by simpa using hoi
  have hil:i < l.length:=(Tac.1 ho).1
  have hls:i < listed.size:=by omega
  refine ⟨o,hoi,(hback i o ho).1,Zef (hback i o ho).1 ?_⟩
  have h1:=ZgH.get hstep ho σ.s σ.m hB fun j hj=>by
   simp only [ZhM,Tbi,List.mem_filter] at hj
   obtain ⟨e,⟨he,hbe⟩,rfl⟩:=hj
   exact (hP e.on (hall e (Array.mem_toList_iff.1 he) hbe)).1
  rw [Nat.zero_add] at h1
  refine ZvZ h1 fun σ' ⟨k1,k2,k3⟩=>ih _ σ' (by simpa using hsz) ?_ k1 fun j hj=>?_
  ·have h1:(List.range l.length).countP (fun j=>!(listed.setIfInBounds i true).getD j true)+1=(List.range l.length).countP (fun j=>!listed.getD j true):=by
    have hperm:=List.perm_cons_erase (List.mem_range.2 hil)
    rw [hperm.countP_eq,hperm.countP_eq,List.countP_cons,List.countP_cons]
    have hcong:((List.range l.length).erase i).countP (fun j=>!(listed.setIfInBounds i true).getD j true)=((List.range l.length).erase i).countP (fun j=>!listed.getD j true):=by
     refine List.countP_congr fun j hj=>?_
     have hne:j≠i:=fun e=>by
      subst e
      exact List.Nodup.not_mem_erase (List.nodup_range) hj
     rw [getD_set_ne true (Ne.symm hne)]
    rw [hcong,hun]
    simp [hls]
   omega
  ·by_cases hji:j=i
   ·subst hji
    refine ⟨k2,fun q hq=>?_⟩
    have hda:ZdL l j=ZhM o:=by unfold ZdL;rw [ho]
    rw [hda] at hq
    simp only [ZhM,Tbi,List.mem_filter] at hq
    obtain ⟨e,⟨he,hbe⟩,rfl⟩:=hq
    have hlt:=(hback j o ho).2 e (Array.mem_toList_iff.1 he) hbe
    rw [getD_set_ne false om]
    exact hall e (Array.mem_toList_iff.1 he) hbe
   ·rw [getD_set_ne false (Ne.symm hji)] at hj
    obtain ⟨p1,p2⟩:=hP j hj
    have hni:i ∉ ZdL l j:=fun hm=>by
     have h2:=p2 i hm
     rw [<- ZbY hls,hun] at h2
     cases h2
    refine ⟨k3 j hji hni p1,fun q hq=>?_⟩
    by_cases hqi:q=i
    ·subst hqi;exact absurd hq hni
    ·rw [getD_set_ne false (Ne.symm hqi)];exact p2 q hq
theorem gGd {id:Nat} {l:List Oper} {s:List (Nat × A)} {m:List (Nat × Bk)} (B:St->Prop) (P:Nat->St->Prop) (hB:B ⟨s,m⟩) (hS:ZgH e (l.map (·.dst)) l B P 0 l) (hK:∀ s' m',B ⟨s',m'⟩->(∀ i,i < l.length->P i ⟨s',m'⟩)->∃ sf mf,Lks sf mf ⟨s',m'⟩∧Q .normal ⟨sf,mf⟩)
  (hb:ZFG l=true:=by decide +kernel) (hT:regT l.toArray 0=true:=by decide +kernel):pwp e mask (.region id l.toArray true) ⟨s,m⟩ Q:=fun he U w0 S0 nt a w hok hs=>by
 refine Zp7 he hT (K:=fun σ'=>∃ sf mf,Lks sf mf σ'∧Q .normal ⟨sf,mf⟩) (fun a w σ' ⟨sf,mf,h1,h2⟩ h3=>⟨⟨sf,mf⟩,h2,h3.weak (fun t=>ZAd t h1.1) (fun t bk=>ZAe t bk h1.2)⟩) (Zo4 hok) hs ?_
 simp only [List.take_zero,Runs]
 have:=Zv0 (K:=fun σ'=>∃ sf mf,Lks sf mf σ'∧Q .normal ⟨sf,mf⟩) hb hS hK l.length (Zb8 l.length 0) ⟨s,m⟩ (by simp [Zb8]) (by
  rw [List.countP_eq_length.2]
  ·simp
  ·intro i hi
   have hi':=List.mem_range.1 hi
   simp [Zb8,hi']) hB (fun j hj=>by
   have h0:(Zb8 l.length 0).getD j false=false:=by
    by_cases hjl:j < l.length
    ·simp [Zb8,hjl]
    ·simp [Zb8,hjl]
   rw [h0] at hj
   cases hj)
 simpa using this
def PG {X:Type} (S:X->Nat->List (Nat × A)) (M:X->Nat->List (Nat × Bk)) (i:Nat) (σ:St):Prop:=∃ x,Lks (S x i) (M x i) σ
section
variable {X:Type} {S:X->Nat->List (Nat × A)} {M:X->Nat->List (Nat × Bk)} {d i:Nat} {L:List Oper} {s:List (Nat × A)} {m:List (Nat × Bk)} {α:A} {bk:Bk}
theorem PG.slot (hf:∀ j,j≠i->i ∉ ZdL L j->∀ x,(S x j).all (fun p=>p.1 != d)=true):∀ j,j≠i->i ∉ ZdL L j->PG S M j ⟨s,m⟩->PG S M j ⟨(d,α)::s,m⟩:=fun j h1 h2 ⟨x,h⟩=>⟨x,h.slot (hf j h1 h2 x)⟩
theorem PG.born (hf:∀ j,j≠i->i ∉ ZdL L j->∀ x,Zj2 d (S x j) (M x j)=true):∀ j,j≠i->i ∉ ZdL L j->PG S M j ⟨s,m⟩->PG S M j ⟨(d,α)::Zau d s,(d,bk)::remM d m⟩:=fun j h1 h2 ⟨x,h⟩=>⟨x,h.born (hf j h1 h2 x)⟩
theorem PG.pin (hf:∀ j,j≠i->i ∉ ZdL L j->∀ x,Zj2 d (S x j) (M x j)=true) {a:Option Addr} {n cap:Nat}:∀ j,j≠i->i ∉ ZdL L j->PG S M j ⟨s,m⟩->PG S M j ⟨(d,α)::mapS (litB d a n cap) (Zau d s),(d,bk)::remM d (remM d m)⟩:=fun j h1 h2 ⟨x,h⟩=>⟨x,h.pin (hf j h1 h2 x)⟩
end
end
theorem Zv1 {e:Env} {σ:St} {k k' ety ety' sz sz' cap cap':Nat} {ad ad':Option Addr} {rows rows':List (List C)} (hne:k≠k') (h:gm σ.m k=some (.buf (some (ad,cap)) ety sz rows)) (h':gm σ.m k'=some (.buf (some (ad',cap')) ety' sz' rows')) (hr:0 < rows.length) (hr':0 < rows'.length):Turn e σ (fun σ'=>σ'=σ∧ad≠ad'):=fun he U w0 S0 nt act w hs=>by
 refine ⟨σ,⟨rfl,fun e=>?_⟩,hs⟩
 obtain ⟨S,L,h1⟩:=hs
 have key:∀ {k ety sz cap:Nat} {ad:Option Addr} {rows:List (List C)},gm σ.m k=some (.buf (some (ad,cap)) ety sz rows)->0 < rows.length->∃ g,vblk (L.v k)=some g∧ad=some ⟨g,0,none⟩:=fun {k ety sz cap ad rows} h hr=>by
  obtain ⟨o1,o2⟩:=h1.cls.own k _ h
  have o1:=o1 _ rfl
  rcases o2.2.2 with ⟨h3,_⟩ | ⟨g,cap2,cur,hv,hc,_⟩
  ·rw [h3] at hr;simp at hr
  ·refine ⟨g,by rw [hv];simp [vblk];omega,?_⟩
   rw [o1] at hv
   injection hv with hv _ _
 obtain ⟨g,v1,e1⟩:=key h hr
 obtain ⟨g',v2,e2⟩:=key h' hr'
 rw [e1,e2] at e
 injection e with e
 injection e with e _ _
 rw [<- e] at v2
 exact hne (h1.cls.inj k k' _ _ g h h' v1 v2)
theorem pA {e:Env} {mask:Nat} {Q:PX->St->Prop} {c:Code} {s:List (Nat × A)} {m:List (Nat × Bk)} {ety ety' sz sz' cap cap':Nat} {ad ad':Option Addr} {rows rows':List (List C)} (k k':Nat) (hK:ad≠ad'->pwp e mask c ⟨s,m⟩ Q) (hr:0 < rows.length) (hr':0 < rows'.length) (hne:k≠k':=by decide) (h:gm m k=some (.buf (some (ad,cap)) ety sz rows):=by exact snv) (h':gm m k'=some (.buf (some (ad',cap')) ety' sz' rows'):=by exact snv):pwp e mask c ⟨s,m⟩ Q :=
 ZcF (Zv1 hne h h' hr hr') fun σ' ⟨hσ,ha⟩=>by subst hσ;exact hK ha
def ordS (s:Srt) (f:(Nat->Option Addr × Nat) × C × C × C):Nat->List (Nat × A)
 | 0=>[(20,.d (.agg (Za6 s)))]
 | 1=>[(21,.d (.one (.sl (nR (up s)))))]
 | 2=>[(22,.d (.one (.lit (.int .i64 s.names.length))))]
 | 3=>[(23,.d (.one (.lit (.slice (f.1 23).1 s.names.length (f.1 23).2))))]
 | 4=>[(24,.d (.one (.lit (.int .i64 s.names.length))))]
 | 5=>[(25,.d (.one (.lit (.slice (f.1 25).1 s.names.length (f.1 25).2))))]
 | 6=>[(26,.d (.agg [.sl (nR (up s)),.lit (.slice (f.1 23).1 s.names.length (f.1 23).2),.lit (.slice (f.1 25).1 s.names.length (f.1 25).2)]))]
 | 7=>[(5,.ref 5 0)]
 | 8=>[(5,.ref 5 0)]
 | _=>[]
def ordM (s:Srt) (f:(Nat->Option Addr × Nat) × C × C × C):Nat->List (Nat × Bk)
 | 3=>[(23,.buf (some (f.1 23)) 3 1 (nR (List.replicate s.names.length 0)))]
 | 5=>[(25,.buf (some (f.1 25)) 3 1 (nR (List.replicate s.names.length 0)))]
 | 6=>[(23,.buf (some (f.1 23)) 3 1 (nR (List.replicate s.names.length 0))),(25,.buf (some (f.1 25)) 3 1 (nR (List.replicate s.names.length 0)))]
 | 7=>[(5,.var none [f.2.1,f.2.2.1,f.2.2.2])]
 | 8=>[(5,.var none [.sl (nR (up s)),.lit (.slice (f.1 23).1 s.names.length (f.1 23).2),.lit (.slice (f.1 25).1 s.names.length (f.1 25).2)]),(23,.buf (some (f.1 23)) 3 1 (nR (List.replicate s.names.length 0))),(25,.buf (some (f.1 25)) 3 1 (nR (List.replicate s.names.length 0)))]
 | _=>[]
theorem ZHL:(∀ (u l:List Nat),downs u 0 l=l)∧∀ n,ZdV n 0=List.replicate n 0:=⟨fun _ _=>rfl,fun n=>by simp [ZdV]⟩
theorem ZG9 (i:Nat) (l:List Nat):downIn i l []=l:=rfl
theorem ZAf {ks:List Nat} {j k:Nat} (h:ks[j]?=some k) (i:Nat) (l:List Nat):downIn i l (ks.take (j+1))=(downIn i l (ks.take j)).set k ((downIn i l (ks.take j)).getD k 0 ||| 2 ^ i):=Zia h l
def ZlY (s:Srt):List (Nat × A):=[(1,.ref 1 0),(2,.ref 2 0),(3,.d (.one (.lit (.bool false)))),(4,.d (.one (.lit (.int .i64 s.names.length))))]
def Zo5 (s:Srt):List (Nat × Bk):=[(1,.var none (Za6 s)),(2,.var none [.sl [],.sl [],.sl []])]
def ordB (s:Srt) (σ:St):Prop:=Lks (ZlY s) (Zo5 s) σ
section
variable {s:Srt}
theorem ZkV (hok:ZlJ s) (hs:¬ SortsOk s):Con e0 104 [.agg (Za6 s)] [.agg [.sl [],.sl [],.sl []],.one (.lit (.bool false))]:=by
 have cI:=ZiE hok
 rw [ZfT hs,Za6] at cI
 rw [Za6]
 refine gI (ts:=[.cell 2 143,.slot 3]) 569543224310601128703 Tryz.func104 ?_
 (have F:=@e0P;refine gG ?_;clear F)
 refine gB ?_
 (have F:=@e0P;refine gC (cI) ?_;clear F)
 (have F:=@e0P;refine gR ?_;clear F)
 (have F:=@e0P;refine gG ?_;exact gTd)
theorem Zjj (hok:ZlJ s) (hs:SortsOk s):Con e0 104 [.agg (Za6 s)] [.agg (Zd7 s),.one (.lit (.bool true))]:=by
 have cI:=ZiE hok
 have hSI:=SortsOk.subsIn hs.subs
 have cA:=ZiD hs.n1 hs.n8 hs.m16 hSI
 rw [Zd6 hs] at cI
 rw [Za6] at cI ⊢
 refine gI (ts:=[.cell 2 143,.slot 3]) 569543224310601128703 Tryz.func104 ?_
 (have F:=@e0P;refine gG ?_;clear F)
 refine gB ?_
 (have F:=@e0P;refine gC (cI) ?_;clear F)
 (have F:=@e0P;refine gR ?_;clear F)
 (have F:=@e0P;have NN:Zag 4:=trivial;refine gGn ?_;clear F NN)
 have hmx:((s.names.length:Int)<=(maxApp:Int))=True:=eq_true (by have:=hs.n8;unfold maxApp;omega)
 refine gGd (ordB s) (PG (ordS s) (ordM s)) ⟨by simp [ZlY,gs],by simp [Zo5,gm,Za6]⟩ ⟨?_,?_,?_,?_,?_,?_,?_,?_,?_,trivial⟩ ?_
 rotate_right
 all_goals (intro s' m' hB)
 all_goals (have g1:gs s' 1=.ref 1 0:=hB.1 (1,.ref 1 0) (by simp [ZlY]))
 all_goals (have g4:gs s' 4=.d (.one (.lit (.int .i64 s.names.length))):=hB.1 (4,_) (by simp [ZlY]))
 all_goals (have k1:gm m' 1=some (.var none [.sl (s.names.map ZcH),.sl (s.subs.map Zc1)]):=hB.2 (1,_) (by simp [Zo5,Za6]))
 ·intro hP
  clear g1 g4 k1
  obtain ⟨f,h⟩:=hP 8 (by decide)
  refine ⟨_,_,h.app hB,?_⟩
  generalize hp:f.1 23=p
  generalize hq:f.1 25=q
  obtain ⟨a3,c3⟩:=p
  obtain ⟨a5,c5⟩:=q
  simp only [ordS,ordM,ZlY,Zo5,Tae,Tag,Za6,hp,hq]
  clear hp hq h hB hP s' m' f
  refine ⟨_,Wk.refl _,?_⟩
  have hU:=ZdT hSI
  have lU:=ZaF (l:=up s)
  rw [hU.1] at lU
  have h8:=hs.n8
  have rU:=Zay (l:=up s)
  (have F:=@e0P;have NN:Zag 5:=trivial;refine gGn ?_;clear F NN)
  have hn1:=hs.n1
  have l00:0 < (nR (List.replicate s.names.length 0)).length:=by rw [ZaF,Tbr];omega
  refine pA 23 25 (fun hne=>?_) l00 l00
  have hn5:∀ p,(a5=a3∧p)=False:=fun p=>eq_false fun e=>hne e.1.symm
  (have F:=@lU;refine gG ?_;clear F)
  (have F:=@ZHL;refine gL (ι:=Nat) [6,7,9,30,31,36,37,38,39] [23,25] (fun i=>[(30,A.d (.one (.lit (.int .i64 i))))]) (fun i=>[(23,.buf (some (a3,c3)) 3 1 (nR (downs (up s) i (List.replicate s.names.length 0)))),(25,.buf (some (a5,c5)) 3 1 (nR (ZdV s.names.length i)))]) (fun i=>i<=s.names.length) (fun i=>s.names.length - i) (0) (Tai _) (fun i hi=>?_);clear F)
  have hDi:=UpOk.downs hU i (l:=List.replicate s.names.length 0) hi (UpOk.zeros _)
  have lK:=ZaF (l:=ZdV s.names.length i)
  rw [ZnK hi] at lK
  by_cases hlt:i < s.names.length
  ·have q1:(i:Int) < (s.names.length:Int):=by omega
   have hw:=Zap (k:=i) om
   obtain ⟨gi,bi⟩:=hU.get hlt
   have r1:=ZaH gi
   have p256:2 ^ s.names.length<=256:=Tbe (Tbt om h8) (by decide)
   have cL:=ZvX (a:=(up s).getD i 0) om
   have hdn:downs (up s) (i+1) (List.replicate s.names.length 0)=downIn i (downs (up s) i (List.replicate s.names.length 0)) (Zbq ((up s).getD i 0)):=rfl
   have hks:=Zje bi
   have lks:=ZaF (l:=Zbq ((up s).getD i 0))
   have rks:=Zay (l:=Zbq ((up s).getD i 0))
   have hks16:(Zbq ((up s).getD i 0)).length<=64:=Tbe (Zf8 _ _) (by decide)
   have hsh:=Zga (k:=i) om
   (have F:=ai @q1 (ai @lU (ai @r1 @rU));refine gG ?_;clear F)
   refine gB ?_
   (have F:=@e0P;refine gC (cL) ?_;clear F)
   (have F:=@lks;refine gR ?_;clear F)
   generalize Zbq ((up s).getD i 0)=ks at hdn hks lks rks hks16 ⊢
   generalize downs (up s) i (List.replicate s.names.length 0)=l at hdn hDi ⊢
   (have F:=@lks;refine gG ?_;clear F)
   (have F:=@ZG9;refine gL (ι:=Nat) [9,38,39] [23] (fun j=>[(38,A.d (.one (.lit (.int .i64 j))))]) (fun j=>[(23,.buf (some (a3,c3)) 3 1 (nR (downIn i l (ks.take j))))]) (fun j=>j<=ks.length) (fun j=>ks.length - j) (0) (Tai _) (fun j hj=>?_);clear F)
   by_cases hlj:j < ks.length
   ·have q2:(j:Int) < (ks.length:Int):=by omega
    have hwj:=Zap (k:=j) om
    obtain ⟨k,hk⟩:∃ k,ks[j]?=some k:=⟨_,Taa hlj⟩
    have hkn:=hks k (Tab hk)
    have r2:=ZaH hk
    have hst:=ZAf hk i l
    have hV:=UpOk.downIn hlt hDi (ks:=ks.take j) fun q hq=>hks q (List.mem_of_mem_take hq)
    generalize downIn i l (ks.take j)=v at hst hV ⊢
    obtain ⟨gk,bk⟩:=hV.get hkn
    have r3:=ZaH gk
    have l3:=ZaF (l:=v)
    rw [hV.1] at l3
    have l4:=Zay (l:=v)
    have l5:=Zcf (l:=v) k (v.getD k 0 ||| 2 ^ i)
    have p2:2 ^ i < 4611686018427387904:=ZgC om
    have hor:=Zc8 (a:=v.getD k 0) (b:=2 ^ i) om p2
    (have F:=ai @q2 (ai @r2 (ai @rks (ai @lks (ai @r3 (ai @l3 (ai @l4 (ai @l5 (ai @hsh (ai @hor (ai @hkn (ai @Zas (ai @hwj @hst))))))))))));refine gG ?_;exact ⟨j+1,hlj,gw,gw,by omega⟩)
   obtain rfl:j=ks.length:=by omega
   have q2:¬ ((ks.length:Int) < (ks.length:Int)):=by omega
   rw [Tao,<- hdn]
   have l6:=Zay (l:=ZdV s.names.length i)
   have l7:=Zcf (l:=ZdV s.names.length i) i i
   rw [Zz2 hlt] at l7
   obtain ⟨y,gy⟩:∃ y,(ZdV s.names.length i)[i]?=some y:=⟨_,Taa (by rw [ZnK hi];exact hlt)⟩
   have r5:=ZaH gy
   (have F:=ai @q2 (ai @hn5 (ai @lK (ai @l6 (ai @l7 (ai @r5 (ai @hlt (ai @hw @Zas)))))));refine gG ?_;exact ⟨i+1,hlt,gw,gw,by omega⟩)
  obtain rfl:i=s.names.length:=by omega
  have q1:¬ ((s.names.length:Int) < (s.names.length:Int)):=by omega
  rw [Zz3,show downs (up s) s.names.length (List.replicate s.names.length 0)=down s from rfl]
  clear hDi lK
  have hK:=KOk.start s.names.length
  (have F:=@q1;refine gG ?_;clear F)
  (have F:=@ZuF;refine gL (ι:=Nat) [11,12,62,63,65,66,67,68] [25] (fun j=>[(62,A.d (.one (.lit (.int .i64 j))))]) (fun j=>[(25,.buf (some (a5,c5)) 3 1 (nR (Zct s.subs j (List.range s.names.length))))]) (fun j=>j<=s.names.length) (fun j=>s.names.length - j) (0) (Tai _) (fun j hj=>?_);clear F)
  have hKj:=KOk.iter hSI j hK
  have l0:=ZaF (l:=Zct s.subs j (List.range s.names.length))
  rw [hKj.1] at l0
  by_cases hlj:j < s.names.length
  rotate_left
  ·obtain rfl:j=s.names.length:=by omega
   have q2:¬ ((s.names.length:Int) < (s.names.length:Int)):=by omega
   rw [show Zct s.subs s.names.length (List.range s.names.length)=kinds s from rfl]
   (have F:=@q2;have NN:Zag 25:=trivial;refine gGn ?_;clear F NN)
   have lD:=ZaF (l:=down s)
   rw [(ZmV hSI).1] at lD
   have lK:=ZaF (l:=kinds s)
   rw [(Zib hSI).1] at lK
   refine pD 23 [] [5] ?_ (hr:=by simp only [pz,↓reduceIte,Nat.reduceEqDiff,Nat.reduceAdd,Nat.reduceSub,Nat.reduceMul,Nat.reduceLeDiff,Nat.reduceBEq,Tal,decide_true,decide_false,Int.reduceLE,Int.reduceToNat,Int.reduceLT,Int.reduceEq,eq_self,Nat.reduceShiftRight,Nat.reduceAnd,Nat.reduceBneDiff,lD,hn5,if_false];exact rfl)
   refine pD 25 [] [5] ?_ (hr:=by simp only [pz,↓reduceIte,Nat.reduceEqDiff,Nat.reduceAdd,Nat.reduceSub,Nat.reduceMul,Nat.reduceLeDiff,Nat.reduceBEq,Tal,decide_true,decide_false,Int.reduceLE,Int.reduceToNat,Int.reduceLT,Int.reduceEq,eq_self,Nat.reduceShiftRight,Nat.reduceAnd,Nat.reduceBneDiff,lK,hn5,if_false];exact rfl)
   (have F:=@Zid;refine gG ?_;exact gTd)
  have q2:(j:Int) < (s.names.length:Int):=by omega
  have hwj:=Zap (k:=j) om
  have hnx:Zct s.subs (j+1) (List.range s.names.length)=s.subs.foldl kSub (Zct s.subs j (List.range s.names.length)):=rfl
  generalize Zct s.subs j (List.range s.names.length)=u at hKj hnx l0 ⊢
  (have F:=ai @l0 @q2;refine gG ?_;clear F)
  have hm16:=hs.m16
  (have F:=@Zz7;refine gL (ι:=Nat) [11,12,67,68] [25] (fun i=>[(67,A.d (.one (.lit (.int .i64 i))))]) (fun i=>[(25,.buf (some (a5,c5)) 3 1 (nR ((s.subs.take i).foldl kSub u)))]) (fun i=>i<=s.subs.length) (fun i=>s.subs.length - i) (0) (Tai _) (fun i hi=>?_);clear F)
  by_cases hli:i < s.subs.length
  rotate_left
  ·obtain rfl:i=s.subs.length:=by omega
   have q3:¬ ((s.subs.length:Int) < (s.subs.length:Int)):=by omega
   rw [Tao,<- hnx]
   (have F:=ai @q3 @hwj;refine gG ?_;exact ⟨j+1,hlj,gw,gw,by omega⟩)
  have q3:(i:Int) < (s.subs.length:Int):=by omega
  have hwi:=Zap (k:=i) om
  obtain ⟨p,hp⟩:∃ p,s.subs[i]?=some p:=⟨_,Taa hli⟩
  have hps:=hSI p (Tab hp)
  have hst:=ZnO hp u
  have hUi:=KOk.foldl hKj (hSI.take i)
  generalize (s.subs.take i).foldl kSub u=v at hUi hst ⊢
  obtain ⟨g1,b1⟩:=hUi.get (i:=p.1.toNat) om
  obtain ⟨g2,b2⟩:=hUi.get (i:=p.2.toNat) om
  have l1:=ZaH g1
  have l2:=ZaH g2
  have l3:=ZaF (l:=v)
  rw [hUi.1] at l3
  have l4:=Zay (l:=v)
  have hmin:(if (v.getD p.2.toNat 0:Int) < (v.getD p.1.toNat 0:Int) then (v.getD p.2.toNat 0:Int) else (v.getD p.1.toNat 0:Int))=((min (v.getD p.1.toNat 0) (v.getD p.2.toNat 0):Nat):Int):=by
   split <;> omega
  generalize hmn:min (v.getD p.1.toNat 0) (v.getD p.2.toNat 0)=mn at hmin hst
  have l5:=Zcf (l:=v) p.1.toNat mn
  have l6:=Zcf (l:=v.set p.1.toNat mn) p.2.toNat mn
  have l7:=ZaF (l:=v.set p.1.toNat mn)
  rw [Tay,hUi.1] at l7
  have l8:=Zay (l:=v.set p.1.toNat mn)
  obtain ⟨x9,g9⟩:∃ x,(v.set p.1.toNat mn)[p.2.toNat]?=some x:=⟨_,Taa (by rw [Tay,hUi.1];omega)⟩
  have l9:=ZaH g9
  have i1:0<=p.1:=hps.1
  have i2:0<=p.2:=hps.2.2.1
  have i3:p.1.toNat < s.names.length:=by omega
  have i4:p.2.toNat < s.names.length:=by omega
  have hst:(s.subs.take (i+1)).foldl kSub u=(v.set p.1.toNat mn).set p.2.toNat mn:=by rw [hst];unfold kSub;rw [hmn]
  (have F:=ai @q3 (ai @hp (ai @Zce (ai @hn5 (ai @l1 (ai @l2 (ai @l3 (ai @l4 (ai @l5 (ai @l6 (ai @l7 (ai @l8 (ai @l9 (ai @i1 (ai @i2 (ai @i3 (ai @i4 (ai @hmin (ai @hwi @hst))))))))))))))))));refine gG ?_;exact ⟨i+1,hli,gw,gw,by omega⟩)
 ·intro _
  refine (have F:=ai g1 k1;gO3 ?_)
  exact ⟨hB.slot rfl,⟨(fun _=>(none,0),.sl [],.sl [],.sl []),by simp [ordS,gs,Za6],by simp [ordM]⟩,PG.slot (by intro j h1 h2 x;rcases j with _ | _ | _ | _ | _ | _ | _ | _ | _ | j <;> first | rfl | exact absurd rfl h1 | exact absurd (by decide) h2)⟩
 ·intro hP
  obtain ⟨f,h0,_⟩:=hP 0 (by decide)
  have g20:gs s' 20=.d (.agg (Za6 s)):=h0 (_,_) (by simp [ordS])
  refine (have F:=g20;gC cA ?_)
  refine Zb1 ?_
  exact ⟨hB.slot rfl,⟨(fun _=>(none,0),.sl [],.sl [],.sl []),by simp [ordS,gs],by simp [ordM]⟩,PG.slot (by intro j h1 h2 x;rcases j with _ | _ | _ | _ | _ | _ | _ | _ | _ | j <;> first | rfl | exact absurd rfl h1 | exact absurd (by decide) h2)⟩
 ·intro _
  refine (have F:=g4;gO3 ?_)
  exact ⟨hB.slot rfl,⟨(fun _=>(none,0),.sl [],.sl [],.sl []),by simp [ordS,gs],by simp [ordM]⟩,PG.slot (by intro j h1 h2 x;rcases j with _ | _ | _ | _ | _ | _ | _ | _ | _ | j <;> first | rfl | exact absurd rfl h1 | exact absurd (by decide) h2)⟩
 ·intro hP
  obtain ⟨f,h0,_⟩:=hP 2 (by decide)
  have g22:gs s' 22=.d (.one (.lit (.int .i64 s.names.length))):=h0 (_,_) (by simp [ordS])
  refine (have F:=ai g22 (ai hmx (ai @Tbz @ZmW));gP 1 ?_)
  refine gS 23 fun a cap=>?_
  refine Zb1 ?_
  exact ⟨hB.pin rfl,⟨(fun _=>(a,cap),.sl [],.sl [],.sl []),by simp [ordS,gs],by simp [ordM,gm,nR_0]⟩,PG.pin (by intro j h1 h2 x;rcases j with _ | _ | _ | _ | _ | _ | _ | _ | _ | j <;> first | rfl | exact absurd rfl h1 | exact absurd (by decide) h2)⟩
 ·intro _
  refine (have F:=g4;gO3 ?_)
  exact ⟨hB.slot rfl,⟨(fun _=>(none,0),.sl [],.sl [],.sl []),by simp [ordS,gs],by simp [ordM]⟩,PG.slot (by intro j h1 h2 x;rcases j with _ | _ | _ | _ | _ | _ | _ | _ | _ | j <;> first | rfl | exact absurd rfl h1 | exact absurd (by decide) h2)⟩
 ·intro hP
  obtain ⟨f,h0,_⟩:=hP 4 (by decide)
  have g24:gs s' 24=.d (.one (.lit (.int .i64 s.names.length))):=h0 (_,_) (by simp [ordS])
  refine (have F:=ai g24 (ai hmx (ai @Tbz @ZmW));gP 1 ?_)
  refine gS 25 fun a cap=>?_
  refine Zb1 ?_
  exact ⟨hB.pin rfl,⟨(fun _=>(a,cap),.sl [],.sl [],.sl []),by simp [ordS,gs],by simp [ordM,gm,nR_0]⟩,PG.pin (by intro j h1 h2 x;rcases j with _ | _ | _ | _ | _ | _ | _ | _ | _ | j <;> first | rfl | exact absurd rfl h1 | exact absurd (by decide) h2)⟩
 ·intro hP
  obtain ⟨f1,h1,_⟩:=hP 1 (by decide)
  obtain ⟨f3,h3,h3'⟩:=hP 3 (by decide)
  obtain ⟨f5,h5,h5'⟩:=hP 5 (by decide)
  have g21:gs s' 21=.d (.one (.sl (nR (up s)))):=h1 (_,_) (by simp [ordS])
  have g23:gs s' 23=.d (.one (.lit (.slice (f3.1 23).1 s.names.length (f3.1 23).2))):=h3 (_,_) (by simp [ordS])
  have g25:gs s' 25=.d (.one (.lit (.slice (f5.1 25).1 s.names.length (f5.1 25).2))):=h5 (_,_) (by simp [ordS])
  have k23:=h3' (23,_) (by simp [ordM];rfl)
  have k25:=h5' (25,_) (by simp [ordM];rfl)
  refine (have F:=ai g21 (ai g23 g25);gO3 ?_)
  exact ⟨hB.slot rfl,⟨(fun k=>if k=23 then f3.1 23 else f5.1 25,.sl [],.sl [],.sl []),by simp [ordS,gs],by simp [ordM];exact ⟨k23,k25⟩⟩,PG.slot (by intro j h1 h2 x;rcases j with _ | _ | _ | _ | _ | _ | _ | _ | _ | j <;> first | rfl | exact absurd rfl h1 | exact absurd (by decide) h2)⟩
 ·intro _
  refine (have F:=g4;gO3 ?_)
  exact ⟨hB.born rfl,⟨(fun _=>(none,0),.sl [],.sl [],.sl []),by simp [ordS,gs],by simp [ordM,gm]⟩,PG.born (by intro j h1 h2 x;rcases j with _ | _ | _ | _ | _ | _ | _ | _ | _ | j <;> first | rfl | exact absurd rfl h1 | exact absurd (by decide) h2)⟩
 ·intro hP
  obtain ⟨f6,h6,h6'⟩:=hP 6 (by decide)
  obtain ⟨f7,h7,h7'⟩:=hP 7 (by decide)
  have g26:gs s' 26=.d (.agg [.sl (nR (up s)),.lit (.slice (f6.1 23).1 s.names.length (f6.1 23).2),.lit (.slice (f6.1 25).1 s.names.length (f6.1 25).2)]):=h6 (_,_) (by simp [ordS])
  have g5:gs s' 5=.ref 5 0:=h7 (_,_) (by simp [ordS])
  have k5:gm m' 5=some (.var none [f7.2.1,f7.2.2.1,f7.2.2.2]):=h7' (_,_) (by simp [ordM])
  have k23:=h6' (23,_) (by simp [ordM];rfl)
  have k25:=h6' (25,_) (by simp [ordM];rfl)
  refine (have F:=ai g26 (ai g5 k5);gO3 ?_)
  refine ⟨hB.own rfl,⟨f6,by simp [ordS,g5],by simp [ordM,gm,Za7];exact ⟨k23,k25⟩⟩,?_⟩
  intro j q1 q2 ⟨x,q⟩
  rcases j with _ | _ | _ | _ | _ | _ | _ | _ | _ | j
  all_goals first
   | exact ⟨x,q.own rfl⟩
   | exact absurd rfl q1
   | exact ⟨(fun _=>(none,0),.sl (nR (up s)),.lit (.slice (f6.1 23).1 s.names.length (f6.1 23).2),.lit (.slice (f6.1 25).1 s.names.length (f6.1 25).2)),by simp [ordS,g5],by simp [ordM,gm]⟩
end
section
variable {g:Sgn}
theorem Zr2 {k:Nat} {o:Opr} (h:g.ops[k]?=some o):Zdr (ZbB (g.ops.take k))++[(o.name,.bool true)]=Zdr (ZbB (g.ops.take (k+1))):=by
 rw [Zjg h,Zdr,Zdr,Tbw]
 rfl
theorem Zr3 {l:List Opr} {i k m:Nat} (h:i=k+m) {s:ByteArray} (hs:Zbl (ZbB (l.take k)) s=true):Zbl (ZbB (l.take i)) s=true:=by
 subst h
 rw [List.take_add,ZbB,Tbw]
 unfold Zbl at hs ⊢
 rw [List.any_append]
 rw [ZbB] at hs
 rw [hs,Bool.true_or]
theorem ZB2 (l:List Opr):Zdr (ZbB (l.take 0))=[]∧Zdr (ZbB [])=[]:=⟨rfl,rfl⟩
theorem Zkt (hg:Zdq g):Con e0 103 [.agg (Zav g)] [.one (.lit (.bool (Zcb g)))]:=by
 have hno:¬ SgnOk g->Zcb g=false:=Zhu
 rw [Zav]
 refine gI 9358620764179268287 Tryz.func103 ?_
 by_cases hs:SortsOk g.sorts
 rotate_left
 ·have cO:=ZkV hg.1 hs
  have hf:=hno fun h=>hs h.sorts
  rw [Za6] at cO
  (have F:=@e0P;refine gG ?_;clear F)
  refine gB ?_
  (have F:=@e0P;refine gC (cO) ?_;clear F)
  (have F:=@e0P;refine gR ?_;clear F)
  (have F:=@hf;refine gG ?_;exact gT)
 have cO:=Zjj hg.1 hs
 rw [Za6] at cO
 (have F:=@e0P;refine gG ?_;clear F)
 refine gB ?_
 (have F:=@e0P;refine gC (cO) ?_;clear F)
 (have F:=@Zid;refine gR ?_;clear F)
 by_cases h14:g.ops.length<=14
 rotate_left
 ·have z1:((14:Int) < (g.ops.length:Int))=True:=eq_true om
  have hf:=hno fun h=>h14 h.len
  (have F:=ai @z1 @hf;refine gG ?_;exact gT)
 have z1:((14:Int) < (g.ops.length:Int))=False:=eq_false om
 (have F:=@z1;have NN:Zag 4:=trivial;refine gGn ?_;clear F NN)
 refine gB ?_
 refine gMk fun b=>?_
 (have F:=@e0P;refine gR ?_;clear F)
 (have F:=@e0P;refine gG ?_;clear F)
 (have F:=((ZB2 g.ops));refine gL (ι:=Nat) [2,7,28,29,47] [24] (fun i=>[(28,A.d (.one (.lit (.int .i64 i))))]) (fun i=>[(24,mapB b (Zdr (ZbB (g.ops.take i))))]) (fun i=>i<=g.ops.length∧(∀ (j:Nat) (o:Opr),j < i->g.ops[j]?=some o->Zbm o.name=true∧Zbl (ZbB (g.ops.take j)) o.name=false)∧(∀ o∈g.ops.take i,DeclsOk g.sorts o)) (fun i=>g.ops.length - i) (0) (⟨Tai _,fun j o h=>absurd h om,fun o h=>by simp at h⟩) (fun i hi=>?_);clear F)
 obtain ⟨hil,hnm,hdc⟩:=hi
 by_cases hlt:i < g.ops.length
 ·have q1:(i:Int) < (g.ops.length:Int):=by omega
  obtain ⟨o,ho⟩:∃ o,g.ops[i]?=some o:=⟨_,Taa hlt⟩
  have hom:=Tab ho
  have hw:=Zap (k:=i) om
  have hfs:=ZlT (ZbB (g.ops.take i)) o.name
  have hbad:¬ (Zbm o.name=true∧Zbl (ZbB (g.ops.take i)) o.name=false)->Zcb g=false:=fun h=>hno fun hs=>h (hs.names i o ho)
  have hbad2:Zcj g.sorts o=false->Zcb g=false:=fun h=>hno fun hs=>by rw [ZeY (hs.decls o hom)] at h;cases h
  have cN:=ZgE (hg.2 o hom).1
  have cD:=ZoE hs o
  rw [ZbK,Zd7] at cD
  (have F:=ai @q1 (ai @ho @Zaj);have NN:Zag 8:=trivial;refine gGn ?_;clear F NN)
  refine gB ?_
  (have F:=@e0P;refine gP 3 ?_;clear F)
  cases hh:Zbl (ZbB (g.ops.take i)) o.name with
  | true =>
   rw [hh] at hfs hbad
   have hf:=hbad fun h=>by cases h.2
   refine (have F:=e0P;gLk 24 Zgm ZdK ZjZ (v:=.bool true) (by rw [hfs];rfl) ?_)
   (have F:=@e0P;refine gR ?_;clear F)
   (have F:=@hf;refine gG ?_;exact gT)
  | false =>
  rw [hh] at hfs hbad
  refine (have F:=e0P;gLk 24 Zgm ZdK ZjZ (v:=.bool false) (by rw [hfs];rfl) ?_)
  (have F:=@e0P;refine gC (cN) ?_;clear F)
  cases hn:Zbm o.name with
  | false =>
   have hf:=hbad fun h=>by rw [hn] at h;cases h.1
   (have F:=@e0P;refine gR ?_;clear F)
   (have F:=@hf;refine gG ?_;exact gT)
  | true =>
  (have F:=@Zid;refine gC (cD) ?_;clear F)
  cases hd:Zcj g.sorts o with
  | false =>
   have hf:=hbad2 hd
   (have F:=@e0P;refine gR ?_;clear F)
   (have F:=@hf;refine gG ?_;exact gT)
  | true =>
  have hq:i+1<=g.ops.length∧(∀ (j:Nat) (o:Opr),j < i+1->g.ops[j]?=some o->Zbm o.name=true∧Zbl (ZbB (g.ops.take j)) o.name=false)∧(∀ o∈g.ops.take (i+1),DeclsOk g.sorts o):=⟨hlt,fun j o' hj ho'=>by
   by_cases e:j=i
   ·subst e
    rw [ho] at ho'
    injection ho' with ho'
    subst ho'
    exact ⟨hn,hh⟩
   ·exact hnm j o' om ho',fun o' ho'=>by
   rw [Zcu ho] at ho'
   rcases Tbh.1 ho' with h | h
   ·exact hdc o' h
   ·rw [Tbj.1 h];exact Zkq.1 hd⟩
  have hsn:=Zr2 ho
  (have F:=@e0P;refine gR ?_;clear F)
  (have F:=@e0P;have NN:Zag 10:=trivial;refine gGn ?_;clear F NN)
  refine gB ?_
  (have F:=@e0P;refine gP 3 ?_;clear F)
  refine (have F:=e0P;gUp 24 Zgm ZdK (by rw [hfs];rfl) ?_)
  rw [hsn]
  (have F:=@e0P;refine gR ?_;clear F)
  (have F:=@hw;refine gG ?_;exact ⟨i+1,hq,gw,gw,by omega⟩)
 obtain rfl:i=g.ops.length:=by omega
 have q1:¬ ((g.ops.length:Int) < (g.ops.length:Int)):=by omega
 rw [Tao] at hdc
 have hnames:∀ (i:Nat) (o:Opr),g.ops[i]?=some o->Zbm o.name=true∧Zbl (ZbB (g.ops.take i)) o.name=false:=fun i o ho=>hnm i o (Tac.1 ho).1 ho
 (have F:=@q1;refine gG ?_;clear F)
 (have F:=@e0P;refine gL (ι:=Nat) [2,9,55,56,63] [] (fun k=>[(55,A.d (.one (.lit (.int .i64 k))))]) (fun k=>[]) (fun k=>k<=g.ops.length∧∀ o∈g.ops.take k,AxOk g o) (fun k=>g.ops.length - k) (0) (⟨Tai _,fun o h=>by simp at h⟩) (fun k hk=>?_);clear F)
 obtain ⟨hkl,hax⟩:=hk
 by_cases hlk:k < g.ops.length
 rotate_left
 ·obtain rfl:k=g.ops.length:=by omega
  rw [Tao] at hax
  have q2:¬ ((g.ops.length:Int) < (g.ops.length:Int)):=by omega
  have ht:=Zf9 ⟨hs,h14,hnames,hdc,hax⟩
  (have F:=ai @q2 @ht;refine gG ?_;exact gT)
 have q2:(k:Int) < (g.ops.length:Int):=by omega
 obtain ⟨o,ho⟩:∃ o,g.ops[k]?=some o:=⟨_,Taa hlk⟩
 have hom:=Tab ho
 have hw:=Zap (k:=k) om
 have cA:=ZmX hs hdc hom h14
 rw [ZbK,Zd7,Zav] at cA
 (have F:=ai @q2 (ai @ho @Zaj);refine gG ?_;clear F)
 refine gB ?_
 (have F:=@Zid;refine gC (cA) ?_;clear F)
 cases ha:axOk g o with
 | false =>
  have hf:=hno fun h=>by rw [Zdx (h.axs o hom)] at ha;cases ha
  (have F:=@e0P;refine gR ?_;clear F)
  (have F:=@hf;refine gG ?_;exact gT)
 | true =>
 have hq:k+1<=g.ops.length∧∀ o∈g.ops.take (k+1),AxOk g o:=⟨hlk,fun o' ho'=>by
  rw [Zcu ho] at ho'
  rcases Tbh.1 ho' with h | h
  ·exact hax o' h
  ·rw [Tbj.1 h];exact Zp3.1 ha⟩
 (have F:=@e0P;refine gR ?_;clear F)
 (have F:=@hw;refine gG ?_;exact ⟨k+1,hq,gw,gw,by omega⟩)
theorem Zku (hg:Zdq g):Con e0 94 [.agg (Zav g)] [.one (.lit (.bool (Zcb g)))]:=by
 have hno:¬ SgnOk g->Zcb g=false:=Zhu
 have cS:=ZiF hg.1
 rw [Za6] at cS
 rw [Zav]
 refine gI 599807422667317870655 Tryz.func94 ?_
 (have F:=@e0P;refine gG ?_;clear F)
 refine gB ?_
 (have F:=@e0P;refine gC (cS) ?_;clear F)
 cases hss:ZbZ g.sorts with
 | false =>
  have hf:=hno fun h=>by rw [Zd6 h.sorts] at hss;cases hss
  (have F:=@e0P;refine gR ?_;clear F)
  (have F:=@hf;refine gG ?_;exact gT)
 | true =>
 have hs:=ZrV.1 hss
 by_cases h14:g.ops.length<=14
 rotate_left
 ·have z1:((14:Int) < (g.ops.length:Int))=True:=eq_true om
  have hf:=hno fun h=>h14 h.len
  (have F:=@z1;refine gR ?_;clear F)
  (have F:=@hf;refine gG ?_;exact gT)
 have z1:((14:Int) < (g.ops.length:Int))=False:=eq_false om
 (have F:=@z1;refine gR ?_;clear F)
 (have F:=@e0P;refine gG ?_;clear F)
 (have F:=@e0P;refine gL (ι:=Nat) [2,3,4,20,40,43,58] [] (fun i=>[(3,A.d (.one (.lit (.int .i64 i))))]) (fun i=>[]) (fun i=>i<=g.ops.length∧(∀ (j:Nat) (o:Opr),j < i->g.ops[j]?=some o->Zbm o.name=true∧Zbl (ZbB (g.ops.take j)) o.name=false)∧(∀ o∈g.ops.take i,DeclsOk g.sorts o)) (fun i=>g.ops.length - i) (0) (⟨Tai _,fun j o h=>absurd h om,fun o h=>by simp at h⟩) (fun i hi=>?_);clear F)
 obtain ⟨hil,hnm,hdc⟩:=hi
 by_cases hlt:i < g.ops.length
 ·have q1:(i:Int) < (g.ops.length:Int):=by omega
  obtain ⟨o,ho⟩:∃ o,g.ops[i]?=some o:=⟨_,Taa hlt⟩
  have hom:=Tab ho
  have hw:=Zap (k:=i) om
  have hbad:¬ (Zbm o.name=true∧Zbl (ZbB (g.ops.take i)) o.name=false)->Zcb g=false:=fun h=>hno fun hs=>h (hs.names i o ho)
  have hbad2:Zcj g.sorts o=false->Zcb g=false:=fun h=>hno fun hs=>by rw [ZeY (hs.decls o hom)] at h;cases h
  have cN:=ZgF (hg.2 o hom).1
  have cD:=Zr0 (g:=g) hs o
  rw [ZbK,Zav] at cD
  (have F:=@q1;refine gG ?_;clear F)
  refine gB ?_
  (have F:=ai @ho @Zaj;refine gC (cN) ?_;clear F)
  cases hn:Zbm o.name with
  | false =>
   have hf:=hbad fun h=>by rw [hn] at h;cases h.1
   (have F:=@e0P;refine gR ?_;clear F)
   (have F:=@hf;refine gG ?_;exact gT)
  | true =>
  (have F:=ai @ho @Zaj;refine gC (cD) ?_;clear F)
  cases hd:Zcj g.sorts o with
  | false =>
   have hf:=hbad2 hd
   (have F:=@e0P;refine gR ?_;clear F)
   (have F:=@hf;refine gG ?_;exact gT)
  | true =>
  (have F:=@e0P;refine gR ?_;clear F)
  (have F:=@e0P;refine gG ?_;clear F)
  (have F:=@e0P;refine gL (ι:=Nat) [2,4,43,58] [] (fun k=>[(4,A.d (.one (.lit (.int .i64 k))))]) (fun k=>[]) (fun k=>k<=i∧Zbl (ZbB (g.ops.take k)) o.name=false) (fun k=>i - k) (0) (⟨Tai _,rfl⟩) (fun k hk=>?_);clear F)
  obtain ⟨hkl,hseen⟩:=hk
  by_cases hlk:k < i
  ·have q2:(k:Int) < (i:Int):=by omega
   obtain ⟨p,hp⟩:∃ o,g.ops[k]?=some o:=⟨_,Taa om⟩
   have hw2:=Zap (k:=k) om
   have hsn:=ZrX (ZbB (g.ops.take k)) p.name o.name
   rw [hseen,Bool.false_or,ZuC,<- Zjg hp] at hsn
   cases hb:(p.name.toList==o.name.toList) with
   | true =>
    rw [hb] at hsn
    have hbp:(p.name.toList==o.name.toList)=true:=hb
    have hf:=hbad fun h=>by
     obtain ⟨m,hm⟩:∃ m,i=k+1+m:=⟨i - (k+1),by omega⟩
     have h2:=h.2
     rw [Zr3 hm hsn] at h2
     cases h2
    (have F:=ai @q2 (ai @ho (ai @hp (ai @Zaj (ai @hb @hf))));refine gG ?_;exact gT)
   | false =>
    rw [hb] at hsn
    (have F:=ai @q2 (ai @ho (ai @hp (ai @Zaj (ai @hb @hw2))));refine gG ?_;exact ⟨k+1,⟨hlk,hsn⟩,gw,gw,by omega⟩)
  obtain rfl:k=i:=by omega
  have q2:((k:Int) < (k:Int))=False:=eq_false om
  have hq:k+1<=g.ops.length∧(∀ (j:Nat) (o:Opr),j < k+1->g.ops[j]?=some o->Zbm o.name=true∧Zbl (ZbB (g.ops.take j)) o.name=false)∧(∀ o∈g.ops.take (k+1),DeclsOk g.sorts o):=⟨hlt,fun j o' hj ho'=>by
   by_cases e:j=k
   ·subst e
    rw [ho] at ho'
    injection ho' with ho'
    subst ho'
    exact ⟨hn,hseen⟩
   ·exact hnm j o' om ho',fun o' ho'=>by
   rw [Zcu ho] at ho'
   rcases Tbh.1 ho' with h | h
   ·exact hdc o' h
   ·rw [Tbj.1 h];exact Zkq.1 hd⟩
  (have F:=ai @q2 @hw;refine gG ?_;exact ⟨k+1,hq,gw,gw,by omega⟩)
 obtain rfl:i=g.ops.length:=by omega
 have q1:¬ ((g.ops.length:Int) < (g.ops.length:Int)):=by omega
 rw [Tao] at hdc
 have hnames:∀ (i:Nat) (o:Opr),g.ops[i]?=some o->Zbm o.name=true∧Zbl (ZbB (g.ops.take i)) o.name=false:=fun i o ho=>hnm i o (Tac.1 ho).1 ho
 (have F:=@q1;refine gG ?_;clear F)
 (have F:=@e0P;refine gL (ι:=Nat) [2,5,63,69] [] (fun k=>[(5,A.d (.one (.lit (.int .i64 k))))]) (fun k=>[]) (fun k=>k<=g.ops.length∧∀ o∈g.ops.take k,AxOk g o) (fun k=>g.ops.length - k) (0) (⟨Tai _,fun o h=>by simp at h⟩) (fun k hk=>?_);clear F)
 obtain ⟨hkl,hax⟩:=hk
 by_cases hlk:k < g.ops.length
 rotate_left
 ·obtain rfl:k=g.ops.length:=by omega
  rw [Tao] at hax
  have q2:¬ ((g.ops.length:Int) < (g.ops.length:Int)):=by omega
  have ht:=Zf9 ⟨hs,h14,hnames,hdc,hax⟩
  (have F:=ai @q2 @ht;refine gG ?_;exact gT)
 have q2:(k:Int) < (g.ops.length:Int):=by omega
 obtain ⟨o,ho⟩:∃ o,g.ops[k]?=some o:=⟨_,Taa hlk⟩
 have hom:=Tab ho
 have hw:=Zap (k:=k) om
 have cA:=Zqb hs hdc ho h14
 rw [Zav] at cA
 (have F:=@q2;refine gG ?_;clear F)
 refine gB ?_
 (have F:=@e0P;refine gC (cA) ?_;clear F)
 cases ha:axOk g o with
 | false =>
  have hf:=hno fun h=>by rw [Zdx (h.axs o hom)] at ha;cases ha
  (have F:=@e0P;refine gR ?_;clear F)
  (have F:=@hf;refine gG ?_;exact gT)
 | true =>
 have hq:k+1<=g.ops.length∧∀ o∈g.ops.take (k+1),AxOk g o:=⟨hlk,fun o' ho'=>by
  rw [Zcu ho] at ho'
  rcases Tbh.1 ho' with h | h
  ·exact hax o' h
  ·rw [Tbj.1 h];exact Zp3.1 ha⟩
 (have F:=@e0P;refine gR ?_;clear F)
 (have F:=@hw;refine gG ?_;exact ⟨k+1,hq,gw,gw,by omega⟩)
end
theorem Zeh (s:ByteArray):(s.toList==ByteArray.toList { data:=#[] })=decide (s=ByteArray.empty):=by
 rw [Bool.eq_iff_iff,beq_iff_eq,decide_eq_true_iff,ByteArray.toList_eq,ByteArray.toList_eq]
 constructor
 ·intro h
  cases s with
  | mk d =>
   have:d=#[]:=by apply Array.toList_inj.1;exact h
   rw [this];rfl
 ·rintro rfl;rfl
def encX (g:Sgn) (mc:C):List C:=[.sl ((ZbU (up g.sorts)).map ZbQ),.sl ((ZbU (down g.sorts)).map ZbQ),.sl ((ZbU (kinds g.sorts)).map ZbQ),.sl (g.sorts.names.map ZcH),.sl (g.sorts.subs.map Zc1),.sl (g.ops.map ZbK),mc]
theorem Zbd:∀ (g:Sgn) (mc:C),encX g mc=[.sl ((ZbU (up g.sorts)).map ZbQ),.sl ((ZbU (down g.sorts)).map ZbQ),.sl ((ZbU (kinds g.sorts)).map ZbQ),.sl (g.sorts.names.map ZcH),.sl (g.sorts.subs.map Zc1),.sl (g.ops.map ZbK),mc]:=fun _ _=>rfl
theorem Zqf {s:Srt} (h:SortsOk s):(up s).length=s.names.length:=(ZdT (SortsOk.subsIn h.subs)).1
theorem ZgI {s:Srt} (h:SortsOk s) {k:Int} (h0:0<=k) (h1:k < s.names.length):(ZbU (kinds s))[k.toNat]?=some ((kd s k:Nat):Int):=by
 have hk:=Zib (SortsOk.subsIn h.subs)
 have hl:k.toNat < (kinds s).length:=by rw [hk.1];omega
 unfold ZbU kd
 rw [Taz,Taa hl]
 simp [List.getD,Taa hl]
def ZbI (g:Sgn) (t:Tm):Prop:=t.op=-1∧Zbm t.name=true∧0<=t.sort∧t.sort < g.sorts.names.length∧t.args=[]
open Classical in
noncomputable def Zie (g:Sgn) (t:Tm):Bool:=decide (ZbI g t)
structure AppOk (g:Sgn) (t:Tm) (o:Opr) (d:Dcl):Prop where
 lo:0<=t.op
 at':g.ops[t.op.toNat]?=some o
 fst:o.decls[0]?=some d
 nm:t.name=ByteArray.empty
 so:t.sort=0
 asc:o.assoc=true->2<=t.args.length∧t.args.length<=7
 nas:o.assoc=false->t.args.length=d.args.length
def ZcI (g:Sgn) (t:Tm):Prop:=ZbI g t∨∃ o d,AppOk g t o d
def Zv2 (g:Sgn) (op:Int):Int:=((g.ops[op.toNat]?.bind (·.decls[0]?)).map (·.res)).getD 0
def ZaS (g:Sgn) (t:Tm):Int:=if t.op=-1 then kd g.sorts t.sort else kd g.sorts (Zv2 g t.op)
def argAt (o:Opr) (i:Nat):Nat:=if o.assoc=true then 0 else i
theorem Zj3:∀ (o:Opr) (i:Nat),argAt o i=if o.assoc=true then 0 else i:=fun _ _=>rfl
structure ArgOk (g:Sgn) (op:Int) (o:Opr) (d:Dcl) (args:List Tm) (i:Nat) (a:Tm):Prop where
 kind:∀ k,d.args[argAt o i]?=some k->ZaS g a=kd g.sorts k
 nest:o.assoc=true->a.op≠op
 unit:o.unit≠0->a.op≠o.unit - 1
 ord:o.comm=true->∀ (j:Nat) p,i=j+1->args[j]?=some p->Zak p a<=0
def ZhN (g:Sgn) (op:Int) (args:List Tm):Prop:=∀ o d,g.ops[op.toNat]?=some o->o.decls[0]?=some d->∀ (i:Nat) a,args[i]?=some a->ArgOk g op o d args i a
mutual
def ZaO (g:Sgn):Tm->Prop
 | .mk op nm so args=>ZcI g (.mk op nm so args)∧ZcD g args∧(op=-1∨ZhN g op args)
def ZcD (g:Sgn):List Tm->Prop
 | []=>True
 | t::ts=>ZaO g t∧ZcD g ts
end
theorem Zhv {g:Sgn} {ts:List Tm}:ZcD g ts ↔ ∀ a∈ts,ZaO g a:=by
 induction ts with
 | nil=>simp [ZcD]
 | cons t ts ih=>simp [ZcD,ih]
theorem Zbh {g:Sgn} {t:Tm}:ZaO g t ↔ ZcI g t∧(∀ a∈t.args,ZaO g a)∧(t.op=-1∨ZhN g t.op t.args):=by
 cases t
 simp only [ZaO,Zhv,Tm.args,Tm.op]
theorem ZaO.node {g:Sgn} {t:Tm} (h:ZaO g t):ZcI g t:=(Zbh.1 h).1
open Classical in
noncomputable def ZbT (g:Sgn) (t:Tm):Bool:=decide (ZaO g t)
theorem Zfz {g:Sgn} {t:Tm} (h:ZaO g t):ZbT g t=true:=by simp [ZbT,h]
theorem Zjk {g:Sgn} {t:Tm} (h:¬ ZaO g t):ZbT g t=false:=by simp [ZbT,h]
theorem Zgc {g:Sgn} {t:Tm}:ZbT g t=true ↔ ZaO g t:=by simp [ZbT]
theorem SgnOk.first {g:Sgn} (h:SgnOk g) {i:Nat} {o:Opr} (ho:g.ops[i]?=some o):∃ d,o.decls[0]?=some d∧(0:Int)<=d.res∧d.res < (g.sorts.names.length:Int)∧∀ k:Int,k∈d.args->0<=k∧k < (g.sorts.names.length:Int):=by
 have hm:=Tab ho
 obtain ⟨d,hd,hD⟩:=(h.decls o hm).first
 exact ⟨d,hd,hD.res.1,hD.res.2,hD.args⟩
theorem Zif {g:Sgn} {op:Int} {o:Opr} {d:Dcl} (ho:g.ops[op.toNat]?=some o) (hd:o.decls[0]?=some d):Zv2 g op=d.res:=by simp [Zv2,ho,hd]
theorem AppOk.op {g:Sgn} {t:Tm} {o:Opr} {d:Dcl} (h:AppOk g t o d):t.op≠-1:=by have:=h.lo;omega
section
variable {g:Sgn} {mc:C}
theorem ZGf (hg:SgnOk g) (k:Int):Con e0 174 [.agg [.sl ((ZbU (up g.sorts)).map ZbQ),.sl ((ZbU (down g.sorts)).map ZbQ),.sl ((ZbU (kinds g.sorts)).map ZbQ)],.one (.lit (.int .i64 k))] [.one (.lit (.bool (decide (0<=k∧k < g.sorts.names.length))))]:=by
 have hl:=Zqf hg.sorts
 refine gI 23 Tryz.func174 ?_
 by_cases h0:0<=k
 ·have e:decide (0<=k∧k < (g.sorts.names.length:Int))=decide (k < (g.sorts.names.length:Int)):=by simp [h0]
  rw [e]
  (have F:=ai @h0 (ai @Zhe @hl);refine gG ?_;exact gT)
 ·have e:decide (0<=k∧k < (g.sorts.names.length:Int))=false:=by simp [h0]
  rw [e]
  (have F:=@h0;refine gG ?_;exact gT)
theorem Zig (hg:SgnOk g) {t:Tm} (ht:ZcI g t):Con e0 166 [.one (.ptr (encX g mc)),.agg (encTm t)] [.one (.lit (.int .i64 (ZaS g t)))]:=by
 refine gI 155 Tryz.func166 ?_
 rcases ht with ⟨h1,h2,h3,h4,h5⟩ | ⟨o,d,h⟩
 ·have hn:(-1:Int) < 0:=by omega
  have hk:=ZgI hg.sorts h3 h4
  have e:ZaS g t=kd g.sorts t.sort:=by simp [ZaS,h1]
  (have F:=ai @tmz (ai @h1 (ai @hn (ai @Zbd (ai @h3 (ai @hk (ai @Za4 @e))))));refine gG ?_;exact gT)
 ·have hn:¬ (t.op < 0):=by have:=h.lo;omega
  obtain ⟨d',hd',hr0,hr1,_⟩:=hg.first h.at'
  rw [h.fst] at hd'
  injection hd' with hd'
  subst hd'
  have hk:=ZgI hg.sorts hr0 hr1
  have e:ZaS g t=kd g.sorts d.res:=by simp [ZaS,h.op,Zif h.at' h.fst]
  have hlo:=h.lo
  have hat:=h.at'
  have hfst:=h.fst
  (have F:=ai @tmz (ai @hn (ai @Zbd (ai @hlo (ai @hat (ai @Zaj (ai @hfst (ai @ZaR (ai @hr0 (ai @hk (ai @Za4 @e))))))))));refine gG ?_;exact gT)
theorem Zkv (hg:SgnOk g) {op:Int} {i:Nat} {o:Opr} {d:Dcl} {k:Int} (h0:0<=op) (ho:g.ops[op.toNat]?=some o) (hd:o.decls[0]?=some d) (hk:d.args[argAt o i]?=some k):Con e0 167 [.one (.ptr (encX g mc)),.one (.lit (.int .i64 op)),.one (.lit (.int .i64 i))] [.one (.lit (.int .i64 (kd g.sorts k)))]:=by
 obtain ⟨d',hd',_,_,hk0⟩:=hg.first ho
 rw [hd] at hd'
 injection hd' with hd'
 subst hd'
 obtain ⟨k0,k1⟩:=hk0 k (Tab hk)
 have hkd:=ZgI hg.sorts k0 k1
 refine gI 131271 Tryz.func167 ?_
 unfold argAt at hk
 cases ha:o.assoc with
 | true =>
  rw [ha] at hk
  simp only [↓reduceIte] at hk
  (have F:=ai @Zbd (ai @h0 (ai @ho (ai @Zaj (ai @ha (ai @hd (ai @ZaR (ai @hk (ai @k0 (ai @hkd @Za4)))))))));refine gG ?_;exact gT)
 | false =>
  rw [ha] at hk
  simp only [Tal,↓reduceIte] at hk
  (have F:=ai @Zbd (ai @h0 (ai @ho (ai @Zaj (ai @ha (ai @hd (ai @ZaR (ai @hk (ai @k0 (ai @hkd @Za4)))))))));refine gG ?_;exact gT)
theorem ZlZ (hg:SgnOk g) {op:Int} {o:Opr} (h0:0<=op) (ho:g.ops[op.toNat]?=some o) (t:Tm):Con e0 168 [.one (.ptr (encX g mc)),.one (.lit (.int .i64 op)),.agg (encTm t)] [.one (.lit (.bool (decide (o.unit≠0∧t.op=o.unit - 1))))]:=by
 have hax:=hg.axs o (Tab ho)
 have hlo:=hax.lo
 have hhi:=hax.hi
 have hln:=hg.len
 have hw:IntKind.i64.wrap (o.unit - 1)=o.unit - 1:=ZaQ rfl om om
 refine gI 103 Tryz.func168 ?_
 by_cases hu:o.unit=0
 ·have e:decide (o.unit≠0∧t.op=o.unit - 1)=false:=by simp [hu]
  rw [e]
  (have F:=ai @Zbd (ai @tmz (ai @h0 (ai @ho (ai @Zaj @hu))));refine gG ?_;exact gT)
 ·have e:decide (o.unit≠0∧t.op=o.unit - 1)=decide (t.op=o.unit - 1):=by simp [hu]
  rw [e]
  (have F:=ai @Zbd (ai @tmz (ai @h0 (ai @ho (ai @Zaj (ai @hu @hw)))));refine gG ?_;exact gT)
theorem ZmY (hg:SgnOk g) {t:Tm} (hs:t.name.size<=maxLen):Con e0 115 [.one (.ptr (encX g mc)),.agg (encTm t)] [.one (.lit (.bool (Zie g t)))]:=by
 have hno:¬ ZbI g t->Zie g t=false:=fun h=>by simp [Zie,h]
 refine gI 27 Tryz.func115 ?_
 (have F:=@tmz;refine gG ?_;clear F)
 by_cases h1:t.op=-1
 rotate_left
 ·have hf:=hno fun h=>h1 h.1
  (have F:=ai @tmz (ai @h1 @hf);refine gG ?_;exact gT)
 refine gB ?_
 (have F:=ai @tmz @h1;refine gC (ZgE hs) ?_;clear F)
 by_cases h2:Zbm t.name=true
 rotate_left
 ·have hf:=hno fun h=>h2 h.2.1
  have h2':Zbm t.name=false:=by simpa using h2
  (have F:=ai @tmz @h2';refine gR ?_;clear F)
  (have F:=ai @tmz @hf;refine gG ?_;exact gT)
 (have F:=ai @tmz (ai @h2 @Zbd);refine gC (ZGf hg t.sort) ?_;clear F)
 by_cases h3:0<=t.sort∧t.sort < g.sorts.names.length
 rotate_left
 ·have hf:=hno fun h=>h3 ⟨h.2.2.1,h.2.2.2.1⟩
  have h3':decide (0<=t.sort∧t.sort < (g.sorts.names.length:Int))=false:=by simp only [decide_eq_false_iff_not];exact h3
  (have F:=ai @tmz @h3';refine gR ?_;clear F)
  (have F:=ai @tmz @hf;refine gG ?_;exact gT)
 have h3':decide (0<=t.sort∧t.sort < (g.sorts.names.length:Int))=true:=by simp only [decide_eq_true_eq];exact h3
 by_cases h4:t.args=[]
 ·have hT:Zie g t=true:=by simp only [Zie,decide_eq_true_eq];exact ⟨h1,h2,h3.1,h3.2,h4⟩
  (have F:=ai @tmz (ai @h3' @h4);refine gR ?_;clear F)
  (have F:=ai @tmz @hT;refine gG ?_;exact gT)
 ·have hf:=hno fun h=>h4 h.2.2.2.2
  have h4':¬ ((t.args.length:Int)=0):=by
   intro h;apply h4;apply Tan;omega
  (have F:=ai @tmz (ai @h3' @h4');refine gR ?_;clear F)
  (have F:=ai @tmz @hf;refine gG ?_;exact gT)
end
theorem Zfi {t:Tm}:okTm t ↔ I64 t.op∧t.name.size<=maxLen∧I64 t.sort∧Zaz t.args:=by cases t;simp only [okTm,Tm.op,Tm.name,Tm.sort,Tm.args]
theorem ZaX (t:Tm):sizeTm t=1+sizeTms t.args:=by cases t;simp only [sizeTm,Tm.args]
theorem Zde (t:Tm):depthTm t=1+depthTms t.args:=by cases t;simp only [depthTm,Tm.args]
theorem Zv3 {g:Sgn} {t:Tm} (h:t.op=-1):ZbT g t=Zie g t:=by
 unfold ZbT Zie
 congr 1
 rw [Zbh]
 apply propext
 constructor
 ·rintro ⟨h1 | ⟨o,d,h1⟩,_⟩
  ·exact h1
  ·have:=h1.lo;omega
 ·intro h1
  exact ⟨.inl h1,fun a ha=>(by rw [h1.2.2.2.2] at ha;cases ha),.inl h⟩
theorem ZcI.app {g:Sgn} {t:Tm} (h:ZcI g t) (hop:t.op≠-1):∃ o d,AppOk g t o d:=by
 rcases h with h | h
 ·exact absurd h.1 hop
 ·exact h
theorem Zhf {g:Sgn} (hg:SgnOk g) {i:Nat} {o:Opr} {d:Dcl} {n j:Nat} (ho:g.ops[i]?=some o) (hd:o.decls[0]?=some d) (nas:o.assoc=false->n=d.args.length) (hj:j < n):∃ k,d.args[argAt o j]?=some k:=by
 unfold argAt
 cases ha:o.assoc with
 | true =>
  have h2:=((hg.axs o (Tab ho)).two (.inl ha) d hd).1
  exact ⟨_,Taa (by simp only [↓reduceIte];omega)⟩
 | false=>exact ⟨_,Taa (by simp only [Tal,↓reduceIte];have:=nas ha;omega)⟩
section
variable {g:Sgn} {mc:C}
theorem ZkW (hg:SgnOk g):∀ (n:Nat) (t:Tm),sizeTm t < n->okTm t->sizeTm t<=big->Con e0 107 [.one (.ptr (encX g mc)),.agg (encTm t)] [.one (.lit (.bool (ZbT g t)))]:=by
 intro n
 induction n with
 | zero=>intro t h;omega
 | succ n ih =>
  intro t hn hok hb
  have hno:¬ ZaO g t->ZbT g t=false:=Zjk
  obtain ⟨k1,k2,k3,k4⟩:=Zfi.1 hok
  have hsz:=ZaX t
  have hal:=ZbN t.args
  unfold big at hb
  refine gI 43556142965880125627826793391928073259515 Tryz.func107 ?_
  by_cases h1:t.op=-1
  ·have e:=Zv3 (g:=g) h1
   rw [e]
   (have F:=ai @tmz @h1;refine gG ?_;clear F)
   refine gB ?_
   (have F:=ai @tmz @h1;refine gC (ZmY hg k2) ?_;clear F)
   (have F:=@tmz;refine gR ?_;clear F)
   (have F:=@tmz;refine gG ?_;exact gT)
  by_cases h2:t.op < 0
  ·have hf:=hno fun h=>by
    obtain ⟨o,d,h⟩:=h.node.app h1
    have:=h.lo;omega
   (have F:=ai @tmz (ai @h1 (ai @h2 @hf));refine gG ?_;exact gT)
  by_cases h3:(g.ops.length:Int)<=t.op
  ·have hf:=hno fun h=>by
    obtain ⟨o,d,h⟩:=h.node.app h1
    have:=(Tac.1 h.at').1;omega
   (have F:=ai @tmz (ai @h1 (ai @h2 (ai @h3 (ai @Zbd @hf))));refine gG ?_;exact gT)
  by_cases h4:t.name=ByteArray.empty
  rotate_left
  ·have hf:=hno fun h=>by
    obtain ⟨o,d,h⟩:=h.node.app h1
    exact h4 h.nm
   (have F:=ai @tmz (ai @h1 (ai @h2 (ai @h3 (ai @Zbd (ai @Zeh (ai @h4 @hf))))));refine gG ?_;exact gT)
  by_cases h5:t.sort=0
  rotate_left
  ·have hf:=hno fun h=>by
    obtain ⟨o,d,h⟩:=h.node.app h1
    exact h5 h.so
   (have F:=ai @tmz (ai @h1 (ai @h2 (ai @h3 (ai @Zbd (ai @Zeh (ai @h4 (ai @h5 @hf)))))));refine gG ?_;exact gT)
  have h0:0<=t.op:=by omega
  obtain ⟨o,ho⟩:∃ o,g.ops[t.op.toNat]?=some o:=⟨_,Taa om⟩
  obtain ⟨d,hd,hr0,hr1,hargs⟩:=hg.first ho
  have hgt:ZaO g t->AppOk g t o d:=fun h=>by
   obtain ⟨o',d',h⟩:=h.node.app h1
   have e1:=h.at'
   rw [ho] at e1
   injection e1 with e1
   subst e1
   have e2:=h.fst
   rw [hd] at e2
   injection e2 with e2
   subst e2
   exact h
  by_cases hW:(o.assoc=true->2<=t.args.length∧t.args.length<=7)∧(o.assoc=false->t.args.length=d.args.length)
  rotate_left
  ·have hf:=hno fun h=>hW ⟨(hgt h).asc,(hgt h).nas⟩
   cases ha:o.assoc with
   | true =>
    by_cases c1:t.args.length < 2
    ·have c1':(t.args.length:Int) < 2:=by omega
     (have F:=ai @tmz (ai @h1 (ai @h2 (ai @h3 (ai @Zbd (ai @Zeh (ai @h4 (ai @h5 (ai @h0 (ai @ho (ai @Zaj (ai @ha (ai @c1' @hf))))))))))));refine gG ?_;exact gT)
    ·have c1':¬ ((t.args.length:Int) < 2):=by omega
     have c2:(7:Int) < (t.args.length:Int):=by
      by_cases c2:t.args.length<=7
      ·exact absurd ⟨fun _=>⟨by omega,c2⟩,fun h=>by rw [ha] at h;cases h⟩ hW
      ·omega
     (have F:=ai @tmz (ai @h1 (ai @h2 (ai @h3 (ai @Zbd (ai @Zeh (ai @h4 (ai @h5 (ai @h0 (ai @ho (ai @Zaj (ai @ha (ai @c1' (ai @c2 @hf)))))))))))));refine gG ?_;exact gT)
   | false =>
    have c3:¬ ((t.args.length:Int)=(d.args.length:Int)):=fun c=>hW ⟨fun h=>(by rw [ha] at h;cases h),fun _=>by omega⟩
    (have F:=ai @tmz (ai @h1 (ai @h2 (ai @h3 (ai @Zbd (ai @Zeh (ai @h4 (ai @h5 (ai @h0 (ai @ho (ai @Zaj (ai @ha (ai @hd (ai @ZaR (ai @c3 @hf))))))))))))));refine gG ?_;exact gT)
  have hA:AppOk g t o d:=⟨h0,ho,hd,h4,h5,hW.1,hW.2⟩
  (have F:=ai @tmz (ai @h1 (ai @h2 (ai @h3 (ai @Zbd (ai @Zeh (ai @h4 (ai @h5 (ai @h0 (ai @ho @Zaj)))))))));refine gG ?_;clear F)
  refine gM (ι:=Unit) [75] [] (fun u=>[(75,A.d (.one (.lit (.bool false))))]) (fun u=>[]) (fun u=>True) ?_ (fun u hu=>Exists.intro _ (ai (Wk.refl _) ?_))
  ·cases ha:o.assoc with
   | true =>
    have c:=hW.1 ha
    have c1':¬ ((t.args.length:Int) < 2):=by omega
    have c2:¬ ((7:Int) < (t.args.length:Int)):=by omega
    (have F:=ai @tmz (ai @Zaj (ai @ha (ai @c1' @c2)));refine gG ?_;exact ⟨(),trivial,gw,gw⟩)
   | false =>
    have c3:((t.args.length:Int)=(d.args.length:Int)):=by have:=hW.2 ha;omega
    (have F:=ai @tmz (ai @Zaj (ai @ha (ai @hd (ai @ZaR @c3))));refine gG ?_;exact ⟨(),trivial,gw,gw⟩)
  (have F:=@tmz;refine gG ?_;clear F)
  (have F:=@e0P;refine gL (ι:=Nat) [4,7,8,79,80,135] [] (fun i=>[(79,A.d (.one (.lit (.int .i64 i))))]) (fun i=>[]) (fun i=>i<=t.args.length∧∀ (j:Nat) a,j < i->t.args[j]?=some a->ZaO g a∧ArgOk g t.op o d t.args j a) (fun i=>t.args.length - i) (0) (⟨by omega,fun j a h=>absurd h om⟩) (fun i hi=>?_);clear F)
  obtain ⟨hil,hall⟩:=hi
  by_cases hl:i < t.args.length
  rotate_left
  ·have hl':¬ ((i:Int) < (t.args.length:Int)):=by omega
   have hT:=Zfz (Zbh.2 ⟨.inr ⟨o,d,hA⟩,fun a ha=>by
     obtain ⟨j,hj⟩:=Tbk ha
     exact (hall j a (by have:=(Tac.1 hj).1;omega) hj).1,.inr fun o' d' ho' hd' j a hj=>by
     rw [ho] at ho'
     injection ho' with ho'
     subst ho'
     rw [hd] at hd'
     injection hd' with hd'
     subst hd'
     exact (hall j a (by have:=(Tac.1 hj).1;omega) hj).2⟩)
   (have F:=ai @hl' @hT;refine gG ?_;exact gT)
  have hl':(i:Int) < (t.args.length:Int):=by omega
  obtain ⟨a,ha⟩:∃ a,t.args[i]?=some a:=⟨_,Taa hl⟩
  have hm:=Tab ha
  have hsa:=Zbb hm
  have hw1:=Zap (k:=i) om
  have hnoA:¬ ArgOk g t.op o d t.args i a->ZbT g t=false:=fun h=>hno fun hF=>by
   obtain ⟨_,_,h3⟩:=Zbh.1 hF
   rcases h3 with h3 | h3
   ·exact h1 h3
   ·exact h (h3 o d ho hd i a ha)
  obtain ⟨k,hk⟩:=Zhf hg ho hd hA.nas hl
  (have F:=ai @hl' (ai @tmz @ha);refine gG ?_;clear F)
  refine gB ?_
  (have F:=@tmz;refine gC (ih a om (k4.mem hm) (by unfold big;omega)) ?_;clear F)
  by_cases hfa:ZbT g a=true
  rotate_left
  ·have hf:=hno fun h=>hfa (Zfz ((Zbh.1 h).2.1 a hm))
   have hfa':ZbT g a=false:=by simpa using hfa
   (have F:=ai @tmz @hfa';refine gR ?_;clear F)
   (have F:=@hf;refine gG ?_;exact gT)
  have hFa:=Zgc.1 hfa
  (have F:=ai @tmz @hfa;refine gC (Zig hg hFa.node) ?_;clear F)
  (have F:=@tmz;refine gC (Zkv hg h0 ho hd hk) ?_;clear F)
  by_cases hkd:ZaS g a=((kd g.sorts k:Nat):Int)
  rotate_left
  ·have hf:=hnoA fun h=>hkd (h.kind k hk)
   (have F:=ai @tmz @hkd;refine gR ?_;clear F)
   (have F:=@hf;refine gG ?_;exact gT)
  by_cases hN:o.assoc=true∧a.op=t.op
  ·have hf:=hnoA fun h=>h.nest hN.1 hN.2
   obtain ⟨hN1,hN2⟩:=hN
   (have F:=ai @tmz (ai @hkd (ai @Zaj (ai @hN1 @hN2)));refine gR ?_;clear F)
   (have F:=@hf;refine gG ?_;exact gT)
  have hne:o.assoc=true->¬ a.op=t.op:=fun h1 h2=>hN ⟨h1,h2⟩
  have cU:=ZlZ (mc:=mc) hg h0 ho a
  generalize hU:decide (o.unit≠0∧a.op=o.unit - 1)=U at cU
  have hnext:(U=false)->(o.comm=true->∀ (j:Nat) p,i=j+1->t.args[j]?=some p->Zak p a<=0)->i+1<=t.args.length∧∀ (j:Nat) a,j < i+1->t.args[j]?=some a->ZaO g a∧ArgOk g t.op o d t.args j a:=fun hU' hc=>⟨by omega,fun j a' hj ha'=>by
   by_cases e:j=i
   ·subst e
    rw [ha] at ha'
    injection ha' with ha'
    subst ha'
    refine ⟨hFa,fun k' hk'=>?_,fun h1 h2=>hN ⟨h1,h2⟩,fun h1 h2=>?_,hc⟩
    ·rw [hk] at hk'
     injection hk' with hk'
     subst hk'
     exact hkd
    ·rw [hU'] at hU
     simp only [decide_eq_false_iff_not] at hU
     exact hU ⟨h1,h2⟩
   ·exact hall j a' om ha'⟩
  rcases Bool.eq_false_or_eq_true o.assoc with hac | hac
  all_goals (
   (have F:=ai @tmz (ai @hkd (ai @Zaj (ai @hac @hne)));refine gC (cU) ?_;clear F)
   rcases Bool.eq_false_or_eq_true U with hu | hu
   ·have hf:=hnoA fun h=>by
     rw [hu] at hU
     simp only [decide_eq_true_eq] at hU
     exact h.unit hU.1 hU.2
    (have F:=ai @tmz @hu;refine gR ?_;clear F)
    (have F:=@hf;refine gG ?_;exact gT)
   rcases Bool.eq_false_or_eq_true o.comm with hcm | hcm
   rotate_left
   ·have hq:=hnext hu (fun h=>by rw [hcm] at h;cases h)
    (have F:=ai @tmz (ai @hu (ai @Zaj @hcm));refine gR ?_;clear F)
    (have F:=ai @hw1 (ai @tmz (ai @Zaj (ai @hcm @hac)));refine gG ?_;exact ⟨i+1,hq,gw,gw,by omega⟩)
   rcases Nat.eq_zero_or_pos i with hi0 | hi0
   ·have hq:=hnext hu (fun _ j p h=>by omega)
    have hi0':¬ ((0:Int) < (i:Int)):=by omega
    (have F:=ai @tmz (ai @hu (ai @Zaj (ai @hcm @hi0')));refine gR ?_;clear F)
    (have F:=ai @hw1 (ai @tmz (ai @Zaj (ai @hcm @hac)));refine gG ?_;exact ⟨i+1,hq,gw,gw,by omega⟩)
   obtain ⟨j,rfl⟩:∃ j,i=j+1:=⟨i - 1,by omega⟩
   obtain ⟨p,hp⟩:∃ p,t.args[j]?=some p:=⟨_,Taa om⟩
   have cC:=Zr1 (k4.mem (Tab hp)) (k4.mem hm)
   have hgt0:(0:Int) < ((j+1:Nat):Int):=by omega
   have hsub:IntKind.i64.wrap (((j+1:Nat):Int) - 1)=(j:Int):=ZaQ om om om
   (have F:=ai @tmz (ai @hu (ai @Zaj (ai @hcm (ai @hgt0 (ai @hsub @hp)))));refine gC (cC) ?_;clear F)
   by_cases hc:0 < Zak p a
   ·have hf:=hnoA fun h=>by have:=h.ord hcm j p rfl hp;omega
    (have F:=ai @tmz @hc;refine gR ?_;clear F)
    (have F:=@hf;refine gG ?_;exact gT)
   ·have hq:=hnext hu (fun _ j' p' h hp'=>by
     have:j'=j:=by omega
     subst this
     rw [hp] at hp'
     injection hp' with hp'
     subst hp'
     omega)
    (have F:=ai @tmz @hc;refine gR ?_;clear F)
    (have F:=ai @hw1 (ai @tmz (ai @Zaj (ai @hcm @hac)));refine gG ?_;exact ⟨j+1+1,hq,gw,gw,by omega⟩))
theorem Zqg (hg:SgnOk g) {t:Tm} (hok:okTm t) (hb:sizeTm t<=big):Con e0 107 [.one (.ptr (encX g mc)),.agg (encTm t)] [.one (.lit (.bool (ZbT g t)))]:=ZkW hg _ t (Tam _) hok hb
structure TermOk (g:Sgn) (t:Tm):Prop where
 size:sizeTm t<=60
 depth:depthTm t<=20
 form:ZaO g t
open Classical in
noncomputable def Zb4 (g:Sgn) (t:Tm):Bool:=decide (TermOk g t)
theorem ZgJ {g:Sgn} {t:Tm} (h:¬ TermOk g t):Zb4 g t=false:=by simp [Zb4,h]
theorem Zei {g:Sgn} {t:Tm}:Zb4 g t=true ↔ TermOk g t:=by simp [Zb4]
theorem Zhw {g:Sgn} {t:Tm} (h1:sizeTm t<=60) (h2:depthTm t<=20):ZbT g t=Zb4 g t:=by
 unfold ZbT Zb4
 congr 1
 exact propext ⟨fun h=>⟨h1,h2,h⟩,fun h=>h.form⟩
theorem Zr4 (hg:SgnOk g) {t:Tm} (hok:okTm t) (hb:sizeTm t<=big):Con e0 51 [.one (.ptr (encX g mc)),.agg (encTm t)] [.one (.lit (.bool (Zb4 g t)))]:=by
 have hno:¬ TermOk g t->Zb4 g t=false:=ZgJ
 refine gI 27 Tryz.func51 ?_
 (have F:=@tmz;refine gG ?_;clear F)
 refine gB ?_
 (have F:=@tmz;refine gC (Zji hb) ?_;clear F)
 by_cases h1:sizeTm t<=60
 rotate_left
 ·have h1':¬ ((sizeTm t:Int)<=60):=by omega
  have hf:=hno fun h=>h1 h.size
  (have F:=ai @tmz @h1';refine gR ?_;clear F)
  (have F:=@hf;refine gG ?_;exact gT)
 have h1':((sizeTm t:Int)<=60):=by omega
 (have F:=ai @tmz @h1';refine gC (ZiH hb) ?_;clear F)
 by_cases h2:depthTm t<=20
 rotate_left
 ·have h2':¬ ((depthTm t:Int)<=20):=by omega
  have hf:=hno fun h=>h2 h.depth
  (have F:=ai @tmz @h2';refine gR ?_;clear F)
  (have F:=@hf;refine gG ?_;exact gT)
 have h2':((depthTm t:Int)<=20):=by omega
 (have F:=ai @tmz @h2';refine gC (Zqg hg hok hb) ?_;clear F)
 have e:=Zhw (g:=g) h1 h2
 (have F:=@tmz;refine gR ?_;clear F)
 (have F:=@e;refine gG ?_;exact gT)
end
mutual
theorem ZeZ:∀ {a b:Tm},Zak a b=0->a=b
 | .mk o n s x,.mk o' n' s' x',h=>by
  simp only [Zak,ZaA] at h
  split at h
  ·rename_i h1
   split at h
   ·rename_i h2
    split at h
    ·rename_i h3
     split at h
     ·rename_i h4
      rw [ZcU.1 h1,Zft.1 h2,ZcU.1 h3,Zkw h4]
     ·contradiction
    ·contradiction
   ·contradiction
  ·contradiction
theorem Zkw:∀ {a b:List Tm},ZaM a b=0->a=b
 | [],[],_=>rfl
 | [],_::_,h=>by simp [ZaM] at h
 | _::_,[],h=>by simp [ZaM] at h
 | x::xs,y::ys,h=>by
  simp only [ZaM,ZaA] at h
  split at h
  ·rename_i h1
   split at h
   ·rename_i h2
    rw [ZeZ h1,Zkw h2]
   ·contradiction
  ·contradiction
end
mutual
theorem Zdf:∀ (a:Tm),Zak a a=0
 | .mk o n s x=>by simp only [Zak,ZaA,ZcU.2 (rfl:o=o),ZcU.2 (rfl:s=s),Zft.2 (rfl:n=n),Zkx x,if_true]
theorem Zkx:∀ (a:List Tm),ZaM a a=0
 | []=>rfl
 | x::xs=>by simp only [ZaM,ZaA,Zdf x,Zkx xs,if_true]
end
theorem ZeO {a b:Tm}:Zak a b=0 ↔ a=b:=⟨ZeZ,fun h=>h ▸ Zdf a⟩
section
variable {g:Sgn}
theorem ZmZ (hok:Zdq g) (hg:¬ SgnOk g):Con e0 49 [.agg (Zav g)] [.one (.lit (.pointer none)),.one (.lit (.bool false))]:=by
 have hs:Zcb g=false:=Zhu hg
 have c:=Zkt hok
 rw [hs,Zav] at c
 refine gI 287 Tryz.func49 ?_
 (have F:=@ZaG;refine gG ?_;clear F)
 refine gB ?_
 (have F:=@ZaG;refine gC (c) ?_;clear F)
 (have F:=@ZaG;refine gR ?_;clear F)
 (have F:=@ZaG;refine gG ?_;exact gT)
theorem Ze0 {a b:Tm} (ha:okTm a) (hb:okTm b):Con e0 58 [.agg (encTm a),.agg (encTm b)] [.one (.lit (.bool (decide (Zak a b=0))))]:=by
 refine gI 31 Tryz.func58 ?_
 (have F:=@tmz;refine gG ?_;clear F)
 refine gB ?_
 (have F:=@tmz;refine gC (Zfx ha hb) ?_;clear F)
 (have F:=@tmz;refine gR ?_;clear F)
 (have F:=@tmz;refine gG ?_;exact gT)
theorem Zgd (hok:Zdq g) (hg:SgnOk g) {t:Tm} (ht:ZcI g t):Con e0 183 [.agg (Zav g),.agg (encTm t)] [.one (.lit (.int .i64 (ZaS g t)))]:=by
 have c2:=Zet hg.sorts
 rw [Za6] at c2
 refine gI 2111 Tryz.func183 ?_
 (have F:=ai @tmz @ZaG;refine gG ?_;clear F)
 refine gB ?_
 (have F:=@ZaG;refine gC (c2) ?_;clear F)
 (have F:=@ZaG;refine gR ?_;clear F)
 rcases ht with ⟨h1,h2,h3,h4,h5⟩ | ⟨o,d,h⟩
 ·have hk:=ZgI hg.sorts h3 h4
  have e:ZaS g t=kd g.sorts t.sort:=by simp [ZaS,h1]
  (have F:=ai @tmz (ai @h1 (ai @h3 (ai @hk (ai @Za4 @e))));refine gG ?_;exact gT)
 ·have hn:=h.op
  obtain ⟨d',hd',hr0,hr1,_⟩:=hg.first h.at'
  rw [h.fst] at hd'
  injection hd' with hd'
  subst hd'
  have hk:=ZgI hg.sorts hr0 hr1
  have e:ZaS g t=kd g.sorts d.res:=by simp [ZaS,h.op,Zif h.at' h.fst]
  have hlo:=h.lo
  have hat:=h.at'
  have hfst:=h.fst
  (have F:=ai @tmz (ai @hn (ai @hlo (ai @hat (ai @Zaj (ai @hfst (ai @ZaR (ai @hr0 (ai @hk (ai @Za4 @e)))))))));refine gG ?_;exact gT)
def ZbL (o:Opr):Tm:=.mk (if o.unit=0 then 0 else o.unit - 1) .empty 0 []
theorem Zl0 (hg:SgnOk g) {op:Int} {o:Opr} (h0:0<=op) (ho:g.ops[op.toNat]?=some o):Con e0 182 [.agg (Zav g),.one (.lit (.int .i64 op))] [.agg (encTm (ZbL o)),.one (.lit (.bool (!decide (o.unit=0))))]:=by
 have hax:=hg.axs o (Tab ho)
 have hlo:=hax.lo
 have hhi:=hax.hi
 have hln:=hg.len
 have hw:IntKind.i64.wrap (o.unit - 1)=o.unit - 1:=ZaQ rfl om om
 refine gI 4151 Tryz.func182 ?_
 by_cases hu:o.unit=0
 ·(have F:=ai @ZaG (ai @h0 (ai @ho (ai @Zaj @hu)));refine gG ?_;clear F)
  refine Zgk (Zlz ?_)
  simp [Zc6,resA,Zbz,gs,hu,ZbL,encTm,Zab,gm,ptrA,varA,e0P,pz,tt_0,tt_1]
 ·(have F:=ai @ZaG (ai @h0 (ai @ho (ai @Zaj (ai @hu @hw))));refine gG ?_;clear F)
  refine Zgk (Zlz ?_)
  simp [Zc6,resA,Zbz,gs,hu,ZbL,encTm,Zab,gm,ptrA,varA,e0P,pz]
end
def Tri (a b c:Int):Prop:=((a<=0->b<=0->c<=0)∧(a < 0->b<=0->c < 0)∧(a<=0->b < 0->c < 0))∧((0<=a->0<=b->0<=c)∧(0 < a->0<=b->0 < c)∧(0<=a->0 < b->0 < c))
theorem Zl1 (p q:Int):ZaA [p,q]=if p=0 then q else p:=by
 simp only [ZaA]
 split
 ·split <;> simp_all
 ·rfl
theorem ZAg (p q r s:Int):ZaA [p,q,r,s]=ZaA [p,ZaA [q,ZaA [r,s]]]:=by
 simp only [Zl1,ZaA]
 by_cases h1:p=0 <;> by_cases h2:q=0 <;> by_cases h3:r=0 <;> by_cases h4:s=0 <;> simp [h1,h2,h3,h4]
theorem Tri.lex {a b c a' b' c':Int} (h:Tri a b c) (h':Tri a' b' c'):Tri (ZaA [a,a']) (ZaA [b,b']) (ZaA [c,c']):=by
 simp only [Zl1]
 unfold Tri at *
 by_cases h1:a=0
 ·by_cases h2:b=0
  ·by_cases h3:c=0
   ·simp only [h1,h2,h3,if_true];exact h'
   ·omega
  ·by_cases h3:c=0
   ·omega
   ·simp only [h1,h2,h3,if_true,if_false];omega
 ·by_cases h2:b=0
  ·by_cases h3:c=0
   ·omega
   ·simp only [h1,h2,h3,if_true,if_false];omega
  ·by_cases h3:c=0
   ·simp only [h1,h2,h3,if_true,if_false];omega
   ·simp only [h1,h2,h3,if_false];omega
theorem Zeu (p q:Int):ZaA [-p,-q]=-ZaA [p,q]:=by
 simp only [Zl1]
 by_cases h:p=0
 ·simp [h]
 ·have:¬ -p=0:=by omega
  simp [h,this]
theorem Zih (a b c:Int):Tri (ZaY a b) (ZaY b c) (ZaY a c):=by
 unfold Tri ZaY
 by_cases h1:a < b <;> by_cases h2:b < c <;> by_cases h3:a < c <;> by_cases h4:b < a <;> by_cases h5:c < b <;> by_cases h6:c < a <;> simp only [h1,h2,h3,h4,h5,h6,if_true,if_false] <;> omega
theorem Zii (a b:Int):ZaY b a=-ZaY a b:=by
 unfold ZaY
 by_cases h1:a < b <;> by_cases h2:b < a <;> simp only [h1,h2,if_true,if_false] <;> omega
theorem Zhx (x y:UInt8) (xs ys:List UInt8):Lib.compareBytes (x::xs) (y::ys)=ZaA [ZaY x.toNat y.toNat,Lib.compareBytes xs ys]:=by
 rw [Zl1]
 simp only [Lib.compareBytes,ZaY,UInt8.lt_iff_toNat_lt]
 by_cases h1:x.toNat < y.toNat
 ·have:((x.toNat:Int) < y.toNat):=by omega
  simp [h1,this]
 ·have h1':¬ ((x.toNat:Int) < y.toNat):=by omega
  by_cases h2:y.toNat < x.toNat
  ·have:((y.toNat:Int) < x.toNat):=by omega
   simp [h1,h2,h1',this]
  ·have:¬ ((y.toNat:Int) < x.toNat):=by omega
   simp [h1,h2,h1',this]
theorem ZnU:∀ (a b c:List UInt8),Tri (Lib.compareBytes a b) (Lib.compareBytes b c) (Lib.compareBytes a c)
 | [],[],[]=>by simp [Lib.compareBytes,Tri]
 | [],[],_::_=>by simp [Lib.compareBytes,Tri]
 | [],_::_,[]=>by simp [Lib.compareBytes,Tri]
 | [],y::ys,z::zs=>by
  have:Lib.compareBytes [] (y::ys)=-1:=rfl
  have h2:Lib.compareBytes [] (z::zs)=-1:=rfl
  rw [this,h2];unfold Tri;omega
 | _::_,[],[]=>by simp [Lib.compareBytes,Tri]
 | x::xs,[],z::zs=>by
  have:Lib.compareBytes (x::xs) []=1:=rfl
  have h2:Lib.compareBytes [] (z::zs)=-1:=rfl
  rw [this,h2];unfold Tri;omega
 | x::xs,y::ys,[]=>by
  have:Lib.compareBytes (x::xs) []=1:=rfl
  have h2:Lib.compareBytes (y::ys) []=1:=rfl
  rw [this,h2];unfold Tri;omega
 | x::xs,y::ys,z::zs=>by
  simp only [Zhx]
  exact (Zih _ _ _).lex (ZnU xs ys zs)
theorem Zjl:∀ (a b:List UInt8),Lib.compareBytes b a=-Lib.compareBytes a b
 | [],[]=>rfl
 | [],_::_=>rfl
 | _::_,[]=>rfl
 | x::xs,y::ys=>by rw [Zhx,Zhx,Zii,Zjl xs ys,Zeu]
mutual
theorem Zck:∀ (a b:Tm),Zak b a=-Zak a b
 | .mk o n s a,.mk o' n' s' a'=>by
  simp only [Zak,ZAg]
  rw [Zii o o',Zii s s',Zl2 a a',show ZbE n' n=-ZbE n n' from Zjl _ _,Zeu,Zeu,Zeu]
theorem Zl2:∀ (a b:List Tm),ZaM b a=-ZaM a b
 | [],[]=>by simp [ZaM]
 | [],_::_=>by simp [ZaM]
 | _::_,[]=>by simp [ZaM]
 | x::xs,y::ys=>by
  simp only [ZaM]
  rw [Zck x y,Zl2 xs ys,Zeu]
end
mutual
theorem Zjm:∀ (a b c:Tm),Tri (Zak a b) (Zak b c) (Zak a c)
 | .mk o n s a,.mk o' n' s' a',.mk o'' n'' s'' a''=>by
  simp only [Zak,ZAg]
  exact (Zih _ _ _).lex ((ZnU _ _ _).lex ((Zih _ _ _).lex (Zl3 a a' a'')))
theorem Zl3:∀ (a b c:List Tm),Tri (ZaM a b) (ZaM b c) (ZaM a c)
 | [],[],[]=>by simp [ZaM,Tri]
 | [],[],_::_=>by simp [ZaM,Tri]
 | [],_::_,[]=>by simp [ZaM,Tri]
 | [],_::_,_::_=>by simp only [ZaM];unfold Tri;omega
 | _::_,[],[]=>by simp [ZaM,Tri]
 | _::_,[],_::_=>by simp only [ZaM];unfold Tri;omega
 | _::_,_::_,[]=>by simp only [ZaM];unfold Tri;omega
 | x::xs,y::ys,z::zs=>by
  simp only [ZaM]
  exact (Zjm x y z).lex (Zl3 xs ys zs)
end
theorem Zfj {a b c:Tm} (h1:Zak a b < 0) (h2:Zak b c < 0):Zak a c < 0:=(Zjm a b c).1.2.1 h1 om
theorem Zb0 {a b c:Tm} (h1:Zak a b<=0) (h2:Zak b c<=0):Zak a c<=0:=(Zjm a b c).1.1 h1 h2
def Asc (l:List Tm):Prop:=l.Pairwise fun a b=>Zak a b < 0
theorem Asc.ext {l l':List Tm} (h:Asc l) (h':Asc l') (hm:∀ t,t∈l ↔ t∈l'):l=l':=by
 induction l generalizing l' with
 | nil =>
  cases l' with
  | nil=>rfl
  | cons y ys=>exact absurd ((hm y).2 (by simp)) (by simp)
 | cons x xs ih =>
  cases l' with
  | nil=>exact absurd ((hm x).1 (by simp)) (by simp)
  | cons y ys =>
   have h1:=List.pairwise_cons.1 h
   have h2:=List.pairwise_cons.1 h'
   have e:x=y:=by
    rcases Tbg.1 ((hm x).1 (by simp)) with e | hx
    ·exact e
    ·rcases Tbg.1 ((hm y).2 (by simp)) with e | hy
     ·exact e.symm
     ·have a1:=h1.1 y hy
      have a2:=h2.1 x hx
      rw [Zck x y] at a2
      omega
   subst e
   refine congrArg (x::·) (ih h1.2 h2.2 fun t=>⟨fun ht=>?_,fun ht=>?_⟩)
   ·rcases Tbg.1 ((hm t).1 (Tak _ ht)) with e | h3
    ·subst e;have:=h1.1 t ht;rw [Zdf] at this;omega
    ·exact h3
   ·rcases Tbg.1 ((hm t).2 (Tak _ ht)) with e | h3
    ·subst e;have:=h2.1 t ht;rw [Zdf] at this;omega
    ·exact h3
def Zbo (t:Tm):List Tm->List Tm
 | []=>[t]
 | x::xs=>if Zak x t < 0 then x::Zbo t xs else if Zak x t=0 then x::xs else t::x::xs
theorem Zjn {t u:Tm}:∀ {l:List Tm},u∈Zbo t l ↔ u=t∨u∈l
 | []=>by simp [Zbo]
 | x::xs=>by
  simp only [Zbo]
  split
  ·simp only [Tbg,Zjn (l:=xs)]
   constructor
   ·rintro (h | h | h) <;> simp [h]
   ·rintro (h | h | h) <;> simp [h]
  ·split
   ·rename_i h0
    have e:=ZeZ h0
    simp only [Tbg]
    constructor
    ·exact fun h=>.inr h
    ·rintro (h | h)
     ·exact .inl (by rw [h,e])
     ·exact h
   ·simp only [Tbg]
theorem Asc.ins {t:Tm}:∀ {l:List Tm},Asc l->Asc (Zbo t l)
 | [],_=>by simp [Zbo,Asc]
 | x::xs,h=>by
  have h1:=List.pairwise_cons.1 h
  simp only [Zbo]
  split
  ·rename_i hx
   refine List.pairwise_cons.2 ⟨fun u hu=>?_,Asc.ins h1.2⟩
   rcases Zjn.1 hu with e | hu
   ·rw [e];exact hx
   ·exact h1.1 u hu
  ·split
   ·exact h
   ·rename_i h2 h3
    have h4:Zak t x < 0:=by rw [Zck x t];omega
    refine List.pairwise_cons.2 ⟨fun u hu=>?_,h⟩
    rcases Tbg.1 hu with e | hu
    ·rw [e];exact h4
    ·exact Zfj h4 (h1.1 u hu)
def Zdg (l:List Tm):List Tm:=l.foldl (fun r t=>Zbo t r) []
theorem ZnV {l r:List Tm} (h:Asc r):Asc (l.foldl (fun r t=>Zbo t r) r)∧∀ u,u∈l.foldl (fun r t=>Zbo t r) r ↔ u∈l∨u∈r:=by
 induction l generalizing r with
 | nil=>exact ⟨h,fun u=>by simp⟩
 | cons x xs ih =>
  have:=ih (r:=Zbo x r) h.ins
  refine ⟨this.1,fun u=>?_⟩
  rw [List.foldl_cons,this.2,Zjn,Tbg]
  constructor
  ·rintro (h | h | h)
   ·exact .inl (.inr h)
   ·exact .inl (.inl h)
   ·exact .inr h
  ·rintro ((h | h) | h)
   ·exact .inr (.inl h)
   ·exact .inl h
   ·exact .inr (.inr h)
theorem Ze1 (l:List Tm):Asc (Zdg l):=(ZnV List.Pairwise.nil).1
theorem Zge {l:List Tm} {u:Tm}:u∈Zdg l ↔ u∈l:=by
 have:=(ZnV (l:=l) (r:=[]) List.Pairwise.nil).2 u
 simpa [Zdg] using this
theorem ZAh {l l':List Tm} (h:Asc l') (hm:∀ t,t∈l' ↔ t∈l):Zdg l=l':=(Ze1 l).ext h fun t=>Zge.trans (hm t).symm
mutual
def Za9:Tm->List Tm
 | .mk op nm so args=>if op=-1 then [.mk (-1) nm so []] else Za3 args
def Za3:List Tm->List Tm
 | []=>[]
 | t::ts=>Za9 t++Za3 ts
end
def ZaD (t:Tm):List Tm:=Zdg (Za9 t)
def zTm0:Tm:=.mk 0 ByteArray.empty 0 []
def ddT:Option Tm->List Tm->List Tm
 | _,[]=>[]
 | none,x::xs=>x::ddT (some x) xs
 | some y,x::xs=>if Zak x y=0 then ddT (some x) xs else x::ddT (some x) xs
def Zhg:Option Tm->List Tm->Option Tm
 | p,[]=>p
 | _,x::xs=>Zhg (some x) xs
theorem ZkX:∀ (p:Option Tm) (l:List Tm) (x:Tm),ddT p (l++[x])=match Zhg p l with
  | none=>ddT p l++[x]
  | some y=>if Zak x y=0 then ddT p l else ddT p l++[x]
 | none,[],x=>rfl
 | some y,[],x=>by simp only [Tag,ddT,Zhg]
 | none,a::l,x=>by
  simp only [Tae,ddT,Zhg,ZkX (some a) l x]
  split
  ·rfl
  ·split <;> rfl
 | some y,a::l,x=>by
  simp only [Tae,ddT,Zhg,ZkX (some a) l x]
  split
  ·rfl
  ·split
   ·rfl
   ·split <;> rfl
theorem Zl4:∀ (p:Option Tm) (l:List Tm) (i:Nat) (y:Tm),l[i]?=some y->Zhg p (l.take (i+1))=some y
 | p,[],i,y,h=>by simp at h
 | p,x::xs,0,y,h=>by simp at h;subst h;simp [Zhg]
 | p,x::xs,i+1,y,h=>by
  simp only [Tbc,Zhg]
  exact Zl4 (some x) xs i y (by simpa using h)
theorem Zqh {l:List Tm} {i:Nat} {x y:Tm} (hx:l[i+1]?=some x) (hy:l[i]?=some y):ddT none (l.take (i+2))=if Zak x y=0 then ddT none (l.take (i+1)) else ddT none (l.take (i+1))++[x]:=by
 have e:l.take (i+2)=l.take (i+1)++[x]:=by simp [List.take_add_one,hx]
 rw [e,ZkX,Zl4 none l i y hy]
theorem ZGg {l:List Tm} {x:Tm} (hx:l[0]?=some x):ddT none (l.take 1)=[x]:=by
 cases l with
 | nil=>simp at hx
 | cons a l=>simp at hx;subst hx;simp [ddT]
def Up (l:List Tm):Prop:=l.Pairwise fun a b=>Zak a b<=0
theorem ZAi:∀ (l:List Tm) (y:Tm),Up l->(∀ x∈l,Zak y x<=0)->Asc (ddT (some y) l)∧(∀ z∈ddT (some y) l,Zak y z < 0)∧∀ z,(z=y∨z∈ddT (some y) l) ↔ (z=y∨z∈l)
 | [],y,_,_=>⟨List.Pairwise.nil,fun z h=>by simp [ddT] at h,fun z=>by simp [ddT]⟩
 | x::xs,y,hu,hy=>by
  have h1:=List.pairwise_cons.1 hu
  have hyx:=hy x Tar
  obtain ⟨k1,k2,k3⟩:=ZAi xs x h1.2 h1.1
  simp only [ddT]
  by_cases h0:Zak x y=0
  ·rw [if_pos h0]
   have e:=ZeZ h0
   subst e
   exact ⟨k1,k2,fun z=>by rw [k3 z];simp⟩
  ·rw [if_neg h0]
   have hlt:Zak y x < 0:=by rw [Zck x y] at hyx ⊢;omega
   refine ⟨List.pairwise_cons.2 ⟨k2,k1⟩,fun z hz=>?_,fun z=>?_⟩
   ·rcases Tbg.1 hz with rfl | hz
    ·exact hlt
    ·exact Zfj hlt (k2 z hz)
   ·have:=k3 z
    simp only [Tbg]
    rw [this]
theorem ZB3 {l:List Tm} (h:Up l):ddT none l=Zdg l:=by
 cases l with
 | nil=>rfl
 | cons x xs =>
  have h1:=List.pairwise_cons.1 h
  obtain ⟨k1,k2,k3⟩:=ZAi xs x h1.2 h1.1
  simp only [ddT]
  refine (ZAh (List.pairwise_cons.2 ⟨k2,k1⟩) fun t=>?_).symm
  simp only [Tbg]
  exact k3 t
def Zat (l:List Tm):List Tm:=l.mergeSort fun a b=>decide (Zak a b<=0)
theorem Za5 (l:List Tm):(Zat l).Perm l:=List.mergeSort_perm l _
theorem Zb9 (l:List Tm):Up (Zat l):=by
 have h:=List.pairwise_mergeSort (le:=fun a b=>decide (Zak a b<=0)) (fun a b c h1 h2=>by simp only [decide_eq_true_eq] at *;exact Zb0 h1 h2) (fun a b=>by
  simp only [Bool.or_eq_true,decide_eq_true_eq]
  have:=Zck a b
  omega) l
 exact h.imp fun h=>by simpa using h
theorem Zj4:∀ {l l':List Tm},Up l->Up l'->l.Perm l'->l=l'
 | [],l',_,_,h=>by have:=h.length_eq;cases l' with | nil=>rfl | cons _ _=>simp at this
 | x::xs,[],_,_,h=>by have:=h.length_eq;simp at this
 | x::xs,y::ys,h1,h2,h=>by
  have p1:=List.pairwise_cons.1 h1
  have p2:=List.pairwise_cons.1 h2
  have hx:x∈y::ys:=h.mem_iff.1 Tar
  have hy:y∈x::xs:=h.mem_iff.2 Tar
  have e:x=y:=by
   rcases Tbg.1 hx with e | hx
   ·exact e
   ·rcases Tbg.1 hy with e | hy
    ·exact e.symm
    ·have a1:=p2.1 x hx
     have a2:=p1.1 y hy
     refine ZeZ ?_
     rw [Zck x y] at a1
     omega
  subst e
  rw [Zj4 p1.2 p2.2 h.cons_inv]
theorem Zr5 {l l':List Tm} (h:l.Perm l'):Zdg l=Zdg l':=(Ze1 l).ext (Ze1 l') fun t=>by rw [Zge,Zge,h.mem_iff]
mutual
theorem ZnW:∀ {a b:Tm},encTm a=encTm b->a=b
 | .mk o n s a,.mk o' n' s' a',h=>by
  simp only [encTm,List.cons.injEq,C.lit.injEq,C.sl.injEq,Value.int.injEq,Value.string.injEq,true_and,and_true] at h
  obtain ⟨rfl,rfl,rfl,h⟩:=h
  rw [Zl5 h]
theorem Zl5:∀ {a b:List Tm},Zab a=Zab b->a=b
 | [],[],_=>rfl
 | [],_::_,h=>by simp [Zab] at h
 | _::_,[],h=>by simp [Zab] at h
 | x::xs,y::ys,h=>by
  simp only [Zab,List.cons.injEq] at h
  rw [ZnW h.1,Zl5 h.2]
end
open Classical in
noncomputable def unT (r:List C):Tm:=if h:∃ t,r=encTm t then h.choose else zTm0
theorem ZuI (t:Tm):unT (encTm t)=t:=by
 have h:∃ t',encTm t=encTm t':=⟨t,rfl⟩
 unfold unT
 rw [dif_pos h]
 exact (ZnW h.choose_spec).symm
theorem ZGh (l:List Tm):(Zab l).map unT=l:=by
 rw [Zbi,List.map_map]
 conv=>rhs;rw [<- List.map_id l]
 exact List.map_congr_left fun t _=>ZuI t
theorem ZdN (l:List Tm) (k:Nat):(Zab l).take k=Zab (l.take k):=by rw [Zbi,Zbi,List.map_take]
theorem Zev (l:List Tm) (k:Nat):(Zab l).drop k=Zab (l.drop k):=by rw [Zbi,Zbi,List.map_drop]
theorem Zcg (a b:List Tm):Zab (a++b)=Zab a++Zab b:=by rw [Zbi,Zbi,Zbi,Tbw]
theorem Zgf (t:Tm):Zab [t]=[encTm t]:=by simp [Zab]
theorem ZgK (a b:Tm):Con e0 62 [.agg (encTm a),.agg (encTm b)] [.one (.lit (.bool (decide (Zak a b=0))))]:=by
 refine gI (ts:=[.slot 4]) 31 Tryz.func62 ?_
 (have F:=@tmz;refine gG ?_;clear F)
 refine gB ?_
 (have F:=@tmz;refine gC (ZlK (Zff a b)) ?_;clear F)
 (have F:=@tmz;refine gR ?_;clear F)
 (have F:=@tmz;refine gG ?_;exact gTd)
theorem ZfO {l m:List Tm} (hp:m.Perm l) (hu:Up m):m=Zat l:=Zj4 hu (Zb9 l) (hp.trans (Za5 l).symm)
theorem Zew {l:List Tm} (hu:Up l):Zat l=l:=(ZfO (List.Perm.refl _) hu).symm
theorem ZcQ (l:List Tm):(Zat l).length=l.length:=(Za5 l).length_eq
theorem Zqi {l m:List Tm} (h:l.Perm m):Zat l=Zat m:=Zj4 (Zb9 l) (Zb9 m) ((Za5 l).trans (h.trans (Za5 m).symm))
theorem Up.get {l:List Tm} (h:Up l) {i j:Nat} {x y:Tm} (hij:i<=j) (hx:l[i]?=some x) (hy:l[j]?=some y):Zak x y<=0:=by
 rcases Nat.lt_or_ge i j with hl | hl
 ·obtain ⟨h1,rfl⟩:=Tac.1 hx
  obtain ⟨h2,rfl⟩:=Tac.1 hy
  exact List.pairwise_iff_getElem.1 h i j h1 h2 hl
 ·obtain rfl:i=j:=by omega
  rw [hx] at hy
  injection hy with hy
  subst hy
  rw [Zdf];omega
theorem ZgL {l:List Tm} {k:Nat} {x:Tm} (h:x∈l.take k):∃ i,i < k∧l[i]?=some x:=by
 obtain ⟨i,hi⟩:=Tbk h
 rw [List.getElem?_take] at hi
 split at hi
 ·exact ⟨i,by assumption,hi⟩
 ·cases hi
theorem ZgM {l:List Tm} {k:Nat} {x:Tm} (h:x∈l.drop k):∃ i,k<=i∧l[i]?=some x:=by
 obtain ⟨i,hi⟩:=Tbk h
 rw [Tbb] at hi
 exact ⟨k+i,by omega,hi⟩
theorem Zo6 {x y:Tm} (h:¬ Zak x y < 0):Zak y x<=0:=by rw [Zck x y];omega
theorem Up.append {l m:List Tm} (hl:Up l) (hm:Up m) (h:∀ x∈l,∀ y∈m,Zak x y<=0):Up (l++m):=List.pairwise_append.2 ⟨hl,hm,h⟩
theorem Up.left {l m:List Tm} (h:Up (l++m)):Up l:=(List.pairwise_append.1 h).1
theorem Up.take {l:List Tm} (h:Up l) (k:Nat):Up (l.take k):=List.Pairwise.sublist (List.take_sublist k l) h
theorem Up.drop {l:List Tm} (h:Up l) (k:Nat):Up (l.drop k):=List.Pairwise.sublist (List.drop_sublist k l) h
theorem Up.put {B:List Tm} {x:Tm} (hB:Up B) {s:Nat} (h1:0 < s->∃ y,B[s - 1]?=some y∧Zak y x<=0) (h2:s < B.length->∃ y,B[s]?=some y∧Zak x y<=0):Up (B.take s++x::B.drop s):=by
 have k2:∀ z∈B.drop s,Zak x z<=0:=fun z hz=>by
  obtain ⟨i,hi,hz⟩:=ZgM hz
  have hl:=(Tac.1 hz).1
  obtain ⟨y,hy,hc⟩:=h2 om
  exact Zb0 hc (hB.get hi hy hz)
 have k1:∀ z∈B.take s,Zak z x<=0:=fun z hz=>by
  obtain ⟨i,hi,hz⟩:=ZgL hz
  obtain ⟨y,hy,hc⟩:=h1 om
  exact Zb0 (hB.get om hz hy) hc
 refine (hB.take s).append (List.pairwise_cons.2 ⟨k2,hB.drop s⟩) fun z hz u hu=>?_
 rcases Tbg.1 hu with rfl | hu
 ·exact k1 z hz
 ·obtain ⟨i,hi,hz⟩:=ZgL hz
  obtain ⟨j,hj,hu⟩:=ZgM hu
  exact hB.get om hz hu
theorem ZB4 {B:List Tm} {x:Tm} (s:Nat):(B.take s++x::B.drop s).Perm (x::B):=by
 refine Tbx.trans ?_
 rw [Tbm]
theorem ZGi {A B:List Tm} (hA:Up A) (hB:Up B) {s e:Nat} (h1:e < B.length->0 < s->∃ x y,A[s - 1]?=some x∧B[e]?=some y∧Zak x y<=0) (h2:0 < e->s < A.length->∃ x y,B[e - 1]?=some x∧A[s]?=some y∧Zak x y<=0):∀ x∈A.take s++B.take e,∀ y∈A.drop s++B.drop e,Zak x y<=0:=by
 intro x hx y hy
 rcases Tbh.1 hx with hx | hx <;> rcases Tbh.1 hy with hy | hy <;> obtain ⟨i,hi,hx⟩:=ZgL hx <;> obtain ⟨j,hj,hy⟩:=ZgM hy
 ·exact hA.get om hx hy
 ·have hl:=(Tac.1 hy).1
  obtain ⟨u,v,hu,hv,huv⟩:=h1 om om
  exact Zb0 (Zb0 (hA.get om hx hu) huv) (hB.get hj hv hy)
 ·have hl:=(Tac.1 hy).1
  obtain ⟨u,v,hu,hv,huv⟩:=h2 om om
  exact Zb0 (Zb0 (hB.get om hx hu) huv) (hA.get hj hv hy)
 ·exact hB.get om hx hy
theorem Zv4 {A1 A2 B1 B2:List Tm} (h:∀ x∈A1++B1,∀ y∈A2++B2,Zak x y<=0):Zat (A1++B1)++Zat (A2++B2)=Zat ((A1++A2)++(B1++B2)):=by
 refine ZfO ?_ ((Zb9 _).append (Zb9 _) fun x hx y hy=>h x ((Za5 _).mem_iff.1 hx) y ((Za5 _).mem_iff.1 hy))
 refine ((Za5 _).append (Za5 _)).trans ?_
 rw [Tbf,Tbf]
 refine List.Perm.append_left _ ?_
 rw [<- Tbf,<- Tbf]
 exact List.Perm.append_right _ List.perm_append_comm
inductive Blks (k:Nat):List Tm->Prop where
 | last {l:List Tm} (hl:l.length<=k) (hu:Up l):Blks k l
 | cons {X r:List Tm} (hl:X.length=k) (hu:Up X) (hr:Blks k r):Blks k (X++r)
inductive Full (k:Nat):List Tm->Prop where
 | nil:Full k []
 | cons {X r:List Tm} (hl:X.length=k) (hu:Up X) (hr:Full k r):Full k (X++r)
theorem Full.snoc {k:Nat} {X Z:List Tm} (h:Full k X) (hl:Z.length=k) (hu:Up Z):Full k (X++Z):=by
 induction h with
 | nil=>have:=Full.cons hl hu Full.nil;rwa [List.append_nil] at this
 | cons h1 h2 _ ih=>rw [Tbf];exact .cons h1 h2 ih
theorem Full.blks {k:Nat} {X Z:List Tm} (h:Full k X) (hl:Z.length<=k) (hu:Up Z):Blks k (X++Z):=by
 induction h with
 | nil=>exact .last hl hu
 | cons h1 h2 _ ih=>rw [Tbf];exact .cons h1 h2 ih
theorem Blks.up {k:Nat} {l:List Tm} (h:Blks k l) (hl:l.length<=k):Up l:=by
 cases h with
 | last h1 h2=>exact h2
 | @cons X r h1 h2 h3 =>
  rw [Tad] at hl
  have:r=[]:=Tan om
  subst this
  rwa [List.append_nil]
theorem Blks.split {k:Nat} {l:List Tm} (h:Blks k l) (hl:k < l.length):∃ X r,l=X++r∧X.length=k∧Up X∧Blks k r:=by
 cases h with
 | last h1 h2=>omega
 | cons h1 h2 h3=>exact ⟨_,_,rfl,h1,h2,h3⟩
theorem Blks.two {k:Nat} {l:List Tm} (h:Blks k l) (hk:0 < k) (hl:2 * k<=l.length):∃ A B r,l=A++B++r∧A.length=k∧B.length=k∧Up A∧Up B∧Blks k r:=by
 obtain ⟨A,r,rfl,h1,h2,h3⟩:=h.split om
 rw [Tad] at hl
 rcases Nat.lt_or_ge k r.length with h4 | h4
 ·obtain ⟨B,r',rfl,h5,h6,h7⟩:=h3.split h4
  exact ⟨A,B,r',by rw [Tbf],h1,h5,h2,h6,h7⟩
 ·exact ⟨A,r,[],by rw [List.append_nil],h1,by omega,h2,h3.up h4,.last (by simp) List.Pairwise.nil⟩
theorem ZhO {A B:List Tm} {x y:Tm} {k:Nat} (h:A.length=k):(A++x::B).set k y=A++y::B:=by
 subst h
 rw [List.set_append_right _ _ (Tah _),Nat.sub_self,List.set_cons_zero]
theorem ZhP {A B:List Tm} {x:Tm} {k:Nat} (h:A.length=k):(A++x::B)[k]?=some x:=by
 subst h
 rw [Tbq (Tah _),Nat.sub_self,Tas]
theorem ZuJ {A B:List Tm} {x y:Tm} {k:Nat} (h:A.length=k):((A++y::x::B).set (k+1) y).set k x=A++x::y::B:=by
 have e1:(A++y::x::B).set (k+1) y=A++y::y::B:=by
  have:=ZhO (A:=A++[y]) (B:=B) (x:=x) (y:=y) (k:=k+1) (by simp [h])
  simpa using this
 rw [e1,ZhO h]
theorem ZB5 {A B:List Tm} {x y:Tm} {k:Nat} (h:A.length=k):((A++y::x::B).set k x).set (k+1) y=A++x::y::B:=by
 have e1:(A++x::x::B).set (k+1) y=A++x::y::B:=by
  have:=ZhO (A:=A++[x]) (B:=B) (x:=x) (y:=y) (k:=k+1) (by simp [h])
  simpa using this
 rw [ZhO h,e1]
theorem Zm0 {A B:List Tm} {x y:Tm} {k:Nat} (h:A.length=k):(A++y::x::B)[k+1]?=some x:=by
 have:=ZhP (A:=A++[y]) (B:=B) (x:=x) (k:=k+1) (by simp [h])
 simpa using this
theorem Zdu {l:List Tm} {i:Nat} {x:Tm} (h:l[i]?=some x):l.drop i=x::l.drop (i+1):=by
 obtain ⟨h1,rfl⟩:=Tac.1 h
 exact List.drop_eq_getElem_cons h1
theorem Zch {l:List Tm} {i:Nat} {x:Tm} (h:l[i]?=some x):l.take (i+1)=l.take i++[x]:=by
 rw [List.take_add_one,h];rfl
def swR (P X Z Y Q:List Tm) (i:Nat):List Tm:=P++(Y.take i++X.drop i)++Z++(X.take i++Y.drop i)++Q
theorem ZB6 (P X Z Y Q:List Tm):swR P X Z Y Q 0=P++X++Z++Y++Q:=by simp [swR]
theorem ZGj {P X Z Y Q:List Tm} (h:X.length=Y.length):swR P X Z Y Q X.length=P++Y++Z++X++Q:=by
 unfold swR
 rw [Tao,List.drop_length,h,Tao,List.drop_length];simp
theorem ZGk {P X Z Y Q:List Tm} (i:Nat) (h:X.length=Y.length):(swR P X Z Y Q i).length=P.length+X.length+Z.length+Y.length+Q.length:=by
 simp only [swR,Tad,Tav,Taw];omega
theorem ZGl {P X Z Y Q:List Tm} {i:Nat} {x y:Tm} (h:X.length=Y.length) (hx:X[i]?=some x) (hy:Y[i]?=some y) :
  (swR P X Z Y Q i)[P.length+i]?=some x∧(swR P X Z Y Q i)[P.length+X.length+Z.length+i]?=some y∧((swR P X Z Y Q i).set (P.length+i) y).set (P.length+X.length+Z.length+i) x=swR P X Z Y Q (i+1):=by
 have hi:=(Tac.1 hx).1
 have hi':=(Tac.1 hy).1
 have e:swR P X Z Y Q i=(P++Y.take i)++x::(X.drop (i+1)++Z++X.take i++y::(Y.drop (i+1)++Q)):=by
  unfold swR;rw [Zdu hx,Zdu hy];simp
 have e2:swR P X Z Y Q i=((P++Y.take i)++x::(X.drop (i+1)++Z++X.take i))++y::(Y.drop (i+1)++Q):=by rw [e];simp
 have l1:(P++Y.take i).length=P.length+i:=by simp;omega
 have l2:∀ z:Tm,((P++Y.take i)++z::(X.drop (i+1)++Z++X.take i)).length=P.length+X.length+Z.length+i:=fun z=>by simp;omega
 refine ⟨by rw [e];exact ZhP l1,by rw [e2];exact ZhP (l2 x),?_⟩
 rw [e,ZhO l1]
 rw [show (P++Y.take i)++y::(X.drop (i+1)++Z++X.take i++y::(Y.drop (i+1)++Q))=((P++Y.take i)++y::(X.drop (i+1)++Z++X.take i))++y::(Y.drop (i+1)++Q) by simp,ZhO (l2 y)]
 unfold swR
 rw [Zch hy,Zch hx];simp
theorem ZB7 {M1 M2:List Tm} {x:Tm} (h:Up (M1++M2)) (h2:∀ y∈M2,Zak x y<=0) (h1:∀ y,M1.getLast?=some y->Zak y x<=0):Up (M1++x::M2):=by
 obtain ⟨u1,u2,u3⟩:=List.pairwise_append.1 h
 refine Up.append u1 (List.pairwise_cons.2 ⟨h2,u2⟩) fun z hz u hu=>?_
 rcases Tbg.1 hu with rfl | hu
 ·obtain ⟨M0,y,rfl⟩:∃ M0 y,M1=M0++[y]:=⟨M1.dropLast,M1.getLast (List.ne_nil_of_mem hz),(List.dropLast_concat_getLast _).symm⟩
  have hy:=h1 y (by simp)
  rcases Tbh.1 hz with hz | hz
  ·exact Zb0 ((List.pairwise_append.1 u1).2.2 z hz y (by simp)) hy
  ·simp only [Tbj] at hz
   subst hz
   exact hy
 ·exact u3 z hz u hu
theorem Zqj {M1 M2 L:List Tm} {x:Tm} (e:M1++M2=Zat L) (h2:∀ y∈M2,Zak x y<=0) (h1:∀ y,M1.getLast?=some y->Zak y x<=0):M1++x::M2=Zat (L++[x]):=by
 have hu:Up (M1++M2):=by rw [e];exact Zb9 _
 refine ZfO ?_ (ZB7 hu h2 h1)
 refine Tbx.trans ?_
 rw [e]
 exact ((Za5 L).cons x).trans (List.perm_append_comm (l₁:=[x]) (l₂:=L))
mutual
def Zdh:Tm->Int->Int
 | .mk _ _ _ args,l=>Zby args (l - 1)
def Zby:List Tm->Int->Int
 | [],l=>l
 | t::ts,l=>if 0<=l then Zby ts (Zdh t l) else l
end
theorem ZAj:∀ l,Zby [] l=l:=fun _=>by rw [Zby]
mutual
theorem Zky:∀ (t:Tm) (l:Int),0<=l->(-1<=Zdh t l∧Zdh t l<=l∧((sizeTm t:Int)<=l->Zdh t l=l - sizeTm t)∧(l < sizeTm t->Zdh t l < 0))
 | .mk _ _ _ args,l,hl=>by
  have:=ZgN args (l - 1) om
  simp only [Zdh,sizeTm]
  refine ⟨this.1,by omega,fun h=>?_,fun h=>?_⟩
  ·have:=this.2.2.1 om;omega
  ·by_cases h1:0<=l - 1
   ·exact this.2.2.2 om
   ·have h2:=this.2.1;omega
theorem ZgN:∀ (ts:List Tm) (l:Int),-1<=l->(-1<=Zby ts l∧Zby ts l<=l∧((sizeTms ts:Int)<=l->Zby ts l=l - sizeTms ts)∧(l < sizeTms ts->Zby ts l < 0))
 | [],l,hl=>by simp only [Zby,sizeTms];omega
 | t::ts,l,hl=>by
  simp only [Zby,sizeTms]
  by_cases h0:0<=l
  ·rw [if_pos h0]
   have h1:=Zky t l h0
   have h2:=ZgN ts (Zdh t l) h1.1
   refine ⟨h2.1,by omega,fun h=>?_,fun h=>?_⟩
   ·have e1:=h1.2.2.1 om
    have e2:=h2.2.2.1 om
    omega
   ·by_cases h3:(sizeTm t:Int)<=l
    ·have e1:=h1.2.2.1 h3
     exact h2.2.2.2 om
    ·have e1:=h1.2.2.2 om
     omega
  ·rw [if_neg h0]
   have:=ZbN ts
   refine ⟨hl,Int.le_refl _,fun h=>by omega,fun h=>by omega⟩
end
theorem Zkz {ts:List Tm} {l:Int} (h:¬ 0<=l):Zby ts l=l:=by
 cases ts with
 | nil=>rfl
 | cons t ts=>simp only [Zby,if_neg h]
theorem Zhy:∀ (a b:List Tm) (l:Int),Zby (a++b) l=Zby b (Zby a l)
 | [],b,l=>rfl
 | t::ts,b,l=>by
  simp only [Tae,Zby]
  by_cases h:0<=l
  ·rw [if_pos h,if_pos h,Zhy]
  ·rw [if_neg h,if_neg h,Zkz h]
theorem Zqk {ts:List Tm} {i:Nat} {t:Tm} {l:Int} (h:ts[i]?=some t) (h0:0<=Zby (ts.take i) l):Zby (ts.take (i+1)) l=Zdh t (Zby (ts.take i) l):=by
 rw [Zcu h,Zhy]
 simp only [Zby,if_pos h0]
theorem Zql {ts:List Tm} {i:Nat} {l:Int} (h0:¬ 0<=Zby (ts.take i) l):Zby ts l=Zby (ts.take i) l:=by
 conv=>lhs;rw [<- Tbm i ts]
 rw [Zhy,Zkz h0]
theorem ZAk (t:Tm) (l:Int):Zdh t l=Zby t.args (l - 1):=by cases t;simp only [Zdh,Tm.args]
theorem Zm1:∀ (n:Nat) (t:Tm) (l:Int),sizeTm t < n->sizeTm t<=big->0<=l->l<=60->Con e0 153 [.agg (encTm t),.one (.lit (.int .i64 l))] [.one (.lit (.int .i64 (Zdh t l)))]:=by
 intro n
 induction n with
 | zero=>intro t l h;omega
 | succ n ih =>
  intro t l hn hb hl0 hl1
  have hsz:=ZaX t
  have hal:=ZbN t.args
  unfold big at hb
  have hw:IntKind.i64.wrap (l - 1)=l - 1:=ZaQ rfl om om
  rw [ZAk]
  refine gI 65591 Tryz.func153 ?_
  (have F:=ai @tmz @hw;refine gG ?_;clear F)
  (have F:=@ZAj;refine gL (ι:=Nat) [1,5,16] [] (fun i=>[(5,A.d (.one (.lit (.int .i64 i)))),(1,A.d (.one (.lit (.int .i64 (Zby (t.args.take i) (l - 1))))))]) (fun i=>[]) (fun i=>i<=t.args.length) (fun i=>t.args.length - i) (0) om (fun i hi=>?_);clear F)
  have hsp:=ZgN (t.args.take i) (l - 1) om
  by_cases hl:i < t.args.length
  rotate_left
  ·have hl':¬ ((i:Int) < (t.args.length:Int)):=by omega
   have e:t.args.take i=t.args:=List.take_of_length_le om
   (have F:=ai @hl' (ai @e @tmz);refine gG ?_;exact gT)
  have hl':(i:Int) < (t.args.length:Int):=by omega
  by_cases h0:0<=Zby (t.args.take i) (l - 1)
  rotate_left
  ·have e:=Zql h0
   (have F:=ai @hl' (ai @h0 (ai @e @tmz));refine gG ?_;exact gT)
  obtain ⟨a,ha⟩:∃ a,t.args[i]?=some a:=⟨_,Taa hl⟩
  have hm:=Zbb (Tab ha)
  have hw1:=Zap (k:=i) om
  have hs:=Zqk ha h0
  (have F:=ai @hl' (ai @h0 (ai @tmz @ha));refine gG ?_;clear F)
  refine gB ?_
  (have F:=ai @tmz @ha;refine gC (ih a _ om (by unfold big;omega) h0 om) ?_;clear F)
  (have F:=@tmz;refine gR ?_;clear F)
  (have F:=ai @hw1 (ai @hs @tmz);refine gG ?_;exact ⟨i+1,by omega,gw,gw,by omega⟩)
theorem ZnX {t:Tm}:0<=Zdh t 60 ↔ sizeTm t<=60:=by
 have:=Zky t 60 om
 by_cases h:sizeTm t<=60
 ·have:=this.2.2.1 om;omega
 ·have:=this.2.2.2 om;omega
theorem Zhz {t:Tm} (hb:sizeTm t<=big):Con e0 95 [.agg (encTm t)] [.one (.lit (.bool (decide (sizeTm t<=60∧depthTm t<=20))))]:=by
 refine gI 7 Tryz.func95 ?_
 (have F:=@tmz;refine gG ?_;clear F)
 refine gB ?_
 (have F:=@tmz;refine gC (Zm1 _ t 60 (Tam _) hb om om) ?_;clear F)
 by_cases h1:sizeTm t<=60
 rotate_left
 ·have h1':¬ (0<=Zdh t 60):=fun h=>h1 (ZnX.1 h)
  (have F:=ai @tmz @h1';refine gR ?_;clear F)
  (have F:=@h1;refine gG ?_;exact gT)
 have h1':(0<=Zdh t 60):=ZnX.2 h1
 (have F:=ai @tmz @h1';refine gC (ZoF hb) ?_;clear F)
 by_cases h2:depthTm t<=20
 ·have h2':((depthTm t:Int)<=20):=by omega
  (have F:=ai @tmz @h2';refine gR ?_;clear F)
  (have F:=ai @h1 @h2;refine gG ?_;exact gT)
 ·have h2':¬ ((depthTm t:Int)<=20):=by omega
  (have F:=ai @tmz @h2';refine gR ?_;clear F)
  (have F:=ai @h1 @h2;refine gG ?_;exact gT)
section
variable {g:Sgn}
open Classical in
noncomputable def Zex (g:Sgn) (t:Tm):Bool:=decide (ZcI g t)
theorem ZfA {t:Tm} (h:ZcI g t):Zex g t=true:=by simp [Zex,h]
theorem Zqm {t:Tm} (h:¬ ZcI g t):Zex g t=false:=by simp [Zex,h]
theorem Zv5 {t:Tm}:Zex g t=true ↔ ZcI g t:=by simp [Zex]
theorem Zv6 (hg:SgnOk g) {t:Tm} (hok:okTm t) (hb:sizeTm t<=big):Con e0 155 [.agg (Zav g),.agg (encTm t)] [.one (.lit (.bool (Zex g t)))]:=by
 have hno:¬ ZcI g t->Zex g t=false:=Zqm
 obtain ⟨k1,k2,k3,k4⟩:=Zfi.1 hok
 have hsz:=ZaX t
 have hal:=ZbN t.args
 have hn8:=hg.sorts.n8
 have hn1:=hg.sorts.n1
 have hln:=hg.len
 unfold big at hb
 have hwn:IntKind.i64.wrap ((g.sorts.names.length:Int) - 1)=(g.sorts.names.length:Int) - 1:=ZaQ rfl om om
 have hwo:IntKind.i64.wrap ((g.ops.length:Int) - 1)=(g.ops.length:Int) - 1:=ZaQ rfl om om
 refine gI 9444733036108034605695 Tryz.func155 ?_
 by_cases h1:t.op=-1
 ·have hV:ZcI g t->ZbI g t:=fun h=>by
   rcases h with h | ⟨o,d,h⟩
   ·exact h
   ·exact absurd h1 h.op
  (have F:=ai @tmz (ai @ZaG @h1);refine gG ?_;clear F)
  refine gB ?_
  (have F:=@tmz;refine gC (ZgF k2) ?_;clear F)
  by_cases h2:Zbm t.name=true
  rotate_left
  ·have h2':Zbm t.name=false:=by simpa using h2
   have hf:=hno fun h=>h2 (hV h).2.1
   (have F:=ai @tmz @h2';refine gR ?_;clear F)
   (have F:=@hf;refine gG ?_;exact gT)
  (have F:=ai @tmz (ai @h2 @hwn);refine gC (ZdE _ _ _) ?_;clear F)
  by_cases h3:0<=t.sort∧t.sort < g.sorts.names.length
  rotate_left
  ·have h3':decide (0<=t.sort∧t.sort<=(g.sorts.names.length:Int) - 1)=false:=by simp only [decide_eq_false_iff_not];omega
   have hf:=hno fun h=>h3 ⟨(hV h).2.2.1,(hV h).2.2.2.1⟩
   (have F:=ai @tmz @h3';refine gR ?_;clear F)
   (have F:=@hf;refine gG ?_;exact gT)
  have h3':decide (0<=t.sort∧t.sort<=(g.sorts.names.length:Int) - 1)=true:=by simp only [decide_eq_true_eq];omega
  by_cases h4:t.args=[]
  ·have hT:=ZfA (g:=g) (.inl ⟨h1,h2,h3.1,h3.2,h4⟩)
   (have F:=ai @tmz (ai @h3' @h4);refine gR ?_;clear F)
   (have F:=@hT;refine gG ?_;exact gT)
  ·have hf:=hno fun h=>h4 (hV h).2.2.2.2
   have h4':¬ ((t.args.length:Int)=0):=by
    intro h;apply h4;apply Tan;omega
   (have F:=ai @tmz (ai @h3' @h4');refine gR ?_;clear F)
   (have F:=@hf;refine gG ?_;exact gT)
 (have F:=ai @tmz (ai @ZaG @h1);refine gG ?_;clear F)
 refine gB ?_
 (have F:=ai @tmz @hwo;refine gC (ZdE _ _ _) ?_;clear F)
 by_cases h2:0<=t.op∧t.op < g.ops.length
 rotate_left
 ·have h2':decide (0<=t.op∧t.op<=(g.ops.length:Int) - 1)=false:=by simp only [decide_eq_false_iff_not];omega
  have hf:=hno fun h=>by
   obtain ⟨o,d,h⟩:=h.app h1
   have:=(Tac.1 h.at').1
   have:=h.lo
   omega
  (have F:=ai @tmz @h2';refine gR ?_;clear F)
  (have F:=@hf;refine gG ?_;exact gT)
 have h2':decide (0<=t.op∧t.op<=(g.ops.length:Int) - 1)=true:=by simp only [decide_eq_true_eq];omega
 by_cases h4:t.name=ByteArray.empty
 rotate_left
 ·have hf:=hno fun h=>by
   obtain ⟨o,d,h⟩:=h.app h1
   exact h4 h.nm
  (have F:=ai @tmz (ai @h2' (ai @Zeh @h4));refine gR ?_;clear F)
  (have F:=@hf;refine gG ?_;exact gT)
 by_cases h5:t.sort=0
 rotate_left
 ·have hf:=hno fun h=>by
   obtain ⟨o,d,h⟩:=h.app h1
   exact h5 h.so
  (have F:=ai @tmz (ai @h2' (ai @Zeh (ai @h4 @h5)));refine gR ?_;clear F)
  (have F:=@hf;refine gG ?_;exact gT)
 have h0:=h2.1
 obtain ⟨o,ho⟩:∃ o,g.ops[t.op.toNat]?=some o:=⟨_,Taa om⟩
 obtain ⟨d,hd,hr0,hr1,hargs⟩:=hg.first ho
 have hgt:ZcI g t->AppOk g t o d:=fun h=>by
  obtain ⟨o',d',h⟩:=h.app h1
  have e1:=h.at'
  rw [ho] at e1
  injection e1 with e1
  subst e1
  have e2:=h.fst
  rw [hd] at e2
  injection e2 with e2
  subst e2
  exact h
 have cA:=Zfw hd
 rw [ZbK] at cA
 (have F:=ai @tmz (ai @h2' (ai @Zeh (ai @h4 @h5)));refine gR ?_;clear F)
 (have F:=ai @tmz (ai @h0 (ai @ho @Zaj));refine gG ?_;clear F)
 cases ha:o.assoc with
 | false =>
  rw [ha] at cA
  refine gB ?_
  (have F:=ai @tmz @ha;refine gC (cA) ?_;clear F)
  by_cases c:t.args.length=d.args.length
  ·have hT:=ZfA (g:=g) (.inr ⟨o,d,h0,ho,hd,h4,h5,fun h=>(by rw [ha] at h;cases h),fun _=>c⟩)
   have c':((t.args.length:Int)=(d.args.length:Int)):=by omega
   (have F:=ai @tmz (ai @c' @ha);refine gR ?_;clear F)
   (have F:=@hT;refine gG ?_;exact gT)
  ·have hf:=hno fun h=>c ((hgt h).nas ha)
   have c':¬ ((t.args.length:Int)=(d.args.length:Int)):=by omega
   (have F:=ai @tmz (ai @c' @ha);refine gR ?_;clear F)
   (have F:=@hf;refine gG ?_;exact gT)
 | true =>
  refine gB ?_
  (have F:=ai @tmz @ha;refine gC (ZdE _ _ _) ?_;clear F)
  by_cases c:2<=t.args.length∧t.args.length<=7
  ·have hT:=ZfA (g:=g) (.inr ⟨o,d,h0,ho,hd,h4,h5,fun _=>c,fun h=>(by rw [ha] at h;cases h)⟩)
   have c':decide ((2:Int)<=(t.args.length:Int)∧(t.args.length:Int)<=7)=true:=by simp only [decide_eq_true_eq];omega
   (have F:=ai @tmz (ai @c' @ha);refine gR ?_;clear F)
   (have F:=@hT;refine gG ?_;exact gT)
  ·have hf:=hno fun h=>c ((hgt h).asc ha)
   have c':decide ((2:Int)<=(t.args.length:Int)∧(t.args.length:Int)<=7)=false:=by simp only [decide_eq_false_iff_not];omega
   (have F:=ai @tmz (ai @c' @ha);refine gR ?_;clear F)
   (have F:=@hf;refine gG ?_;exact gT)
end
end Go.Proofs.YtffmjghcpgpfpaaGreatDoor
