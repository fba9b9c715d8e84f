/-
  Part of a proof: Kb, Mo, Sr, Bg, Dq, Sk, Sj, Qv, Bx, Cv, Mt, Om, Or, Gk, Gx, Cf, Qw, Rd, Dv, Du, Mk, Hd, Os, Hb, Cb, KsBinding, Hz, KsString, KsSub, KtSorts, Mi, KsDecl, KsOp, KtSignature, Cn, QcSignature, QcBindingS.
-/
import Derived.Test.YtffmjghcpgpfpaaGreatDoorBComposeSubstitutionsCard0
import Derived.Test.YtffmjghcpgpfpaaGreatDoorBComposeSubstitutionsCard1
import Derived.Test.YtffmjghcpgpfpaaGreatDoorBComposeSubstitutionsCard2
import Derived.Test.YtffmjghcpgpfpaaGreatDoorBComposeSubstitutionsCard3
set_option linter.unusedSimpArgs false
set_option linter.unusedVariables false
set_option maxHeartbeats 400000000
namespace Go.Proofs.YtffmjghcpgpfpaaGreatDoor
open Go.RowKit
def bs (l:List UInt8):ByteArray:=⟨l.toArray⟩
theorem Zmj (l m:List UInt8):bs l++bs m=bs (l++m):=by
 apply ByteArray.ext
 rw [ByteArray.data_append]
 simp [bs]
theorem Zj1 (l:List UInt8):(bs l).size=l.length:=by show (List.toArray l).size=_;simp
theorem ZnQ (s:ByteArray):bs s.toList=s:=by
 rw [ByteArray.toList_eq]
 unfold bs
 simp
theorem ZtZ {i:Int} (h1:i < 100):(decB i).length<=3:=by
 unfold decB decN
 split <;> split <;> simp
mutual
theorem Zql {g:Sgn} (hg:SgnOk g):∀ (t:Tm),ZaM g t->(ZcT t).length<=22 * sizeTm t
 | .mk op nm so args,h=>by
  have h1:=ZnR hg args (by simp only [ZaM] at h;exact h.2.1)
  have hk:=ZgZ hg _ h
  simp only [Zem] at hk
  obtain ⟨k0,k1,k2,k3,_⟩:=hk
  have d1:=ZtZ (i:=op) om
  simp only [ZcT,sizeTm,List.length_append,List.length_cons,List.length_nil]
  split
  ·have d2:=ZtZ (i:=so) (by have:=(k2 om).2.2;omega)
   have hn:Zbm nm=true:=by
    rcases h.node with hv | ⟨o,d,hA⟩
    ·exact hv.2.1
    ·have:=hA.lo
     have:(Tm.mk op nm so args).op=op:=rfl
     omega
   have h4:¬ 12 < nm.size:=fun h=>by rw [Zcs (.inr (.inl h))] at hn;cases hn
   have h5:nm.toList.length=nm.size:=by rw [ByteArray.toList_eq];exact Array.length_toList
   simp only [List.length_cons,List.length_append]
   omega
  ·simp only [List.length_nil]
   omega
theorem ZnR {g:Sgn} (hg:SgnOk g):∀ (ts:List Tm),Zc7 g ts->(Za9 ts).length<=22 * sizeTms ts
 | [],_=>by simp [Za9,sizeTms]
 | t::ts,h=>by
  simp only [Zc7] at h
  have h1:=Zql hg t h.1
  have h2:=ZnR hg ts h.2
  simp only [Za9,sizeTms,List.length_append]
  omega
end
theorem Zrr {l:List Tm} {i:Nat} {t:Tm} (h:l[i]?=some t):Za9 (l.take (i+1))=Za9 (l.take i)++ZcT t:=by
 rw [show l.take (i+1)=l.take i++[t] by simp [List.take_add_one,h],Zvh]
 simp [Za9]
theorem ZnS:∀ (l:List Tm) (i:Nat),(Za9 (l.take i)).length<=(Za9 l).length
 | [],i=>by simp [Za9]
 | x::xs,0=>by simp [Za9]
 | x::xs,i+1=>by have:=ZnS xs i;simp only [List.take_succ_cons,Za9,List.length_append];omega
theorem Zmk:∀ {ts:List Tm},ZeB ts->∀ t∈ts,Zem t
 | _::_,h,t,ht=>by
  simp only [ZeB] at h
  rcases List.mem_cons.1 ht with rfl | ht
  ·exact h.1
  ·exact Zmk h.2 t ht
def keyP (op:Int) (nm:ByteArray) (so:Int):List UInt8:=decB op++(if op < 0 then 58::(nm.toList++58::decB so) else [])
theorem ZEN (op:Int) (nm:ByteArray) (so:Int) (args:List Tm):ZcT (.mk op nm so args)=keyP op nm so++[40]++Za9 args++[41]:=by
 simp [ZcT,keyP,List.append_assoc]
theorem Zvi:ZaI Tryz.prog 164=some .one:=by kernel_rfl
theorem ZD3:ZaL Tryz.prog 164=some 1:=by kernel_rfl
theorem ZFP:ZaH Tryz.prog 164=some [.lit .nilFunc]:=by kernel_rfl
theorem ZFu:Zaw (.lit .nilFunc)=true:=rfl
theorem ZFv {f:FuncId} {cs:List C}:Zaw (.fn f cs)=true:=rfl
def ptrB (b:Nat):Value:=.pointer (some ⟨b,0,none⟩)
def RKey (bo bv:Nat) (f:FuncId) (s:ByteArray) (r:List D) (pm:List Bk):Prop:=∃ a cap,r=[]∧pm=[.var (some bo) [.lit (.slice a (byR s).length cap)],.buf (some (a,cap)) 5 1 (byR s),.var (some bv) [.fn f [.lit (ptrB bo),.lit (ptrB bv)]]]
theorem gTPk {X:Prop} {P:Program} {ts:List RS} {R:List D->List Bk->Prop} {σ:St} {r:List D} {pm:List Bk} (ks:List Nat) (hR:R r pm) (hx:Zlr P ts R .normal σ->X:=by first | exact fun h=>h | exact fun h=>⟨_,Wk.refl _,h⟩) (hr:resD P σ ts=some r:=by exact sfy) (hg:getM σ.m ks=some pm:=by exact sny) (hn:ks.Nodup:=by decide) (hp:pm.all pinned=true:=by simp only [pz,↓reduceIte,Nat.reduceEqDiff,Nat.reduceAdd,Nat.reduceSub,Nat.reduceMul,Nat.reduceLeDiff,Nat.reduceBEq,Bool.false_eq_true,decide_true,decide_false,Int.reduceLE,Int.reduceToNat,Int.reduceLT,Int.reduceEq,eq_self,Nat.reduceShiftRight,Nat.reduceAnd,Nat.reduceBneDiff]):X :=
 hx ⟨r,ks,pm,hg,hn,hp,hR,ZgH hr⟩
set_option maxRecDepth 100000 in
theorem Zrs (t:Tm) (hk:Zem t) (hsz:sizeTm t<=60) (l:List UInt8) (a:Option Addr) (cap bo bv:Nat) (hne:bo≠bv) (hl:l.length+(ZcT t).length<=90000)
  (h:∀ x∈t.args,∀ (l:List UInt8) (a:Option Addr) (cap:Nat),l.length+(ZcT x).length<=90000->ConP e0 169 [.agg (Zae x),.one (.lit (ptrB bo)),.one (.lit (ptrB bv))] [.var (some bo) [.lit (.slice a (byR (bs l)).length cap)],.buf (some (a,cap)) 5 1 (byR (bs l)),.var (some bv) [.fn 169 [.lit (ptrB bo),.lit (ptrB bv)]]] (RKey bo bv 169 (bs (l++ZcT x)))) :
  ConP e0 169 [.agg (Zae t),.one (.lit (ptrB bo)),.one (.lit (ptrB bv))] [.var (some bo) [.lit (.slice a (byR (bs l)).length cap)],.buf (some (a,cap)) 5 1 (byR (bs l)),.var (some bv) [.fn 169 [.lit (ptrB bo),.lit (ptrB bv)]]] (RKey bo bv 169 (bs (l++ZcT t))):=by
 obtain ⟨op,nm,so,args⟩:=t
 have hc:Zae (.mk op nm so args)=[.lit (.int .i64 op),.lit (.string nm),.lit (.int .i64 so),.sl (Zaf args)]:=by simp only [Zae]
 have hn1:(bo=bv)=False:=eq_false hne
 have hn2:(bv=bo)=False:=eq_false (fun e=>hne e.symm)
 simp only [Tm.args] at h
 have hsl:=ZbL args
 simp only [sizeTm] at hsz
 simp only [ptrB] at h ⊢
 simp only [Zem] at hk
 obtain ⟨k0,k1,k2,k3,k4⟩:=hk
 rw [ZEN] at hl ⊢
 simp only [List.length_append,List.length_cons,List.length_nil] at hl
 have rb:=fun l=>ZD2 (bs l)
 have e0':bs l++decS op=bs (l++decB op):=Zmj _ _
 have c1:=ZkA k0 k1 (bs l) (by rw [Zj1];omega) a cap
 rw [e0'] at c1
 have hP:keyP op nm so=decB op++(if op < 0 then 58::(nm.toList++58::decB so) else []):=rfl
 have ap:=fun (l:List UInt8) (b:UInt8) (b':Int) (hb:b'=b.toNat)=>show byR (bs l)++[[.lit (.int .u8 b')]]=byR (bs (l++[b])) by rw [<- Zmj,<- Zj0,hb];rfl
 have ml:=fun (l:List UInt8) (hl:l.length<=90000)=>show ((byR (bs l)).length+1<=maxApp)=True from eq_true (by rw [ZdT,Zj1];unfold maxApp;omega)
 refine gIP (ts:=[]) [1001,1000,1002] 32212258863 Tryz.func169 ?_
 (have F:=@tmz;have NN:Zah 1:=trivial;refine gGn ?_;clear F NN)
 refine gB ?_
 (have F:=ai @hc (ai @hn1 (ai @hn2 @tmz));refine gCP [1000] [1000] (c1) ?_;clear F)
 rintro r pm ⟨a1,cap1,rfl,rfl⟩
 simp only [setA,retA,zipM,List.cons_append,List.nil_append]
 (have F:=ai @hc (ai @hn1 (ai @hn2 @tmz));refine gR ?_;clear F)
 (have F:=ai @hc @tmz;refine gG ?_;clear F)
 refine gM (ι:=Option Addr × Nat) [] [1000,1001] (fun x=>[]) (fun x=>[(1001,.var (some bo) [.lit (.slice x.1 (byR (bs (l++keyP op nm so))).length x.2)]),(1000,.buf (some (x.1,x.2)) 5 1 (byR (bs (l++keyP op nm so))))]) (fun x=>True) ?_ (fun x hx=>Exists.intro _ (ai (Wk.refl _) ?_))
 ·by_cases ho:op < 0
  ·have q1:(op < 0)=True:=eq_true ho
   rw [if_pos ho] at hP
   obtain ⟨_,s0,s8⟩:=k2 om
   have hnm:(bs (l++decB op++[58]))++nm=bs (l++decB op++[58]++nm.toList):=by rw [<- ZnQ nm,Zmj,ZnQ]
   have e2:bs (l++decB op++[58]++nm.toList++[58])++decS so=bs (l++keyP op nm so):=by
    rw [hP]
    refine (Zmj _ _).trans ?_
    simp [List.append_assoc]
   have hpl:=congrArg List.length hP
   simp only [List.length_append,List.length_cons] at hpl
   have c2:=fun a cap=>ZkA (i:=so) om om (bs (l++decB op++[58]++nm.toList++[58])) (by rw [Zj1];simp only [List.length_append,List.length_cons,List.length_nil];omega) a cap
   rw [e2] at c2
   have m1:=ml (l++decB op) (by simp only [List.length_append];omega)
   have m2:=ml (l++decB op++[58]++nm.toList) (by simp only [List.length_append,List.length_cons,List.length_nil];omega)
   have m3:(byR (bs (l++decB op++[58]))).length+(byR nm).length<=maxApp:=by
    rw [ZdT,ZdT,Zj1]
    have:nm.size=nm.toList.length:=by rw [ByteArray.toList_eq];exact Array.length_toList.symm
    simp only [List.length_append,List.length_cons,List.length_nil]
    unfold maxApp
    omega
   have b1:=rb (l++decB op)
   have b2:=rb (l++decB op++[58]++nm.toList)
   have p1:=ap (l++decB op) 58 58 rfl
   have p2:=ap (l++decB op++[58]++nm.toList) 58 58 rfl
   clear hP hpl ap ml rb
   rw [decide_eq_true ho]
   (have F:=ai @hc @tmz;have NN:Zah 3:=trivial;refine gGn ?_;clear F NN)
   refine gB ?_
   (have F:=ai @m1 (ai @b1 (ai @p1 (ai @hn1 (ai @hn2 @tmz))));refine gP 3 ?_;clear F)
   refine gS 15 fun a2 cap2=>?_
   (have F:=ai @hn1 (ai @hn2 @tmz);refine gR ?_;clear F)
   (have F:=@tmz;have NN:Zah 4:=trivial;refine gGn ?_;clear F NN)
   refine gB ?_
   (have F:=ai @hc (ai @hn1 (ai @hn2 @tmz));refine gP 3 ?_;clear F)
   refine gK 16 ?_
   refine (have F:=tmz;gSt m3 ZtY ?_)
   rw [Zj0,hnm]
   refine gS 19 fun a3 cap3=>?_
   (have F:=ai @hn1 (ai @hn2 @tmz);refine gR ?_;clear F)
   (have F:=@tmz;have NN:Zah 5:=trivial;refine gGn ?_;clear F NN)
   refine gB ?_
   (have F:=ai @m2 (ai @b2 (ai @p2 (ai @hn1 (ai @hn2 @tmz))));refine gP 3 ?_;clear F)
   refine gS 22 fun a4 cap4=>?_
   (have F:=ai @hn1 (ai @hn2 @tmz);refine gR ?_;clear F)
   (have F:=@tmz;have NN:Zah 6:=trivial;refine gGn ?_;clear F NN)
   refine gB ?_
   (have F:=ai @hc (ai @hn1 (ai @hn2 @tmz));refine gCP [22] [1000] (c2 a4 cap4) ?_;clear F)
   rintro r pm ⟨a5,cap5,rfl,rfl⟩
   simp only [setA,retA,zipM,List.cons_append,List.nil_append]
   (have F:=ai @hn1 (ai @hn2 @tmz);refine gR ?_;clear F)
   exact (have F:=tmz;⟨(a5,cap5),trivial,gw,gw⟩)
  ·have q1:(op < 0)=False:=eq_false ho
   rw [if_neg ho,List.append_nil] at hP
   rw [hP,decide_eq_false ho]
   (have F:=ai @hc @tmz;refine gG ?_;exact ⟨(a1,cap1),trivial,gw,gw⟩)
 obtain ⟨a2,cap2⟩:=x
 dsimp only
 have m1:=ml (l++keyP op nm so) (by simp only [List.length_append];omega)
 have b1:=rb (l++keyP op nm so)
 have p1:=ap (l++keyP op nm so) 40 40 rfl
 have e3:l++(keyP op nm so++[40]++Za9 args++[41])=l++keyP op nm so++[40]++Za9 args++[41]:=by simp [List.append_assoc]
 rw [e3]
 have hP2:(l++keyP op nm so++[40]).length=l.length+(keyP op nm so).length+1:=by simp only [List.length_append,List.length_cons,List.length_nil]
 have hal:=ZnS args
 (have F:=@tmz;have NN:Zah 7:=trivial;refine gGn ?_;clear F NN)
 refine gB ?_
 (have F:=ai @m1 (ai @b1 (ai @p1 (ai @hn1 (ai @hn2 @tmz))));refine gP 3 ?_;clear F)
 refine gS 29 fun a3 cap3=>?_
 (have F:=ai @hn1 (ai @hn2 @tmz);refine gR ?_;clear F)
 clear m1 b1 p1 e3 hP c1 e0'
 generalize l++keyP op nm so++[40]=q at hP2 ⊢
 have hq0:q++Za9 []=q:=by simp [Za9]
 (have F:=ai @hc @tmz;refine gG ?_;clear F)
 (have F:=@hq0;refine gL (ι:=Nat × Option Addr × Nat) [5,33,34] [29,1001,1002] (fun x=>[(33,.d (.one (.lit (.int .i64 (x.1:Int)))))]) (fun x=>[(1001,.var (some bo) [.lit (.slice x.2.1 (byR (bs (q++Za9 (args.take x.1)))).length x.2.2)]),(29,.buf (some (x.2.1,x.2.2)) 5 1 (byR (bs (q++Za9 (args.take x.1))))),(1002,.var (some bv) [.fn 169 [.lit (.pointer (some ⟨bo,0,none⟩)),.lit (.pointer (some ⟨bv,0,none⟩))]])]) (fun x=>x.1<=args.length) (fun x=>args.length - x.1) ((0,a3,cap3)) (Nat.zero_le _) (fun x hx=>?_);clear F)
 obtain ⟨i,a4,cap4⟩:=x
 simp only at hx
 dsimp only
 by_cases hlt:i < args.length
 ·obtain ⟨b,hg⟩:∃ b,args[i]?=some b:=⟨_,List.getElem?_eq_getElem hlt⟩
  have q2:((i:Int) < (args.length:Int))=True:=eq_true om
  have q4:IntKind.i64.wrap ((i:Int)+1)=(i:Int)+1:=IntWalk.i64_in _ om
  have hvt:=Zrr hg
  have hle:=hal (i+1)
  rw [hvt,List.length_append] at hle
  have hcon:=h b (List.mem_of_getElem? hg) (q++Za9 (args.take i)) a4 cap4 (by rw [List.length_append];omega)
  rw [List.append_assoc,<- hvt] at hcon
  (have F:=ai @q2 (ai @hc (ai @Zag (ai @ZbS (ai @hg @tmz))));refine gG ?_;clear F)
  refine gB ?_
  (have F:=ai @Zvi (ai @hn1 (ai @hn2 @tmz));refine gCP [1001,29,1002] [1001,29,1002] (hcon) ?_;clear F)
  rintro r pm ⟨a5,cap5,rfl,rfl⟩
  simp only [ptrB,setA,retA,zipM,List.cons_append,List.nil_append]
  (have F:=@tmz;refine gR ?_;clear F)
  (have F:=@q4;refine gG ?_;exact ⟨(i+1,a5,cap5),hlt,gw,gw,by omega⟩)
 ·obtain rfl:i=args.length:=by omega
  have q2:((args.length:Int) < (args.length:Int))=False:=eq_false om
  rw [List.take_length]
  have m1:=ml (q++Za9 args) (by rw [List.length_append];omega)
  have b1:=rb (q++Za9 args)
  have p1:=ap (q++Za9 args) 41 41 rfl
  (have F:=@q2;have NN:Zah 13:=trivial;refine gGn ?_;clear F NN)
  refine gB ?_
  (have F:=ai @m1 (ai @b1 (ai @p1 (ai @hn1 (ai @hn2 @tmz))));refine gP 3 ?_;clear F)
  refine gS 43 fun a5 cap5=>?_
  (have F:=ai @hn1 (ai @hn2 @tmz);refine gR ?_;clear F)
  exact (have F:=tmz;gTPk (R:=RKey bo bv 169 (bs (q++Za9 args++[41]))) [1001,43,1002] ⟨a5,cap5,rfl,rfl⟩)
theorem Zvj (bo bv:Nat) (hne:bo≠bv) (n:Nat):∀ (t:Tm),sizeTm t < n->Zem t->sizeTm t<=60->∀ (l:List UInt8) (a:Option Addr) (cap:Nat),l.length+(ZcT t).length<=90000->ConP e0 169 [.agg (Zae t),.one (.lit (ptrB bo)),.one (.lit (ptrB bv))] [.var (some bo) [.lit (.slice a (byR (bs l)).length cap)],.buf (some (a,cap)) 5 1 (byR (bs l)),.var (some bv) [.fn 169 [.lit (ptrB bo),.lit (ptrB bv)]]] (RKey bo bv 169 (bs (l++ZcT t))):=by
 induction n with
 | zero=>exact fun _ h=>by omega
 | succ n ih =>
  intro t hn hk hsz l a cap hl
  refine Zrs t hk hsz l a cap bo bv hne hl fun x hx l a cap hl2=>ih x ?_ ?_ ?_ l a cap hl2
  ·have:=Zbt hx
   rw [Zbg] at hn
   omega
  ·obtain ⟨op,nm,so,args⟩:=t
   simp only [Zem] at hk
   exact Zmk hk.2.2.2.2 x hx
  ·have:=Zbt hx
   rw [Zbg] at hsz
   omega
theorem ZAJ:Zft e0.P 162 9=true:=by kernel_rfl
set_option maxRecDepth 100000 in
theorem Zzm {g:Sgn} (hg:SgnOk g) {t:Tm} (hf:ZaM g t) (hsz:sizeTm t<=60):Con e0 109 [.agg (Zae t)] [.one (.lit (.string (keyS t)))]:=by
 have hks:=Zql hg t hf
 have hby0:byR (bs [])=[]:=rfl
 refine gI (ts:=[.slot 2]) 31 Tryz.func109 ?_
 (have F:=@tmz;have NN:Zah 1:=trivial;refine gGn ?_;clear F NN)
 refine gB ?_
 (have F:=@tmz;refine gP 1 ?_;clear F)
 refine gO 5 5 1 ?_
 refine gS 5 fun a cap=>?_
 (have F:=@tmz;refine gR ?_;clear F)
 (have F:=ai @ZFP (ai @ZD3 @tmz);have NN:Zah 3:=trivial;refine gGn ?_;clear F NN)
 refine pV 3 fun b3 hb3=>?_
 refine pV 4 fun b4 hb4=>?_
 have hne:b3≠b4:=fun e=>hb4 3 b3 _ (by decide) rfl e.symm
 clear hb3 hb4
 have hn1:(b3=b4)=False:=eq_false hne
 have hn2:(b4=b3)=False:=eq_false (fun e=>hne e.symm)
 (have F:=ai @Zvi (ai @ZD3 (ai @ZFu (ai @ZFv (ai @hn1 (ai @hn2 @tmz)))));have NN:Zah 4:=trivial;refine gGn ?_;clear F NN)
 refine gB ?_
 have hcon:=Zvj b3 b4 hne _ t (Nat.lt_succ_self _) (ZgZ hg t hf) hsz [] a cap (by simp only [List.length_nil];omega)
 simp only [ptrB,hby0,List.length_nil,List.nil_append] at hcon
 (have F:=ai @Zvi (ai @hn1 (ai @hn2 @tmz));refine gCP [3,5,4] [3,5,4] (hcon) ?_;clear F)
 rintro r pm ⟨a2,cap2,rfl,rfl⟩
 simp only [ptrB,setA,retA,zipM,List.cons_append,List.nil_append]
 (have F:=@tmz;refine gR ?_;clear F)
 refine ZdH ?_
 refine gB ?_
 (have F:=ai @hn1 (ai @hn2 @tmz);refine gP 1 ?_;clear F)
 refine gK 10 ?_
 refine (have F:=tmz;gTx (k:=5) (bs (ZcT t)) ZAJ ?_)
 (have F:=@tmz;refine gR ?_;clear F)
 (have F:=@tmz;refine gG ?_;exact gTd)
end Go.Proofs.YtffmjghcpgpfpaaGreatDoor
namespace Go.Proofs.YtffmjghcpgpfpaaGreatDoor
open Go.RowKit Go.MapKept Go.ChangeMaps
theorem Zml {l:List (ByteArray × Value)} {k s:ByteArray} {v:Value}:ZbK (l++[(k,v)]) s=(ZbK l s).or (if s.toList=k.toList then some v else none):=by
 unfold ZbK
 rw [List.find?_append]
 cases h:l.find? fun p=>s.toList==p.1.toList with
 | some p=>simp
 | none =>
  by_cases e:s.toList=k.toList
  ·simp [List.find?,e]
  ·have e2:(s.toList==k.toList)=false:=beq_eq_false_iff_ne.2 e
   simp only [List.find?,e2,Option.or,if_neg e,Option.map_none]
def Memo (g:Sgn) (l:List (ByteArray × Value)):Prop:=∀ u,ZaM g u->∀ v,ZbK l (keyS u)=some v->v=.int .i64 (sortsTm g u:Nat)
def Grew (g:Sgn) (n:Nat) (l l':List (ByteArray × Value)):Prop:=∀ u,ZaM g u->n < sizeTm u->ZbK l (keyS u)=none->ZbK l' (keyS u)=none
theorem Grew.refl {g:Sgn} {n:Nat} {l:List (ByteArray × Value)}:Grew g n l l:=fun _ _ _ h=>h
theorem Grew.trans {g:Sgn} {n:Nat} {l l' l'':List (ByteArray × Value)} (h:Grew g n l l') (h':Grew g n l' l''):Grew g n l l'':=fun u hu hs h0=>h' u hu hs (h u hu hs h0)
theorem Grew.mono {g:Sgn} {n m:Nat} {l l':List (ByteArray × Value)} (h:Grew g n l l') (hn:n<=m):Grew g m l l':=fun u hu hs h0=>h u hu om h0
theorem Memo.nil {g:Sgn}:Memo g []:=fun u _ v h=>by simp [ZbK] at h
theorem Memo.snoc {g:Sgn} (hg:SgnOk g) {l:List (ByteArray × Value)} (h:Memo g l) {t:Tm} (ht:ZaM g t):Memo g (l++[(keyS t,.int .i64 (sortsTm g t:Nat))]):=by
 intro u hu v hv
 rw [Zml] at hv
 cases hl:ZbK l (keyS u) with
 | some x =>
  rw [hl] at hv
  simp only [Option.some_or,Option.some.injEq] at hv
  subst hv
  exact h u hu _ hl
 | none =>
  rw [hl,Option.none_or] at hv
  by_cases e:(keyS u).toList=(keyS t).toList
  ·rw [if_pos e] at hv
   obtain rfl:=Zqj hg hu ht e
   simpa using hv.symm
  ·rw [if_neg e] at hv;cases hv
theorem Grew.snoc {g:Sgn} (hg:SgnOk g) {l:List (ByteArray × Value)} {t:Tm} (ht:ZaM g t) {v:Value}:Grew g (sizeTm t) l (l++[(keyS t,v)]):=by
 intro u hu hs h0
 rw [Zml,h0,Option.none_or,if_neg]
 intro e
 obtain rfl:=Zqj hg hu ht e
 omega
section
variable {e:Env} {K:St->Prop} {ds:List (Option Nat)} {os:List Oper} {s:List (Nat × A)} {m:List (Nat × Bk)}
theorem gLo {d t ty:Nat} {p:String} {ed:Array Edge} {x y:Operand} {b:Nat} {l:List (ByteArray × Value)} {k:ByteArray} {kt el:TypeId} {z v:Value} {f:Bool} (κ:Nat) (ht:e.P.underlying t=some (.map kt el)) (hk:e.P.underlying kt=some .string) (hz:∀ w,(zeroValue el).run e.P w=.ok z w) (hv:(ZbK l k).getD z=v) (hf:(ZbK l k).isSome=f)
  (hK:Runs e ds 0 os ⟨(d,.tup [.one (.lit v),.one (.lit (.bool f))])::s,m⟩ K) (hx:evA s x=.d (.one (.lit (.map (some b)))):=by exact sfx) (hy:evA s y=.d (.one (.lit (.string k))):=by exact sfx) (hm:gm m κ=some (mapB b l):=by exact snx):Runs e ds 0 (⟨some d,.lookup t x y true,ty,p,ed,none⟩::os) ⟨s,m⟩ K :=
 Zgk rfl (Znz rfl ht hk hz hx hy hm (α:=.tup [.one (.lit v),.one (.lit (.bool f))]) (fun w S L=>by
  rw [hv,hf]
  exact ⟨[v,.bool f],rfl,by simp [ZaC,DRel,Rep]⟩) hK)
theorem Zgv:e0.P.underlying 146=some (.map 9 3):=by kernel_rfl
theorem Zzn:∀ w,(zeroValue 3).run e0.P w=.ok (.int .i64 0) w:=fun w=>by kernel_rfl
end
end Go.Proofs.YtffmjghcpgpfpaaGreatDoor
namespace Go.Proofs.YtffmjghcpgpfpaaGreatDoor
open Go.RowKit
theorem Zf2 {e:Env} {f:FuncId} {a b:D} {rows:List (List C)} {r:List D} (h:Con e f [a,b,.one (.sl rows)] r):Con e f [a,b,.clip rows] r :=
 ⟨h.1,fun w S vs hS hE hG hv=>h.2 w S vs hS hE hG (by
  match vs,hv with
  | [x,y,z],hv=>exact ⟨hv.1,hv.2.1,hv.2.2.1.1,trivial⟩)⟩
def FitN (d:Dcl) (sets:List Nat) (n:Nat):Prop:=∀ (i:Nat) k s,i < n->d.args[i]?=some k->sets[i]?=some s->s.testBit k.toNat=true
theorem FitN.zero {d:Dcl} {sets:List Nat}:FitN d sets 0:=fun i k s h=>absurd h (Nat.not_lt_zero i)
theorem FitN.succ {d:Dcl} {sets:List Nat} {n:Nat} {k:Int} {s:Nat} (hk:d.args[n]?=some k) (hs:sets[n]?=some s):FitN d sets (n+1) ↔ FitN d sets n∧s.testBit k.toNat=true:=by
 constructor
 ·exact fun h=>⟨fun i k s hi=>h i k s om,h n k s om hk hs⟩
 ·rintro ⟨h1,h2⟩ i k' s' hi hk' hs'
  by_cases e:i=n
  ·subst e
   rw [hk] at hk'
   rw [hs] at hs'
   injection hk' with hk'
   injection hs' with hs'
   subst hk' hs'
   exact h2
  ·exact h1 i k' s' om hk' hs'
theorem FitN.full {d:Dcl} {sets:List Nat}:FitN d sets d.args.length ↔ ∀ (i:Nat) k s,d.args[i]?=some k->sets[i]?=some s->s.testBit k.toNat=true :=
 ⟨fun h i k s hk hs=>h i k s (List.getElem?_eq_some_iff.1 hk).1 hk hs,fun h i k s _ hk hs=>h i k s hk hs⟩
def GvB (g:Sgn) (P:Dcl->Prop) (ds:List Dcl) (b:Nat):Prop:=∃ d∈ds,P d∧(upk g d.res).testBit b=true
theorem ZEO {g:Sgn} {P:Dcl->Prop} {N:Nat}:ofB (GvB g P []) N=0:=ZgW fun b _ h=>by
 obtain ⟨d,hd,_⟩:=h
 cases hd
theorem ZFw {g:Sgn} {P:Dcl->Prop} {N:Nat} {ds:List Dcl} {d:Dcl} (h:P d) (hu:upk g d.res < 2 ^ N):ofB (GvB g P (ds++[d])) N=ofB (GvB g P ds) N ||| upk g d.res:=by
 rw [<- ZgX hu,Zf1]
 refine Za0 fun b _=>?_
 constructor
 ·rintro ⟨x,hx,h1,h2⟩
  rcases List.mem_append.1 hx with hx | hx
  ·exact .inl ⟨x,hx,h1,h2⟩
  ·rw [List.mem_singleton.1 hx] at h2;exact .inr h2
 ·rintro (⟨x,hx,h1,h2⟩ | h2)
  ·exact ⟨x,List.mem_append_left _ hx,h1,h2⟩
  ·exact ⟨d,List.mem_append_right _ (List.mem_singleton.2 rfl),h,h2⟩
theorem ZFQ {g:Sgn} {P:Dcl->Prop} {N:Nat} {ds:List Dcl} {d:Dcl} (h:¬ P d):ofB (GvB g P (ds++[d])) N=ofB (GvB g P ds) N:=by
 refine Za0 fun b _=>?_
 constructor
 ·rintro ⟨x,hx,h1,h2⟩
  rcases List.mem_append.1 hx with hx | hx
  ·exact ⟨x,hx,h1,h2⟩
  ·rw [List.mem_singleton.1 hx] at h1;exact absurd h1 h
 ·rintro ⟨x,hx,h1,h2⟩
  exact ⟨x,List.mem_append_left _ hx,h1,h2⟩
theorem ZFx {g:Sgn} {o:Opr} {sets:List Nat} {N:Nat}:ofB (GvB g (fun d=>FitN d sets d.args.length∨(o.comm=true∧FitN d sets.reverse d.args.length)) o.decls) N=ofB (AnyB g o sets) N:=by
 refine Za0 fun b _=>?_
 unfold AnyB Zdj
 constructor
 ·rintro ⟨d,hd,h1,h2⟩
  rcases h1 with h1 | ⟨h0,h1⟩
  ·exact .inl ⟨d,hd,FitN.full.1 h1,h2⟩
  ·exact .inr ⟨h0,d,hd,FitN.full.1 h1,h2⟩
 ·rintro (⟨d,hd,h1,h2⟩ | ⟨h0,d,hd,h1,h2⟩)
  ·exact ⟨d,hd,.inl (FitN.full.2 h1),h2⟩
  ·exact ⟨d,hd,.inr ⟨h0,FitN.full.2 h1⟩,h2⟩
theorem ZbB {v N:Nat} (h:v < 2 ^ N) (hN:N<=8):v < 4611686018427387904:=by
 have:2 ^ N<=2 ^ 8:=Nat.pow_le_pow_right om hN
 omega
section
variable {g:Sgn} {mc:C}
open Classical in
set_option maxRecDepth 100000 in
theorem ZhB (hg:SgnOk g) {op:Int} {o:Opr} (h0:0<=op) (ho:g.ops[op.toNat]?=some o) (sets:List Nat) (hlen:∀ d∈o.decls,d.args.length=sets.length) (hsl:sets.length<=3) (hs:∀ s∈sets,s < 2 ^ g.sorts.names.length):Con e0 175 [.one (.ptr (encX g mc)),.one (.lit (.int .i64 op)),.one (.sl (nR sets))] [.one (.lit (.int .i64 ((ofB (AnyB g o sets) g.sorts.names.length:Nat):Int)))]:=by
 have hN:=hg.sorts.n8
 have hD:=hg.decls o (List.mem_of_getElem? ho)
 have hdl:o.decls.length<=4:=hD.len4
 rw [<- ZFx]
 generalize hPd:(fun d=>FitN d sets d.args.length∨(o.comm=true∧FitN d sets.reverse d.args.length))=P
 have z0:ofB (GvB g P []) g.sorts.names.length=0:=ZEO
 have z1:((ofB (GvB g P []) g.sorts.names.length:Nat):Int)=0:=by rw [z0];rfl
 have hUl:(nR (up g.sorts)).length=g.sorts.names.length:=by rw [ZaQ,ZpP hg.sorts]
 refine gI (ts:=[.slot 6]) 1180591620846512012743 Tryz.func175 ?_
 (have F:=ai @Za8 (ai @h0 (ai @ho (ai @Zaj @tmz)));refine gG ?_;clear F)
 (have F:=@tmz;refine gL (ι:=Nat × Nat) [8,10,11,12,13,14,26,27,33,34,35,36,70] [] (fun x=>[(26,A.d (.one (.lit (.int .i64 x.1)))),(8,A.d (.one (.lit (.int .i64 x.2))))]) (fun x=>[]) (fun x=>x.1<=o.decls.length∧x.2=ofB (GvB g P (o.decls.take x.1)) g.sorts.names.length) (fun x=>o.decls.length - x.1) ((0,0)) (⟨Nat.zero_le _,z0.symm⟩) (fun x hx=>?_);clear F)
 obtain ⟨i,out⟩:=x
 obtain ⟨hi,hout⟩:=hx
 simp only at hi hout
 subst hout
 dsimp only
 have hob:ofB (GvB g P (o.decls.take i)) g.sorts.names.length < 2 ^ g.sorts.names.length:=ZbY _ _
 have hob62:=ZbB hob hN
 by_cases hlt:i < o.decls.length
 rotate_left
 ·obtain rfl:i=o.decls.length:=by omega
  have q1:((o.decls.length:Int) < (o.decls.length:Int))=False:=eq_false om
  rw [List.take_length]
  (have F:=ai @q1 @tmz;refine gG ?_;exact gTd)
 obtain ⟨d,hdi⟩:∃ d,o.decls[i]?=some d:=⟨_,List.getElem?_eq_getElem hlt⟩
 have hdm:=List.mem_of_getElem? hdi
 have hdl2:=hlen d hdm
 obtain ⟨f,hf,_⟩:=hg.first ho
 have hdo:=hD.all f hf d hdm
 have q1:((i:Int) < (o.decls.length:Int))=True:=eq_true om
 have hw1:=Zay (k:=i) om
 have hsnoc:o.decls.take (i+1)=o.decls.take i++[d]:=by simp [List.take_add_one,hdi]
 (have F:=ai @q1 (ai @hdi @tmz);have NN:Zah 6:=trivial;refine gGn ?_;clear F NN)
 refine Zaq 4 (by decide +kernel) ?_
 intro ds hds
 simp only [List.map] at hds
 subst hds
 (have F:=ai @Zaj @tmz;refine gP 2 ?_;clear F)
 refine (have F:=tmz;gAq ?_)
 refine (have F:=tmz;gAq ?_)
 (have F:=@tmz;refine gR ?_;clear F)
 (have F:=ai @ZaS @tmz;refine gG ?_;clear F)
 (have F:=@tmz;refine gL (ι:=Nat × Bool × Bool) [11,12,13,14,35,36] [] (fun y=>[(35,A.d (.one (.lit (.int .i64 y.1)))),(11,A.d (.one (.lit (.bool y.2.1)))),(12,A.d (.one (.lit (.bool y.2.2))))]) (fun y=>[]) (fun y=>y.1<=d.args.length∧y.2.1=decide (FitN d sets y.1)∧y.2.2=decide (o.comm=true∧FitN d sets.reverse y.1)) (fun y=>d.args.length - y.1) ((0,true,o.comm)) (⟨Nat.zero_le _,(decide_eq_true FitN.zero).symm,by cases o.comm <;> simp [FitN.zero]⟩) (fun y hy=>?_);clear F)
 obtain ⟨j,b1,b2⟩:=y
 obtain ⟨hj,hb1,hb2⟩:=hy
 simp only at hj hb1 hb2
 dsimp only
 by_cases hjl:j < d.args.length
 ·obtain ⟨k,hk⟩:∃ k,d.args[j]?=some k:=⟨_,List.getElem?_eq_getElem hjl⟩
  have hkr:=hdo.args k (List.mem_of_getElem? hk)
  obtain ⟨kn,rfl⟩:∃ kn:Nat,k=kn:=⟨k.toNat,by omega⟩
  obtain ⟨s,hsj⟩:∃ s,sets[j]?=some s:=⟨_,List.getElem?_eq_getElem om⟩
  obtain ⟨s',hsj'⟩:∃ s,sets[sets.length - 1 - j]?=some s:=⟨_,List.getElem?_eq_getElem om⟩
  have hrv:sets.reverse[j]?=some s':=by rw [List.getElem?_reverse om];exact hsj'
  have b62:=ZbB (hs s (List.mem_of_getElem? hsj)) hN
  have b62':=ZbB (hs s' (List.mem_of_getElem? hsj')) hN
  have q2:((j:Int) < (d.args.length:Int))=True:=eq_true om
  have hwj:=Zay (k:=j) om
  have r1:=ZaP hsj
  have r2:=ZaP hsj'
  have rl:=ZaQ (l:=sets)
  have rr:=ZaN (l:=sets)
  have h1:=Zgj (k:=kn) om
  have h2:=ZlR (x:=s) (k:=kn) b62 om
  have h3:=ZlR (x:=s') (k:=kn) b62' om
  have w1:IntKind.i64.wrap ((sets.length:Int) - 1)=((sets.length - 1:Nat):Int):=ZaV om om om
  have w2:IntKind.i64.wrap (((sets.length - 1:Nat):Int) - (j:Int))=((sets.length - 1 - j:Nat):Int):=ZaV om om om
  have i1:(j < sets.length)=True:=eq_true om
  have i2:(sets.length - 1 - j < sets.length)=True:=eq_true om
  have hf1:=FitN.succ (n:=j) hk hsj
  have hf2:=FitN.succ (sets:=sets.reverse) (n:=j) hk hrv
  rw [show (kn:Int).toNat=kn from rfl] at hf1 hf2
  (have F:=ai @q2 (ai @hk (ai @Za4 @tmz));have NN:Zah 10:=trivial;refine gGn ?_;clear F NN)
  refine gM (ι:=Bool) [11] [] (fun b=>[(11,A.d (.one (.lit (.bool b))))]) (fun b=>[]) (fun b=>b=decide (FitN d sets (j+1))) ?_ (fun b hb=>Exists.intro _ (ai (Wk.refl _) ?_))
  ·cases b1 with
   | false =>
    have e:false=decide (FitN d sets (j+1)):=(decide_eq_false fun h=>by
     have:=hf1.1 h
     rw [decide_eq_true this.1] at hb1
     cases hb1).symm
    (have F:=@tmz;refine gG ?_;exact ⟨false,e,gw,gw⟩)
   | true =>
    have hb1':=of_decide_eq_true hb1.symm
    cases ht:tbit s kn with
    | false =>
     rw [ht] at h2
     have e:false=decide (FitN d sets (j+1)):=(decide_eq_false fun h=>by
      have:=(hf1.1 h).2
      rw [show s.testBit kn=false from ht] at this
      cases this).symm
     (have F:=ai @r1 (ai @rl (ai @rr (ai @h1 (ai @h2 (ai @i1 (ai @Zas @tmz))))));refine gG ?_;exact ⟨false,e,gw,gw⟩)
    | true =>
     rw [ht] at h2
     have e:true=decide (FitN d sets (j+1)):=(decide_eq_true (hf1.2 ⟨hb1',ht⟩)).symm
     (have F:=ai @r1 (ai @rl (ai @rr (ai @h1 (ai @h2 (ai @i1 (ai @Zas @tmz))))));refine gG ?_;exact ⟨true,e,gw,gw⟩)
  clear hb1
  (have F:=@tmz;have NN:Zah 11:=trivial;refine gGn ?_;clear F NN)
  refine gM (ι:=Bool) [12] [] (fun c=>[(12,A.d (.one (.lit (.bool c))))]) (fun c=>[]) (fun c=>c=decide (o.comm=true∧FitN d sets.reverse (j+1))) ?_ (fun c hc=>Exists.intro _ (ai (Wk.refl _) ?_))
  ·cases b2 with
   | false =>
    have e:false=decide (o.comm=true∧FitN d sets.reverse (j+1)):=(decide_eq_false fun h=>by
     have:=hf2.1 h.2
     rw [decide_eq_true ⟨h.1,this.1⟩] at hb2
     cases hb2).symm
    (have F:=@tmz;refine gG ?_;exact ⟨false,e,gw,gw⟩)
   | true =>
    have hb2':=of_decide_eq_true hb2.symm
    cases ht:tbit s' kn with
    | false =>
     rw [ht] at h3
     have e:false=decide (o.comm=true∧FitN d sets.reverse (j+1)):=(decide_eq_false fun h=>by
      have:=(hf2.1 h.2).2
      rw [show s'.testBit kn=false from ht] at this
      cases this).symm
     (have F:=ai @r2 (ai @rl (ai @rr (ai @w1 (ai @w2 (ai @h1 (ai @h3 (ai @i2 (ai @Zas @tmz))))))));refine gG ?_;exact ⟨false,e,gw,gw⟩)
    | true =>
     rw [ht] at h3
     have e:true=decide (o.comm=true∧FitN d sets.reverse (j+1)):=(decide_eq_true ⟨hb2'.1,hf2.2 ⟨hb2'.2,ht⟩⟩).symm
     (have F:=ai @r2 (ai @rl (ai @rr (ai @w1 (ai @w2 (ai @h1 (ai @h3 (ai @i2 (ai @Zas @tmz))))))));refine gG ?_;exact ⟨true,e,gw,gw⟩)
  (have F:=ai @hwj @tmz;refine gG ?_;exact ⟨(j+1,b,c),⟨hjl,hb,hc⟩,gw,gw,by omega⟩)
 ·obtain rfl:j=d.args.length:=by omega
  have q2:((d.args.length:Int) < (d.args.length:Int))=False:=eq_false om
  have hPi:P d ↔ FitN d sets d.args.length∨(o.comm=true∧FitN d sets.reverse d.args.length):=by rw [<- hPd]
  have hres:=ZhS hg.sorts hdo.res.1 hdo.res.2
  have ru:=Znu hres.1
  have rr:=ZaN (l:=up g.sorts)
  have ho2:=Zdx hob62 (ZbB hres.2 hN)
  have hr0:=hdo.res.1
  have hr1:=hdo.res.2
  have hrl:(d.res.toNat < g.sorts.names.length)=True:=eq_true om
  by_cases hp:P d
  ·have hor:(b1 || b2)=true:=by
    rcases hPi.1 hp with h | h
    ·rw [hb1,decide_eq_true h];rfl
    ·rw [hb2,decide_eq_true h,Bool.or_true]
   have e:=ZFw (N:=g.sorts.names.length) (ds:=o.decls.take i) hp hres.2
   rw [<- hsnoc] at e
   rw [<- e] at ho2
   cases b1 with
   | true => 
    (have F:=ai @q2 (ai @Za8 (ai @ru (ai @Za4 (ai @hr0 (ai @ho2 (ai @hw1 @tmz))))));refine gG ?_;exact ⟨(i+1,ofB (GvB g P (o.decls.take (i+1))) g.sorts.names.length),⟨hlt,rfl⟩,gw,gw,by omega⟩)
   | false =>
    rw [Bool.false_or] at hor
    subst hor
    (have F:=ai @q2 (ai @Za8 (ai @ru (ai @Za4 (ai @hr0 (ai @ho2 (ai @hw1 @tmz))))));refine gG ?_;exact ⟨(i+1,ofB (GvB g P (o.decls.take (i+1))) g.sorts.names.length),⟨hlt,rfl⟩,gw,gw,by omega⟩)
  ·have h1:b1=false:=by rw [hb1];exact decide_eq_false fun h=>hp (hPi.2 (.inl h))
   have h2:b2=false:=by rw [hb2];exact decide_eq_false fun h=>hp (hPi.2 (.inr h))
   subst h1 h2
   have e:=ZFQ (g:=g) (N:=g.sorts.names.length) (ds:=o.decls.take i) hp
   rw [<- hsnoc] at e
   rw [<- e]
   (have F:=ai @q2 (ai @hw1 @tmz);refine gG ?_;exact ⟨(i+1,ofB (GvB g P (o.decls.take (i+1))) g.sorts.names.length),⟨hlt,rfl⟩,gw,gw,by omega⟩)
def ClB (g:Sgn) (v n b:Nat):Prop:=∃ k,k < n∧v.testBit k=true∧((up g.sorts).getD k 0).testBit b=true
theorem ZEP {v n N:Nat} (h:tbit v n=true) (hu:(up g.sorts).getD n 0 < 2 ^ N):ofB (ClB g v (n+1)) N=ofB (ClB g v n) N ||| (up g.sorts).getD n 0:=by
 rw [<- ZgX hu,Zf1]
 refine Za0 fun b _=>?_
 constructor
 ·rintro ⟨k,h1,h2,h3⟩
  by_cases e:k=n
  ·subst e;exact .inr h3
  ·exact .inl ⟨k,by omega,h2,h3⟩
 ·rintro (⟨k,h1,h2,h3⟩ | h3)
  ·exact ⟨k,by omega,h2,h3⟩
  ·exact ⟨n,by omega,h,h3⟩
theorem ZEQ {v n N:Nat} (h:tbit v n=false):ofB (ClB g v (n+1)) N=ofB (ClB g v n) N:=by
 refine Za0 fun b _=>?_
 constructor
 ·rintro ⟨k,h1,h2,h3⟩
  by_cases e:k=n
  ·subst e
   rw [show v.testBit k=false from h] at h2
   cases h2
  ·exact ⟨k,by omega,h2,h3⟩
 ·rintro ⟨k,h1,h2,h3⟩
  exact ⟨k,by omega,h2,h3⟩
theorem ZER {v N:Nat}:ofB (ClB g v 0) N=0:=ZgW fun b _ h=>by
 obtain ⟨k,h1,_⟩:=h
 omega
set_option maxRecDepth 100000 in
theorem Zrt (hg:SgnOk g) {v:Nat} (hv:v < 2 ^ g.sorts.names.length):Con e0 260 [.one (.sl (nR (up g.sorts))),.one (.lit (.int .i64 (v:Int)))] [.one (.lit (.int .i64 ((ofB (ClB g v g.sorts.names.length) g.sorts.names.length:Nat):Int)))]:=by
 have hN:=hg.sorts.n8
 have hv62:=ZbB hv hN
 have hUl:(nR (up g.sorts)).length=g.sorts.names.length:=by rw [ZaQ,ZpP hg.sorts]
 have z0:ofB (ClB g v 0) g.sorts.names.length=0:=ZER
 have rr:=ZaN (l:=up g.sorts)
 refine gI (ts:=[.slot 4]) 33907 Tryz.func260 ?_
 (have F:=@tmz;refine gG ?_;clear F)
 (have F:=@tmz;refine gL (ι:=Nat × Nat) [5,6,10,15] [] (fun x=>[(6,A.d (.one (.lit (.int .i64 x.1)))),(5,A.d (.one (.lit (.int .i64 x.2))))]) (fun x=>[]) (fun x=>x.1<=g.sorts.names.length∧x.2=ofB (ClB g v x.1) g.sorts.names.length) (fun x=>g.sorts.names.length - x.1) ((0,0)) (⟨Nat.zero_le _,z0.symm⟩) (fun x hx=>?_);clear F)
 obtain ⟨i,out⟩:=x
 obtain ⟨hi,hout⟩:=hx
 simp only at hi hout
 subst hout
 dsimp only
 by_cases hlt:i < g.sorts.names.length
 rotate_left
 ·obtain rfl:i=g.sorts.names.length:=by omega
  have q1:((g.sorts.names.length:Int) < (g.sorts.names.length:Int))=False:=eq_false om
  (have F:=ai @q1 (ai @hUl @tmz);refine gG ?_;exact gTd)
 have q1:((i:Int) < (g.sorts.names.length:Int))=True:=eq_true om
 have hw1:=Zay (k:=i) om
 have hu:=(ZfE (SortsOk.subsIn hg.sorts.subs)).get hlt
 have ru:=ZaP hu.1
 have ho2:=Zdx (ZbB (ZbY (ClB g v i) g.sorts.names.length) hN) (ZbB hu.2 hN)
 (have F:=ai @q1 (ai @hUl @tmz);have NN:Zah 5:=trivial;refine gGn ?_;clear F NN)
 refine gB ?_
 (have F:=@tmz;refine gC (ZfY (a:=v) (k:=i) hv62 om) ?_;clear F)
 cases ht:tbit v i with
 | false =>
  have e:=ZEQ (g:=g) (N:=g.sorts.names.length) ht
  rw [<- e]
  (have F:=@tmz;refine gR ?_;clear F)
  (have F:=ai @hw1 @tmz;refine gG ?_;exact ⟨(i+1,ofB (ClB g v (i+1)) g.sorts.names.length),⟨hlt,rfl⟩,gw,gw,by omega⟩)
 | true =>
  have e:=ZEP ht hu.2
  rw [<- e] at ho2
  (have F:=@tmz;refine gR ?_;clear F)
  (have F:=ai @ru (ai @rr (ai @hUl (ai @hlt (ai @ho2 (ai @hw1 (ai @Zas @tmz))))));refine gG ?_;exact ⟨(i+1,ofB (ClB g v (i+1)) g.sorts.names.length),⟨hlt,rfl⟩,gw,gw,by omega⟩)
def RsB (P:Dcl->Prop) (ds:List Dcl) (b:Nat):Prop:=∃ d∈ds,P d∧d.res.toNat=b
theorem ZES {P:Dcl->Prop} {N:Nat}:ofB (RsB P []) N=0:=ZgW fun b _ h=>by
 obtain ⟨d,hd,_⟩:=h
 cases hd
theorem ZFy {P:Dcl->Prop} {N:Nat} {ds:List Dcl} {d:Dcl} (h:P d) (hu:d.res.toNat < N):ofB (RsB P (ds++[d])) N=ofB (RsB P ds) N ||| 2 ^ d.res.toNat:=by
 have h2:2 ^ d.res.toNat < 2 ^ N:=Nat.pow_lt_pow_right om hu
 rw [<- ZgX h2,Zf1]
 refine Za0 fun b _=>?_
 rw [ZtP]
 constructor
 ·rintro ⟨x,hx,h1,h2⟩
  rcases List.mem_append.1 hx with hx | hx
  ·exact .inl ⟨x,hx,h1,h2⟩
  ·rw [List.mem_singleton.1 hx] at h2;exact .inr h2
 ·rintro (⟨x,hx,h1,h2⟩ | h2)
  ·exact ⟨x,List.mem_append_left _ hx,h1,h2⟩
  ·exact ⟨d,List.mem_append_right _ (List.mem_singleton.2 rfl),h,h2⟩
theorem ZFR {P:Dcl->Prop} {N:Nat} {ds:List Dcl} {d:Dcl} (h:¬ P d):ofB (RsB P (ds++[d])) N=ofB (RsB P ds) N:=by
 refine Za0 fun b _=>?_
 constructor
 ·rintro ⟨x,hx,h1,h2⟩
  rcases List.mem_append.1 hx with hx | hx
  ·exact ⟨x,hx,h1,h2⟩
  ·rw [List.mem_singleton.1 hx] at h1;exact absurd h1 h
 ·rintro ⟨x,hx,h1,h2⟩
  exact ⟨x,List.mem_append_left _ hx,h1,h2⟩
theorem ZET (hg:SgnOk g) {o:Opr} (hD:∀ d∈o.decls,0<=d.res∧d.res < g.sorts.names.length) (sets:List Nat):ofB (ClB g (ofB (RsB (fun d=>FitN d sets d.args.length) o.decls) g.sorts.names.length) g.sorts.names.length) g.sorts.names.length=ofB (Zdj g o sets) g.sorts.names.length:=by
 refine Za0 fun b _=>?_
 unfold ClB Zdj
 constructor
 ·rintro ⟨k,h1,h2,h3⟩
  obtain ⟨h4,d,hd,h5,h6⟩:=(Zc9 _ _ _).1 h2
  refine ⟨d,hd,FitN.full.1 h5,?_⟩
  unfold upk
  rw [h6];exact h3
 ·rintro ⟨d,hd,h1,h2⟩
  have hr:=hD d hd
  exact ⟨d.res.toNat,by omega,(Zc9 _ _ _).2 ⟨by omega,d,hd,FitN.full.2 h1,rfl⟩,h2⟩
open Classical in
set_option maxRecDepth 100000 in
theorem Ziw (hg:SgnOk g) {o:Opr} (hm:o∈g.ops) (sets:List Nat) (hlen:∀ d∈o.decls,d.args.length=sets.length) (hsl:sets.length<=3) (hs:∀ s∈sets,s < 2 ^ g.sorts.names.length):Con e0 242 [.one (.sl (nR (up g.sorts))),.one (.sl (o.decls.map ZgJ)),.one (.sl (nR sets))] [.one (.lit (.int .i64 ((ofB (Zdj g o sets) g.sorts.names.length:Nat):Int)))]:=by
 have hN:=hg.sorts.n8
 have hD:=hg.decls o hm
 have hdl:o.decls.length<=4:=hD.len4
 obtain ⟨f,hf⟩:∃ f,o.decls[0]?=some f:=⟨_,List.getElem?_eq_getElem (by have:=hD.len1;omega)⟩
 have hres:=fun d hd=>(hD.all f hf d hd).res
 rw [<- ZET hg hres sets]
 generalize hPd:(fun d=>FitN d sets d.args.length)=P
 have z0:ofB (RsB P []) g.sorts.names.length=0:=ZES
 have cC:=Zrt hg (ZbY (RsB P o.decls) g.sorts.names.length)
 refine gI (ts:=[.slot 6]) 549756880839 Tryz.func242 ?_
 (have F:=@tmz;refine gG ?_;clear F)
 (have F:=@tmz;refine gL (ι:=Nat × Nat) [7,8,9,10,14,20,39] [] (fun x=>[(8,A.d (.one (.lit (.int .i64 x.1)))),(7,A.d (.one (.lit (.int .i64 x.2))))]) (fun x=>[]) (fun x=>x.1<=o.decls.length∧x.2=ofB (RsB P (o.decls.take x.1)) g.sorts.names.length) (fun x=>o.decls.length - x.1) ((0,0)) (⟨Nat.zero_le _,z0.symm⟩) (fun x hx=>?_);clear F)
 obtain ⟨i,out⟩:=x
 obtain ⟨hi,hout⟩:=hx
 simp only at hi hout
 subst hout
 dsimp only
 by_cases hlt:i < o.decls.length
 rotate_left
 ·obtain rfl:i=o.decls.length:=by omega
  have q1:((o.decls.length:Int) < (o.decls.length:Int))=False:=eq_false om
  rw [List.take_length]
  (have F:=ai @q1 @tmz;have NN:Zah 12:=trivial;refine gGn ?_;clear F NN)
  refine gB ?_
  (have F:=@tmz;refine gC (cC) ?_;clear F)
  (have F:=@tmz;refine gR ?_;clear F)
  (have F:=@tmz;refine gG ?_;exact gTd)
 obtain ⟨d,hdi⟩:∃ d,o.decls[i]?=some d:=⟨_,List.getElem?_eq_getElem hlt⟩
 have hdm:=List.mem_of_getElem? hdi
 have hdl2:=hlen d hdm
 have hdo:=hD.all f hf d hdm
 have q1:((i:Int) < (o.decls.length:Int))=True:=eq_true om
 have hw1:=Zay (k:=i) om
 have hsnoc:o.decls.take (i+1)=o.decls.take i++[d]:=by simp [List.take_add_one,hdi]
 have rl:=ZaQ (l:=sets)
 have rr:=ZaN (l:=sets)
 (have F:=ai @q1 @tmz;refine gG ?_;clear F)
 (have F:=@tmz;refine gL (ι:=Nat × Bool) [9,10,20] [] (fun y=>[(10,A.d (.one (.lit (.int .i64 y.1)))),(9,A.d (.one (.lit (.bool y.2))))]) (fun y=>[]) (fun y=>y.1<=sets.length∧y.2=decide (FitN d sets y.1)) (fun y=>sets.length - y.1) ((0,true)) (⟨Nat.zero_le _,(decide_eq_true FitN.zero).symm⟩) (fun y hy=>?_);clear F)
 obtain ⟨j,b1⟩:=y
 obtain ⟨hj,hb1⟩:=hy
 simp only at hj hb1
 dsimp only
 by_cases hjl:j < sets.length
 ·obtain ⟨k,hk⟩:∃ k,d.args[j]?=some k:=⟨_,List.getElem?_eq_getElem om⟩
  have hkr:=hdo.args k (List.mem_of_getElem? hk)
  obtain ⟨kn,rfl⟩:∃ kn:Nat,k=kn:=⟨k.toNat,by omega⟩
  obtain ⟨s,hsj⟩:∃ s,sets[j]?=some s:=⟨_,List.getElem?_eq_getElem om⟩
  have b62:=ZbB (hs s (List.mem_of_getElem? hsj)) hN
  have q2:((j:Int) < (sets.length:Int))=True:=eq_true om
  have hwj:=Zay (k:=j) om
  have r1:=ZaP hsj
  have i1:(j < sets.length)=True:=eq_true om
  have i3:(j < d.args.length)=True:=eq_true om
  have hf1:=FitN.succ (n:=j) hk hsj
  rw [show (kn:Int).toNat=kn from rfl] at hf1
  (have F:=ai @q2 (ai @rl @tmz);have NN:Zah 9:=trivial;refine gGn ?_;clear F NN)
  refine gM (ι:=Bool) [9] [] (fun b=>[(9,A.d (.one (.lit (.bool b))))]) (fun b=>[]) (fun b=>b=decide (FitN d sets (j+1))) ?_ (fun b hb=>Exists.intro _ (ai (Wk.refl _) ?_))
  ·cases b1 with
   | false =>
    have e:false=decide (FitN d sets (j+1)):=(decide_eq_false fun h=>by
     have:=hf1.1 h
     rw [decide_eq_true this.1] at hb1
     cases hb1).symm
    (have F:=@tmz;refine gG ?_;exact ⟨false,e,gw,gw⟩)
   | true =>
    have hb1':=of_decide_eq_true hb1.symm
    have e:tbit s kn=decide (FitN d sets (j+1)):=by
     cases ht:tbit s kn with
     | false=>exact (decide_eq_false fun h=>by
       have:=(hf1.1 h).2
       rw [show s.testBit kn=false from ht] at this
       cases this).symm
     | true=>exact (decide_eq_true (hf1.2 ⟨hb1',ht⟩)).symm
    refine gB ?_
    (have F:=ai @r1 (ai @rl (ai @rr (ai @i1 (ai @i3 (ai @hdi (ai @hk (ai @ZaS (ai @Za4 (ai @Zas @tmz)))))))));refine gC (ZfY (a:=s) (k:=kn) b62 om) ?_;clear F)
    (have F:=@tmz;refine gR ?_;clear F)
    (have F:=@tmz;refine gG ?_;exact ⟨tbit s kn,e,gw,gw⟩)
  (have F:=ai @hwj @tmz;refine gG ?_;exact ⟨(j+1,b),⟨hjl,hb⟩,gw,gw,by omega⟩)
 ·obtain rfl:j=sets.length:=by omega
  have q2:((sets.length:Int) < (sets.length:Int))=False:=eq_false om
  have hPi:P d ↔ FitN d sets sets.length:=by rw [<- hPd,<- hdl2]
  have hr0:=hdo.res.1
  have hr1:=hdo.res.2
  obtain ⟨rn,hrn⟩:∃ rn:Nat,d.res=rn:=⟨d.res.toNat,by omega⟩
  have cB:=Zhd (k:=rn) om
  rw [<- hrn] at cB
  have ho2:=Zdx (ZbB (ZbY (RsB P (o.decls.take i)) g.sorts.names.length) hN) (ZbB (v:=2 ^ rn) (N:=g.sorts.names.length) (Nat.pow_lt_pow_right om om) hN)
  cases b1 with
  | true =>
   have hp:P d:=hPi.2 (of_decide_eq_true hb1.symm)
   have e:=ZFy (N:=g.sorts.names.length) (ds:=o.decls.take i) hp om
   rw [<- hsnoc,show d.res.toNat=rn by omega] at e
   rw [<- e] at ho2
   (have F:=ai @q2 (ai @rl @tmz);have NN:Zah 11:=trivial;refine gGn ?_;clear F NN)
   refine gB ?_
   (have F:=ai @hdi (ai @ZaS @tmz);refine gC (cB) ?_;clear F)
   (have F:=ai @ho2 @tmz;refine gR ?_;clear F)
   (have F:=ai @hw1 @tmz;refine gG ?_;exact ⟨(i+1,ofB (RsB P (o.decls.take (i+1))) g.sorts.names.length),⟨hlt,rfl⟩,gw,gw,by omega⟩)
  | false =>
   have hp:¬ P d:=fun h=>by rw [decide_eq_true (hPi.1 h)] at hb1;cases hb1
   have e:=ZFR (N:=g.sorts.names.length) (ds:=o.decls.take i) hp
   rw [<- hsnoc] at e
   rw [<- e]
   (have F:=ai @q2 (ai @rl (ai @hw1 @tmz));refine gG ?_;exact ⟨(i+1,ofB (RsB P (o.decls.take (i+1))) g.sorts.names.length),⟨hlt,rfl⟩,gw,gw,by omega⟩)
set_option maxRecDepth 100000 in
theorem ZkB (hg:SgnOk g) {op:Int} {o:Opr} (h0:0<=op) (ho:g.ops[op.toNat]?=some o) (sets:List Nat) (hlen:∀ d∈o.decls,d.args.length=sets.length) (hsl:sets.length<=3) (hs:∀ s∈sets,s < 2 ^ g.sorts.names.length):Con e0 209 [.agg (ZaA g),.one (.lit (.int .i64 op)),.one (.sl (nR sets))] [.one (.lit (.int .i64 ((ofB (Zdj g o sets) g.sorts.names.length:Nat):Int)))]:=by
 have cU:=ZgP hg.sorts.n8 hg.sorts.m16 (SortsOk.subsIn hg.sorts.subs)
 have cG:=Ziw hg (List.mem_of_getElem? ho) sets hlen hsl hs
 rw [Zbc] at cU
 rw [ZaA]
 refine gI (ts:=[.slot 6]) 79 Tryz.func209 ?_
 (have F:=@tmz;have NN:Zah 1:=trivial;refine gGn ?_;clear F NN)
 refine gB ?_
 (have F:=@tmz;refine gC (cU) ?_;clear F)
 (have F:=ai @h0 (ai @ho (ai @Zaj @tmz));refine gC (cG) ?_;clear F)
 (have F:=@tmz;refine gR ?_;clear F)
 (have F:=@tmz;refine gG ?_;exact gTd)
end
theorem Zqm {a b:Nat} (ha:a < 4611686018427387904) (hb:b < 4611686018427387904):bits .xor .i64 (a:Int) (b:Int)=((a ^^^ b:Nat):Int):=by
 have h:a ^^^ b < 2 ^ 62:=Nat.xor_lt_two_pow om om
 have e:(BitVec.ofInt IntKind.i64.bits (a:Int) ^^^ BitVec.ofInt IntKind.i64.bits (b:Int)).toNat=a ^^^ b:=by
  rw [BitVec.toNat_xor]
  show (BitVec.ofInt 64 (a:Int)).toNat ^^^ (BitVec.ofInt 64 (b:Int)).toNat=_
  rw [ZhK om,ZhK om]
 unfold bits
 show IntKind.i64.wrap _=_
 rw [e]
 exact ZkQ om om
def Eith (R:Nat->Nat->Nat->Prop) (a c b:Nat):Prop:=R a c b∨R c a b
theorem ZAK {R:Nat->Nat->Nat->Prop} {sets:List Nat} {m b:Nat}:BagB (Eith R) sets m b ↔ BagB R sets m b:=by
 constructor
 ·intro h
  induction h with
  | leaf h1 h2=>exact .leaf h1 h2
  | node h1 h2 h3 _ _ h6 i1 i2 =>
   rcases h6 with h6 | h6
   ·exact .node h1 h2 h3 i1 i2 h6
   ·rw [Nat.or_comm]
    exact .node h2 h1 (by rw [Nat.and_comm];exact h3) i2 i1 h6
 ·intro h
  induction h with
  | leaf h1 h2=>exact .leaf h1 h2
  | node h1 h2 h3 _ _ h6 i1 i2=>exact .node h1 h2 h3 i1 i2 (.inl h6)
theorem ZAL {R:Nat->Nat->Nat->Prop} {s t b:Nat}:Two (Eith R) s t b ↔ Two R s t b∨Two R t s b:=by
 unfold Two Eith
 constructor
 ·rintro ⟨a,c,h1,h2,h3 | h3⟩
  ·exact .inl ⟨a,c,h1,h2,h3⟩
  ·exact .inr ⟨c,a,h2,h1,h3⟩
 ·rintro (⟨a,c,h1,h2,h3⟩ | ⟨a,c,h1,h2,h3⟩)
  ·exact ⟨a,c,h1,h2,.inl h3⟩
  ·exact ⟨c,a,h2,h1,.inr h3⟩
noncomputable def bvN (g:Sgn) (R:Nat->Nat->Nat->Prop) (sets:List Nat) (m:Nat):Nat:=ofB (BagB R sets m) g.sorts.names.length
theorem ZAM {g:Sgn} {R:Nat->Nat->Nat->Prop} {sets:List Nat} {m:Nat}:bvN g (Eith R) sets m=bvN g R sets m:=Za0 fun b _=>ZAK
def BagT (g:Sgn) (R:Nat->Nat->Nat->Prop) (sets:List Nat) (M:Nat) (T:List Nat):Prop:=T.length=2 ^ sets.length∧∀ m,1<=m->m < 2 ^ sets.length->(m < M->T[m]?=some (bvN g R sets m))∧(M<=m->T[m]?=some 0)
section
variable {g:Sgn} {R:Nat->Nat->Nat->Prop} {sets:List Nat}
theorem BagT.start:BagT g R sets 1 (List.replicate (2 ^ sets.length) 0):=⟨by simp,fun m h1 h2=>⟨fun h=>by omega,fun _=>by rw [List.getElem?_replicate,if_pos h2]⟩⟩
theorem BagT.next {M:Nat} {T:List Nat} (h:BagT g R sets M T) (hM:M < 2 ^ sets.length):BagT g R sets (M+1) (T.set M (bvN g R sets M)):=by
 refine ⟨by rw [List.length_set,h.1],fun m h1 h2=>?_⟩
 by_cases e:m=M
 ·subst e
  exact ⟨fun _=>List.getElem?_set_self (by rw [h.1];exact h2),fun q=>by omega⟩
 ·rw [List.getElem?_set_ne (Ne.symm e)]
  exact ⟨fun q=>(h.2 m h1 h2).1 om,fun q=>(h.2 m h1 h2).2 om⟩
theorem BagT.zero {M:Nat} {T:List Nat} (h:BagT g R sets M T) (h1:1<=M) (hM:M < 2 ^ sets.length):T.set M 0=T:=by
 have h2:=(h.2 M h1 hM).2 (Nat.le_refl _)
 refine List.ext_getElem? fun q=>?_
 by_cases e:q=M
 ·subst e
  rw [List.getElem?_set_self (by rw [h.1];exact hM),h2]
 ·rw [List.getElem?_set_ne (Ne.symm e)]
theorem Zt0:∀ (q:Nat),(2 ^ q - 1) &&& 2 ^ q=0:=fun q=>by
 refine Nat.eq_of_testBit_eq fun i=>?_
 rw [Nat.testBit_and,Nat.testBit_two_pow_sub_one,Nat.testBit_two_pow,Nat.zero_testBit]
 by_cases h:i < q
 ·simp [h];omega
 ·simp [h]
theorem Zt1 {m:Nat} (hm:m≠0) (h:(m - 1) &&& m=0):∃ q,m=2 ^ q:=by
 refine ⟨Nat.log2 m,?_⟩
 have h1:=Nat.log2_self_le hm
 have h2:m < 2 ^ (Nat.log2 m+1):=(Nat.log2_lt hm).1 (Nat.lt_succ_self _)
 refine Classical.byContradiction fun hne=>?_
 have h3:(m - 1).testBit (Nat.log2 m)=true:=by
  have:=Nat.testBit_lt_two_pow (x:=m - 1) (i:=Nat.log2 m)
  cases ht:(m - 1).testBit (Nat.log2 m) with
  | true=>rfl
  | false =>
   have h4:m - 1 < 2 ^ Nat.log2 m:=Nat.lt_pow_two_of_testBit _ fun i hi=>by
    rcases Nat.lt_or_eq_of_le hi with hi | hi
    ·exact Nat.testBit_lt_two_pow (Nat.lt_of_lt_of_le (by omega:m - 1 < 2 ^ (Nat.log2 m+1)) (Nat.pow_le_pow_right om hi))
    ·rw [<- hi];exact ht
   omega
 have h5:m.testBit (Nat.log2 m)=true:=by
  cases ht:m.testBit (Nat.log2 m) with
  | true=>rfl
  | false =>
   have h4:m < 2 ^ Nat.log2 m:=Nat.lt_pow_two_of_testBit _ fun i hi=>by
    rcases Nat.lt_or_eq_of_le hi with hi | hi
    ·exact Nat.testBit_lt_two_pow (Nat.lt_of_lt_of_le h2 (Nat.pow_le_pow_right om hi))
    ·rw [<- hi];exact ht
   omega
 have h6:=Nat.testBit_and (m - 1) m (Nat.log2 m)
 rw [h,h3,h5] at h6
 simp at h6
end
section
variable {w:World} {S:Nat->Prop} {a:Option Addr} {n cap:Nat} {rows:List (List C)}
def Zfg (a:Option Addr) (n cap:Nat) (rows:List (List C)) (R:List (List C)):List (List C):=R.map fun r=>r.map (datC a n cap rows)
theorem ZjC {R:List (List C)}:(Zfg a n cap rows R).length=R.length:=by simp [Zfg]
theorem Zvk {c:C} (h:Zaw c=true):Zaw (datC a n cap rows c)=true:=by
 unfold datC
 split
 ·split
  ·rfl
  ·exact h
 ·exact h
theorem ZAO {sz:Nat} {R:List (List C)} (h:rowsLen sz R):rowsLen sz (Zfg a n cap rows R):=fun r hr=>by
 obtain ⟨r',hr',rfl⟩:=List.mem_map.1 hr
 obtain ⟨h1,h2⟩:=h r' hr'
 refine ⟨by rw [List.length_map];exact h1,?_⟩
 rw [List.all_map,List.all_eq_true]
 exact fun c hc=>Zvk (List.all_eq_true.1 h2 c hc)
theorem ZnT (hr:Rep w S (.sl rows) (.slice a n cap)) {b:Nat}:∀ {R:List (List C)} {off:Nat},Zar w S b off R->Zar w S b off (Zfg a n cap rows R)
 | [],_,h=>h
 | r::R,off,h=>by
  simp only [Zfg,List.map_cons,Zar,List.length_map] at h ⊢
  exact ⟨ZkM hr h.1,ZnT hr h.2⟩
theorem ZAP (hr:Rep w S (.sl rows) (.slice a n cap)) {ety sz:Nat} {R:List (List C)} {v:Value} (h:ZaO w S ety sz R v):ZaO w S ety sz (Zfg a n cap rows R) v:=by
 obtain ⟨h1,h2,h3⟩:=h
 refine ⟨h1,ZAO h2,?_⟩
 rcases h3 with ⟨h4,h5⟩ | ⟨g,cap',cur,h4,h5⟩
 ·exact .inl ⟨by rw [h4];rfl,h5⟩
 ·refine .inr ⟨g,cap',cur,by rw [ZjC];exact h4,?_⟩
  obtain ⟨q1,q2,q3,q4,q5,q6,q7,q8⟩:=h5
  exact ⟨q1,q2,q3,q4,by rw [ZjC];exact q5,q6,q7,ZnT hr q8⟩
end
section
variable {e:Env} {σ:St} {mask:Nat} {Q:PX->St->Prop}
theorem Zzp (k kb:Nat) (hne:kb≠k) {a:Option Addr} {cap ety sz ety' sz':Nat} {rows R:List (List C)} {o':Option (Option Addr × Nat)} (hm:gm σ.m k=some (.buf (some (a,cap)) ety sz rows)) (hb:gm σ.m kb=some (.buf o' ety' sz' R)) :
  Turn e σ (fun σ'=>σ'=⟨frzS k (.buf (some (a,cap)) ety sz rows) σ.s,(kb,.buf o' ety' sz' (Zfg a rows.length cap rows R))::remM kb (remM k σ.m)⟩):=by
 intro he U w0 S0 nt ac w ⟨S,L,h⟩
 have ho:=h.cls.own k _ hm
 have hv:L.v k=.slice a rows.length cap:=ho.1 (a,cap) rfl
 have hrep:=ZaO.rep ho.2
 rw [hv] at hrep
 obtain ⟨S',L',h',hS'⟩:=h.freeze2 he hm
 have hr:Rep w S' (.sl rows) (.slice a rows.length cap):=hrep.mono fun b hb=>(hS' b).2 (hb.imp id (fun q=>by show vblk (L.v k)=some b;rw [hv];exact q))
 have hb':gm (remM k σ.m) kb=some (.buf o' ety' sz' R):=by rw [ZaT,if_neg hne];exact hb
 have hob:=h'.cls.own kb _ hb'
 exact ⟨_,rfl,S',L',h'.cls.swap hb' (bk':=.buf o' ety' sz' (Zfg a rows.length cap rows R)) ⟨fun p hp=>by rw [ZjC];exact hob.1 p hp,ZAP hr hob.2⟩ (fun g hg=>hg),h'.rel,h'.size,h'.defers,h'.kept⟩
theorem pDb {c:Code} {s s2:List (Nat × A)} {m m2:List (Nat × Bk)} {a:Option Addr} {cap ety sz ety' sz':Nat} {rows R:List (List C)} {o':Option (Option Addr × Nat)} (k kb:Nat) (hne:kb≠k) (hK:pwp e mask c ⟨s2,(kb,.buf o' ety' sz' (Zfg a rows.length cap rows R))::m2⟩ Q)
  (hm:gm m k=some (.buf (some (a,cap)) ety sz rows):=by exact snv) (hb:gm m kb=some (.buf o' ety' sz' R):=by exact snv) (hs:frzS k (.buf (some (a,cap)) ety sz rows) s=s2:=by exact snv) (hr:remM kb (remM k m)=m2:=by exact snv):pwp e mask c ⟨s,m⟩ Q :=
 Zcq (Zzp k kb hne hm hb) fun σ' hσ=>by subst hσ;simp only [hs,hr];exact hK
end
section
variable {g:Sgn} {mc:C}
noncomputable def cvN (g:Sgn) (o:Opr) (sets:List Nat) (i j:Nat):Nat:=ofB (ChB (Rel2 g o) sets i j) g.sorts.names.length
noncomputable def chL (g:Sgn) (o:Opr) (sets:List Nat) (r:Nat):List Nat:=(List.range sets.length).map fun k=>if k < r then 0 else cvN g o sets r (k+1)
theorem Zj2 {o:Opr} {sets:List Nat} {r:Nat}:(chL g o sets r).length=sets.length:=by simp [chL]
theorem Zt3 {o:Opr} {sets:List Nat} {r k:Nat} (h1:r<=k) (h2:k < sets.length):(chL g o sets r)[k]?=some (cvN g o sets r (k+1)):=by
 unfold chL
 rw [List.getElem?_map,List.getElem?_range h2,Option.map_some,if_neg om]
def FilB (g:Sgn) (o:Opr) (sets:List Nat) (p k:Nat) (L:List Nat):Prop:=L.length=sets.length∧∀ j,j < sets.length->L[j]?=some (if j < p then 0 else if j < k then cvN g o sets p (j+1) else 0)
theorem FilB.all {o:Opr} {sets:List Nat} {p:Nat} {L:List Nat} (h:FilB g o sets p sets.length L):L=chL g o sets p:=by
 refine List.ext_getElem? fun j=>?_
 by_cases hj:j < sets.length
 ·rw [h.2 j hj]
  unfold chL
  rw [List.getElem?_map,List.getElem?_range hj,Option.map_some]
  by_cases h1:j < p
  ·rw [if_pos h1,if_pos h1]
  ·rw [if_neg h1,if_neg h1,if_pos hj]
 ·rw [List.getElem?_eq_none (by rw [h.1];omega),List.getElem?_eq_none (by rw [Zj2];omega)]
theorem FilB.next {o:Opr} {sets:List Nat} {p k:Nat} {L:List Nat} (h:FilB g o sets p k L) (hp:p<=k) (hk:k < sets.length):FilB g o sets p (k+1) (L.set k (cvN g o sets p (k+1))):=by
 refine ⟨by rw [List.length_set,h.1],fun j hj=>?_⟩
 by_cases e:j=k
 ·subst e
  rw [List.getElem?_set_self (by rw [h.1];exact hj),if_neg om,if_pos om]
 ·rw [List.getElem?_set_ne (Ne.symm e),h.2 j hj]
  by_cases h1:j < p
  ·rw [if_pos h1,if_pos h1]
  ·rw [if_neg h1,if_neg h1]
   by_cases h2:j < k
   ·rw [if_pos h2,if_pos om]
   ·rw [if_neg h2,if_neg om]
theorem FilB.zero {o:Opr} {sets:List Nat} {p k:Nat} {L:List Nat} (h:FilB g o sets p k L) (hp:p<=k) (hk:k < sets.length):L.set k 0=L:=by
 have h1:=h.2 k hk
 rw [if_neg om,if_neg om] at h1
 refine List.ext_getElem? fun j=>?_
 by_cases e:j=k
 ·subst e
  rw [List.getElem?_set_self (by rw [h.1];exact hk),h1]
 ·rw [List.getElem?_set_ne (Ne.symm e)]
theorem FilB.start {o:Opr} {sets:List Nat} {p s:Nat} (hs:sets[p]?=some s) (h:s < 2 ^ g.sorts.names.length):FilB g o sets p (p+1) ((List.replicate sets.length 0).set p s):=by
 have hp:=(List.getElem?_eq_some_iff.1 hs).1
 refine ⟨by simp,fun j hj=>?_⟩
 by_cases e:j=p
 ·subst e
  rw [List.getElem?_set_self (by simpa using hj),if_neg om,if_pos om]
  unfold cvN
  rw [Zy9 hs h]
 ·rw [List.getElem?_set_ne (Ne.symm e),List.getElem?_replicate,if_pos hj]
  by_cases h1:j < p
  ·rw [if_pos h1]
  ·rw [if_neg h1,if_neg om]
theorem ZEW (hg:SgnOk g) {i:Nat} {o:Opr} (ho:g.ops[i]?=some o) (ha:o.assoc=true) (hc:o.comm=false) {s t N:Nat}:ofB (AnyB g o [s,t]) N=ofB (fun b=>Two (Rel2 g o) s t b) N:=by
 refine Za0 fun b _=>?_
 unfold AnyB
 rw [ZeO (Opr.deg2 hg ho (.inl ha)),hc]
 simp
def dRow (d:List Nat):List C:=[.sl (nR d)]
theorem Zzq:∀ d,dRow d=[.sl (nR d)]:=fun _=>rfl
theorem ZFA (n:Nat):(List.replicate n ([]:List Nat)).map dRow=List.replicate n [C.sl []]:=by
 rw [List.map_replicate];rfl
theorem Zzr (Ds:List (List Nat)):ZaX 1 (Ds.map dRow)=true:=Zde (e:=dRow) (n:=1) (fun _=>rfl) Ds
theorem ZAQ {a:Option Addr} {n cap:Nat} {L:List Nat} {Ds:List (List Nat)} {p:Nat}:Zfg a n cap (nR L) ((Ds.map dRow).set p [.lit (.slice a n cap)])=(Ds.set p L).map dRow:=by
 have h1:∀ d,(dRow d).map (datC a n cap (nR L))=dRow d:=fun d=>rfl
 have h2:[C.lit (.slice a n cap)].map (datC a n cap (nR L))=dRow L:=by simp [datC,dRow]
 unfold Zfg
 rw [List.map_set,h2,List.map_set,List.map_map]
 congr 1
theorem ZFS {a:Option Addr} {n cap:Nat} {Ds:List (List Nat)} {p:Nat} (hok:Zaw (.lit (.slice a n cap))=true):ZaX 1 ((Ds.map dRow).set p [.lit (.slice a n cap)])=true:=by
 have h:=Zzr Ds
 unfold ZaX at h ⊢
 rw [List.all_eq_true] at h ⊢
 intro r hr
 rcases List.mem_or_eq_of_mem_set hr with h1 | h1
 ·exact h r h1
 ·subst h1
  simp [hok]
set_option maxRecDepth 100000 in
theorem Zm8 (hg:SgnOk g) {op:Int} {o:Opr} (h0:0<=op) (ho:g.ops[op.toNat]?=some o) (ha:o.assoc=true) (hc:o.comm=false) (sets:List Nat) (hn1:1<=sets.length) (hn7:sets.length<=7) (hs:∀ s∈sets,s < 2 ^ g.sorts.names.length):Con e0 177 [.one (.ptr (encX g mc)),.one (.lit (.int .i64 op)),.one (.sl (nR sets))] [.one (.lit (.int .i64 ((cvN g o sets 0 sets.length:Nat):Int)))]:=by
 have hN:=hg.sorts.n8
 have rl:=ZaQ (l:=sets)
 have rr:=ZaN (l:=sets)
 have hmx:((sets.length:Int)<=(maxApp:Int))=True:=eq_true (by unfold maxApp;omega)
 have hdeg:=Opr.deg2 hg ho (.inl ha)
 have hcv:∀ i j,cvN g o sets i j < 2 ^ g.sorts.names.length:=fun i j=>ZbY _ _
 have hRlt:=fun a c b (h:Rel2 g o a c b)=>Rel2.lt hg (List.mem_of_getElem? ho) h
 have w0:IntKind.i64.wrap ((sets.length:Int) - 1)=(sets.length:Int) - 1:=IntWalk.i64_in _ om
 refine gI (ts:=[.slot 6]) 142936512139207 Tryz.func177 ?_
 (have F:=ai @rl (ai @hmx (ai @Int.toNat_natCast (ai @w0 @tmz)));refine gG ?_;clear F)
 have hR0:=ZFA sets.length
 (have F:=ai @hR0 @tmz;refine gL (ι:=Nat × List (List Nat)) [8,9,10,11,19,41,47] [8] (fun x=>[(9,.d (.one (.lit (.int .i64 ((x.1:Int) - 1))))),(8,.buf 8)]) (fun x=>[(8,.buf none 29 1 (x.2.map dRow))]) (fun x=>x.1<=sets.length∧x.2.length=sets.length∧∀ r,x.1<=r->r < sets.length->x.2[r]?=some (chL g o sets r)) (fun x=>x.1) ((sets.length,List.replicate sets.length [])) (⟨Nat.le_refl _,by simp,fun r h1 h2=>absurd h1 om⟩) (fun x hx=>?_);clear F)
 obtain ⟨x,Ds⟩:=x
 obtain ⟨hx,hDl,hD⟩:=hx
 simp only at hx hDl hD
 dsimp only
 have hDB:=Zzr Ds
 have hRl:(Ds.map dRow).length=sets.length:=by rw [List.length_map,hDl]
 cases x with
 | zero =>
  have q1:((0:Int)<=((0:Nat):Int) - 1)=False:=eq_false om
  have r0:=hD 0 (Nat.le_refl _) om
  have cg:=ZaP (Zt3 (g:=g) (o:=o) (sets:=sets) (r:=0) (k:=sets.length - 1) om om)
  rw [show sets.length - 1+1=sets.length by omega] at cg
  have w1:IntKind.i64.wrap ((sets.length:Int) - 1)=((sets.length - 1:Nat):Int):=ZaV om om om
  have cl:=ZaQ (l:=chL g o sets 0)
  have cr:=ZaN (l:=chL g o sets 0)
  rw [Zj2] at cl
  have i1:(0 < sets.length)=True:=eq_true om
  have i2:(sets.length - 1 < sets.length)=True:=eq_true om
  (have F:=ai @q1 (ai @r0 (ai @hDl (ai @hDB (ai @Zzq (ai @cg (ai @cl (ai @cr (ai @i1 (ai @i2 (ai @w1 (ai @Zas @tmz)))))))))));refine gG ?_;exact gTd)
 | succ p =>
 have hp:p < sets.length:=by omega
 have q1:((0:Int)<=((p+1:Nat):Int) - 1)=True:=eq_true om
 have hpc:((p+1:Nat):Int) - 1=(p:Int):=by omega
 rw [hpc] at q1 ⊢
 obtain ⟨s,hsp⟩:∃ s,sets[p]?=some s:=⟨_,List.getElem?_eq_getElem hp⟩
 have r1:=ZaP hsp
 have hw1:=Zay (k:=p) om
 have hwm:IntKind.i64.wrap ((p:Int) - 1)=(p:Int) - 1:=IntWalk.i64_in _ om
 have i1:(p < sets.length)=True:=eq_true hp
 have hFs:=FilB.start (g:=g) (o:=o) hsp (hs s (List.mem_of_getElem? hsp))
 have nl0:(nR (List.replicate sets.length 0)).length=sets.length:=by rw [ZaQ,List.length_replicate]
 have nr0:=ZaN (l:=List.replicate sets.length 0)
 have ns0:=Zcy (l:=List.replicate sets.length 0) p s
 obtain ⟨z0,hz0⟩:∃ z,(List.replicate sets.length 0)[p]?=some z:=⟨_,List.getElem?_eq_getElem (by simpa using hp)⟩
 have ng0:=ZaP hz0
 (have F:=ai @q1 @tmz;have NN:Zah 6:=trivial;refine gGn ?_;clear F NN)
 refine gB ?_
 (have F:=ai @hmx (ai @Int.toNat_natCast (ai @nR_0 @tmz));refine gP 4 ?_;clear F)
 generalize List.replicate sets.length 0=L0 at nl0 nr0 ns0 ng0 hFs ⊢
 refine gS 25 fun a cap=>?_
 rw [nl0]
 have hB8:=ZFS (a:=a) (n:=sets.length) (cap:=cap) (Ds:=Ds) (p:=p) rfl
 have hl8:((Ds.map dRow).set p [.lit (.slice a sets.length cap)]).length=sets.length:=by rw [List.length_set,hRl]
 have hg8:((Ds.map dRow).set p [.lit (.slice a sets.length cap)])[p]?=some [.lit (.slice a sets.length cap)]:=List.getElem?_set_self (by rw [hRl];exact hp)
 have hr8:∀ r,p+1<=r->r < sets.length->((Ds.map dRow).set p [.lit (.slice a sets.length cap)])[r]?=some [.sl (nR (chL g o sets r))]:=fun r h1 h2=>by
  rw [List.getElem?_set_ne om,List.getElem?_map,hD r h1 h2];rfl
 have hd8:=fun L=>ZAQ (a:=a) (n:=sets.length) (cap:=cap) (L:=L) (Ds:=Ds) (p:=p)
 obtain ⟨z,hz⟩:∃ z,Ds[p]?=some z:=⟨_,List.getElem?_eq_getElem om⟩
 (have F:=ai @hDl (ai @hDB (ai @hz (ai @Zzq (ai @i1 (ai @Zas @tmz)))));refine gR ?_;clear F)
 generalize (Ds.map dRow).set p [.lit (.slice a sets.length cap)]=R8 at hB8 hl8 hg8 hr8 hd8 ⊢
 (have F:=ai @hB8 (ai @hl8 (ai @hg8 (ai @nl0 (ai @nr0 (ai @ns0 (ai @ng0 (ai @r1 (ai @rl (ai @rr (ai @i1 (ai @hw1 (ai @Zas @tmz))))))))))));have NN:Zah 9:=trivial;refine gGn ?_;clear F NN)
 generalize L0.set p s=L1 at hFs ⊢
 clear nl0 nr0 ns0 ng0 hz0 hz
 (have F:=@tmz;refine gL (ι:=Nat × List Nat) [10,11,41,47] [25] (fun y=>[(10,A.d (.one (.lit (.int .i64 y.1))))]) (fun y=>[(25,.buf (some (a,cap)) 3 1 (nR y.2))]) (fun y=>p+1<=y.1∧y.1<=sets.length∧FilB g o sets p y.1 y.2) (fun y=>sets.length - y.1) ((p+1,L1)) (⟨Nat.le_refl _,hp,hFs⟩) (fun y hy=>?_);clear F)
 clear hFs L1
 obtain ⟨k,L⟩:=y
 obtain ⟨hk1,hk2,hF⟩:=hy
 simp only at hk1 hk2 hF
 dsimp only
 by_cases hkl:k < sets.length
 rotate_left
 ·obtain rfl:k=sets.length:=by omega
  have hL:=hF.all
  subst hL
  have q2:((sets.length:Int) < (sets.length:Int))=False:=eq_false om
  have cl:=ZaQ (l:=chL g o sets p)
  rw [Zj2] at cl
  have hd:=hd8 (chL g o sets p)
  (have F:=ai @q2 @tmz;have NN:Zah 5:=trivial;refine gGn ?_;clear F NN)
  refine pDb 25 8 (by decide) ?_
  rw [cl,hd]
  have hfin:p<=sets.length∧(Ds.set p (chL g o sets p)).length=sets.length∧∀ r,p<=r->r < sets.length->(Ds.set p (chL g o sets p))[r]?=some (chL g o sets r):=⟨by omega,by rw [List.length_set,hDl],fun r h1 h2=>by
   by_cases e:r=p
   ·subst e;exact List.getElem?_set_self om
   ·rw [List.getElem?_set_ne om];exact hD r om h2⟩
  (have F:=ai @hwm @tmz;refine gG ?_;exact ⟨(p,Ds.set p (chL g o sets p)),hfin,gw,gw,by omega⟩)
 have q2:((k:Int) < (sets.length:Int))=True:=eq_true om
 have hwk:=Zay (k:=k) om
 have hz:=hF.zero om hkl
 have hzz:nR (L.set k 0)=nR L:=by rw [hz]
 (have F:=ai @q2 @tmz;refine gG ?_;clear F)
 (have F:=ai @hzz @tmz;refine gL (ι:=Nat × Nat) [11,47] [25] (fun z=>[(11,A.d (.one (.lit (.int .i64 z.1))))]) (fun z=>[(25,.buf (some (a,cap)) 3 1 (nR (L.set k z.2)))]) (fun z=>p<=z.1∧z.1<=k∧z.2=ofB (CutB (Rel2 g o) sets g.sorts.names.length p (k+1) (z.1+1)) g.sorts.names.length) (fun z=>k - z.1) ((p,0)) (⟨Nat.le_refl _,by omega,ZnL.symm⟩) (fun z hz=>?_);clear F)
 obtain ⟨m,v⟩:=z
 obtain ⟨hm1,hm2,hv⟩:=hz
 simp only at hm1 hm2 hv
 subst hv
 dsimp only
 by_cases hmk:m < k
 rotate_left
 ·obtain rfl:m=k:=by omega
  have q3:((m:Int) < (m:Int))=False:=eq_false om
  have e:ofB (CutB (Rel2 g o) sets g.sorts.names.length p (m+1) (m+1)) g.sorts.names.length=cvN g o sets p (m+1):=ZtT hs hRlt om
  rw [e]
  (have F:=ai @q3 (ai @hwk @tmz);refine gG ?_;exact ⟨(m+1,L.set m (cvN g o sets p (m+1))),⟨by omega,hkl,hF.next om hkl⟩,gw,gw,by omega⟩)
 have q3:((m:Int) < (k:Int))=True:=eq_true om
 have hwm1:=Zay (k:=m) om
 have hLm:=hF.2 m om
 rw [if_neg om,if_pos hmk] at hLm
 have e:=fun b=>Zp8 (R:=Rel2 g o) (sets:=sets) (N:=g.sorts.names.length) (i:=p) (j:=k+1) (k:=m+1) (b:=b) om om
 have e:ofB (CutB (Rel2 g o) sets g.sorts.names.length p (k+1) (m+1)) g.sorts.names.length ||| ofB (fun b=>Two (Rel2 g o) (cvN g o sets p (m+1)) (cvN g o sets (m+1) (k+1)) b) g.sorts.names.length=ofB (CutB (Rel2 g o) sets g.sorts.names.length p (k+1) (m+1+1)) g.sorts.names.length:=by
  rw [Zf1]
  exact Za0 fun b _=>(e b).symm
 have cR:=ZhB (mc:=mc) hg h0 ho [cvN g o sets p (m+1),cvN g o sets (m+1) (k+1)] (fun d hd=>hdeg d hd) (by simp) (fun s hs=>by
  simp only [List.mem_cons,List.not_mem_nil,or_false] at hs
  rcases hs with rfl | rfl <;> exact hcv _ _)
 rw [ZEW hg ho ha hc] at cR
 have cR:=Zf2 cR
 have hor:=Zdx (ZbB (ZbY (CutB (Rel2 g o) sets g.sorts.names.length p (k+1) (m+1)) g.sorts.names.length) hN) (ZbB (ZbY (fun b=>Two (Rel2 g o) (cvN g o sets p (m+1)) (cvN g o sets (m+1) (k+1)) b) g.sorts.names.length) hN)
 rw [e] at hor
 have hv62:=ZbB (ZbY (CutB (Rel2 g o) sets g.sorts.names.length p (k+1) (m+1)) g.sorts.names.length) hN
 clear e
 generalize ofB (fun b=>Two (Rel2 g o) (cvN g o sets p (m+1)) (cvN g o sets (m+1) (k+1)) b) g.sorts.names.length=tw at cR hor
 generalize ofB (CutB (Rel2 g o) sets g.sorts.names.length p (k+1) (m+1)) g.sorts.names.length=v at hor ⊢
 have nl:=ZaQ (l:=L.set k v)
 rw [List.length_set,hF.1] at nl
 have nr:=ZaN (l:=L.set k v)
 have g1:(nR (L.set k v))[k]?=some [.lit (.int .i64 v)]:=ZaP (List.getElem?_set_self (by rw [hF.1];exact hkl))
 have g2:(nR (L.set k v))[m]?=some [.lit (.int .i64 (cvN g o sets p (m+1)))]:=ZaP (by rw [List.getElem?_set_ne om];exact hLm)
 have g3:=hr8 (m+1) om om
 have g4:=ZaP (Zt3 (g:=g) (o:=o) (sets:=sets) (r:=m+1) (k:=k) om hkl)
 have cl:=ZaQ (l:=chL g o sets (m+1))
 rw [Zj2] at cl
 have cr:=ZaN (l:=chL g o sets (m+1))
 have ns:=fun x=>Zcy (l:=L.set k v) k x
 simp only [List.set_set] at ns
 have i2:(k < sets.length)=True:=eq_true hkl
 have i3:(m < sets.length)=True:=eq_true om
 have i4:(m+1 < sets.length)=True:=eq_true om
 (have F:=ai @q3 @tmz;have NN:Zah 14:=trivial;refine gGn ?_;clear F NN)
 refine gB ?_
 (have F:=ai @hB8 (ai @hl8 (ai @hg8 (ai @nl (ai @nr (ai @g1 (ai @g2 (ai @g3 (ai @g4 (ai @cl (ai @cr (ai @i1 (ai @i2 (ai @i3 (ai @i4 (ai @hwm1 (ai @Zas @tmz))))))))))))))));refine gC (cR) ?_;clear F)
 (have F:=ai @nl (ai @nr (ai @g1 (ai @hor (ai @ns (ai @i2 (ai @Zas @tmz))))));refine gR ?_;clear F)
 (have F:=ai @hwm1 @tmz;refine gG ?_;exact ⟨(m+1,ofB (CutB (Rel2 g o) sets g.sorts.names.length p (k+1) (m+1+1)) g.sorts.names.length),⟨by omega,hmk,rfl⟩,gw,gw,by omega⟩)
end
theorem Zt4 {n i j i' j':Nat} (hj:j < n) (hj':j' < n) (h:i * n+j=i' * n+j'):i=i'∧j=j':=by
 have h1:(i * n+j) / n=i:=by rw [Nat.mul_comm,Nat.mul_add_div om,Nat.div_eq_of_lt hj,Nat.add_zero]
 have h2:(i' * n+j') / n=i':=by rw [Nat.mul_comm,Nat.mul_add_div om,Nat.div_eq_of_lt hj',Nat.add_zero]
 rw [h] at h1
 have e:i=i':=by rw [<- h1,h2]
 subst e
 exact ⟨rfl,by omega⟩
theorem Zfh {n i j:Nat} (hi:i < n) (hj:j < n):i * n+j < n * n:=by
 have:(i+1) * n<=n * n:=Nat.mul_le_mul_right n hi
 rw [Nat.succ_mul] at this
 omega
section
variable {g:Sgn}
def TabB (g:Sgn) (o:Opr) (sets:List Nat) (P:Nat->Nat->Prop) (T:List Nat):Prop:=T.length=sets.length * sets.length∧∀ i j,i<=j->j < sets.length->(P i j->T[i * sets.length+j]?=some (cvN g o sets i (j+1)))∧(¬ P i j->T[i * sets.length+j]?=some 0)
theorem TabB.start {o:Opr} {sets:List Nat} {P:Nat->Nat->Prop} (h:∀ i j,i<=j->¬ P i j):TabB g o sets P (List.replicate (sets.length * sets.length) 0):=⟨by simp,fun i j h1 h2=>⟨fun hp=>absurd hp (h i j h1),fun _=>by
 rw [List.getElem?_replicate,if_pos (Zfh om h2)]⟩⟩
theorem TabB.next {o:Opr} {sets:List Nat} {P P':Nat->Nat->Prop} {T:List Nat} (h:TabB g o sets P T) {i j:Nat} (hij:i<=j) (hj:j < sets.length) (h1:∀ i' j',i'<=j'->j' < sets.length->(P' i' j' ↔ P i' j'∨(i'=i∧j'=j))):TabB g o sets P' (T.set (i * sets.length+j) (cvN g o sets i (j+1))):=by
 refine ⟨by rw [List.length_set,h.1],fun i' j' q1 q2=>?_⟩
 have hl:=Zfh (n:=sets.length) (i:=i) (j:=j) om hj
 by_cases e:i'=i∧j'=j
 ·obtain ⟨rfl,rfl⟩:=e
  exact ⟨fun _=>List.getElem?_set_self (by rw [h.1];exact hl),fun hn=>absurd ((h1 _ _ q1 q2).2 (.inr ⟨rfl,rfl⟩)) hn⟩
 ·have hne:i * sets.length+j≠i' * sets.length+j':=fun q=>e (by have:=Zt4 hj q2 q;exact ⟨this.1.symm,this.2.symm⟩)
  rw [List.getElem?_set_ne hne]
  have h2:=h.2 i' j' q1 q2
  exact ⟨fun hp=>h2.1 (((h1 _ _ q1 q2).1 hp).resolve_right e),fun hn=>h2.2 fun hp=>hn ((h1 _ _ q1 q2).2 (.inl hp))⟩
theorem TabB.mono {o:Opr} {sets:List Nat} {P P':Nat->Nat->Prop} {T:List Nat} (h:TabB g o sets P T) (h1:∀ i j,i<=j->j < sets.length->(P' i j ↔ P i j)):TabB g o sets P' T:=⟨h.1,fun i j q1 q2=>by
 have h2:=h.2 i j q1 q2
 rw [h1 i j q1 q2];exact h2⟩
theorem TabB.zero {o:Opr} {sets:List Nat} {P:Nat->Nat->Prop} {T:List Nat} (h:TabB g o sets P T) {i j:Nat} (hij:i<=j) (hj:j < sets.length) (hn:¬ P i j):T.set (i * sets.length+j) 0=T:=by
 have h1:=(h.2 i j hij hj).2 hn
 have hl:=Zfh (n:=sets.length) (i:=i) (j:=j) om hj
 refine List.ext_getElem? fun q=>?_
 by_cases e:q=i * sets.length+j
 ·subst e
  rw [List.getElem?_set_self (by rw [h.1];exact hl),h1]
 ·rw [List.getElem?_set_ne (Ne.symm e)]
def szP (size i0:Nat) (i j:Nat):Prop:=j+1 < i+size∨(j+1=i+size∧i < i0)
theorem wmul {i n:Nat} (hi:i<=10) (hn:n<=10):IntKind.i64.wrap ((i:Int) * (n:Int))=((i * n:Nat):Int):=by
 have:i * n<=10 * 10:=Nat.mul_le_mul hi hn
 exact ZaV (by simp) om om
theorem wadd {i n:Nat} (hi:i<=1000) (hn:n<=1000):IntKind.i64.wrap ((i:Int)+(n:Int))=((i+n:Nat):Int):=ZaV (by simp) om om
set_option maxRecDepth 100000 in
theorem Zru (hg:SgnOk g) {op:Int} {o:Opr} (h0:0<=op) (ho:g.ops[op.toNat]?=some o) (ha:o.assoc=true) (sets:List Nat) (hn1:1<=sets.length) (hn7:sets.length<=7) (hs:∀ s∈sets,s < 2 ^ g.sorts.names.length):Con e0 208 [.agg (ZaA g),.one (.lit (.int .i64 op)),.one (.sl (nR sets))] [.one (.lit (.int .i64 ((cvN g o sets 0 sets.length:Nat):Int)))]:=by
 have hN:=hg.sorts.n8
 have rl:=ZaQ (l:=sets)
 have rr:=ZaN (l:=sets)
 have hnn:sets.length * sets.length<=7 * 7:=Nat.mul_le_mul hn7 hn7
 have hmx:(((sets.length * sets.length:Nat):Int)<=(maxApp:Int))=True:=eq_true (by unfold maxApp;omega)
 have hdeg:=Opr.deg2 hg ho (.inl ha)
 have hcv:∀ i j,cvN g o sets i j < 2 ^ g.sorts.names.length:=fun i j=>ZbY _ _
 have hRlt:=fun a c b (h:Rel2 g o a c b)=>Rel2.lt hg (List.mem_of_getElem? ho) h
 have wnn:=wmul (i:=sets.length) (n:=sets.length) om om
 have cU:=ZgP hg.sorts.n8 hg.sorts.m16 (SortsOk.subsIn hg.sorts.subs)
 have hT0:=TabB.start (g:=g) (o:=o) (sets:=sets) (P:=szP 1 0) fun i j h q=>by unfold szP at q;omega
 rw [Zbc] at cU
 rw [ZaA]
 refine gI (ts:=[.slot 6]) 36028870066978767 Tryz.func208 ?_
 (have F:=ai @rl @tmz;have NN:Zah 2:=trivial;refine gGn ?_;clear F NN)
 refine gB ?_
 (have F:=@tmz;refine gC (cU) ?_;clear F)
 (have F:=@tmz;refine gR ?_;clear F)
 (have F:=ai @rl (ai @wnn (ai @hmx (ai @Int.toNat_natCast (ai @nR_0 @tmz))));refine gG ?_;clear F)
 generalize List.replicate (sets.length * sets.length) 0=T0 at hT0 ⊢
 (have F:=@tmz;refine gL (ι:=Nat × List Nat) [9,10,11,12,13,25,32,36,55] [9] (fun x=>[(10,A.d (.one (.lit (.int .i64 x.1)))),(9,.buf 9)]) (fun x=>[(9,.buf none 3 1 (nR x.2))]) (fun x=>1<=x.1∧x.1<=sets.length+1∧TabB g o sets (szP x.1 0) x.2) (fun x=>sets.length+1 - x.1) ((1,T0)) (⟨Nat.le_refl _,by omega,hT0⟩) (fun x hx=>?_);clear F)
 clear hT0 T0
 obtain ⟨size,T⟩:=x
 obtain ⟨hz1,hz2,hT⟩:=hx
 simp only at hz1 hz2 hT
 dsimp only
 have nl:=ZaQ (l:=T)
 rw [hT.1] at nl
 have nr:=ZaN (l:=T)
 by_cases hzl:size<=sets.length
 rotate_left
 ·obtain rfl:size=sets.length+1:=by omega
  have q1:(((sets.length+1:Nat):Int)<=(sets.length:Int))=False:=eq_false om
  have hg1:=((hT.2 0 (sets.length - 1) om om).1 (.inl om))
  rw [show 0 * sets.length+(sets.length - 1)=sets.length - 1 by omega,show sets.length - 1+1=sets.length by omega] at hg1
  have hg2:=ZaP hg1
  have w1:IntKind.i64.wrap ((sets.length:Int) - 1)=((sets.length - 1:Nat):Int):=ZaV om om om
  have hle:sets.length * 1<=sets.length * sets.length:=Nat.mul_le_mul_left _ hn1
  have i1:(sets.length - 1 < sets.length * sets.length)=True:=eq_true om
  (have F:=ai @q1 (ai @nl (ai @nr (ai @hg2 (ai @w1 (ai @i1 (ai @Zas @tmz))))));refine gG ?_;exact gTd)
 have q1:((size:Int)<=(sets.length:Int))=True:=eq_true om
 have hws:=Zay (k:=size) om
 clear nl nr
 (have F:=ai @q1 @tmz;refine gG ?_;clear F)
 (have F:=@tmz;refine gL (ι:=Nat × List Nat) [9,11,12,13,32,36,55] [9] (fun y=>[(11,A.d (.one (.lit (.int .i64 y.1)))),(9,.buf 9)]) (fun y=>[(9,.buf none 3 1 (nR y.2))]) (fun y=>y.1+size<=sets.length+1∧TabB g o sets (szP size y.1) y.2) (fun y=>sets.length+1 - y.1) ((0,T)) (⟨by omega,hT⟩) (fun y hy=>?_);clear F)
 clear hT T
 obtain ⟨i,T⟩:=y
 obtain ⟨hi,hT⟩:=hy
 simp only at hi hT
 dsimp only
 have nl:=ZaQ (l:=T)
 rw [hT.1] at nl
 have nr:=ZaN (l:=T)
 have wis:=wadd (i:=i) (n:=size) om om
 by_cases hil:i+size<=sets.length
 rotate_left
 ·have q2:(((i+size:Nat):Int)<=(sets.length:Int))=False:=eq_false om
  have hT2:TabB g o sets (szP (size+1) 0) T:=hT.mono fun i' j' h1 h2=>by
   unfold szP
   omega
  (have F:=ai @q2 (ai @wis (ai @hws @tmz));refine gG ?_;exact ⟨(size+1,T),⟨by omega,by omega,hT2⟩,gw,gw,by omega⟩)
 have q2:(((i+size:Nat):Int)<=(sets.length:Int))=True:=eq_true om
 have hwi:=Zay (k:=i) om
 have wii:=wmul (i:=i) (n:=sets.length) om om
 have hlt:=Zfh (n:=sets.length) (i:=i) (j:=i+size - 1) om om
 by_cases hs1:size=1
 ·subst hs1
  have q3:(((1:Nat):Int)=1)=True:=eq_true rfl
  obtain ⟨s,hsi⟩:∃ s,sets[i]?=some s:=⟨_,List.getElem?_eq_getElem om⟩
  have r1:=ZaP hsi
  have e:cvN g o sets i (i+1)=s:=by unfold cvN;exact Zy9 hsi (hs s (List.mem_of_getElem? hsi))
  have hT2:TabB g o sets (szP 1 (i+1)) (T.set (i * sets.length+i) (cvN g o sets i (i+1))):=hT.next (Nat.le_refl _) om fun i' j' h1 h2=>by
   unfold szP
   omega
  rw [e] at hT2
  have wa:=wadd (i:=i * sets.length) (n:=i) om om
  have ns:=Zcy (l:=T) (i * sets.length+i) s
  obtain ⟨z,hz⟩:∃ z,T[i * sets.length+i]?=some z:=⟨_,List.getElem?_eq_getElem (by rw [hT.1];exact Zfh om om)⟩
  have ng:=ZaP hz
  have i1:(i < sets.length)=True:=eq_true om
  have i2:(i * sets.length+i < sets.length * sets.length)=True:=eq_true (Zfh om om)
  (have F:=ai @q2 (ai @wis (ai @q3 (ai @wii (ai @wa (ai @r1 (ai @rl (ai @rr (ai @nl (ai @nr (ai @ns (ai @ng (ai @i1 (ai @i2 (ai @hwi (ai @Zas @tmz)))))))))))))));refine gG ?_;exact ⟨(i+1,T.set (i * sets.length+i) s),⟨by omega,hT2⟩,gw,gw,by omega⟩)
 have q3:((size:Int)=1)=False:=eq_false om
 obtain ⟨j,hj⟩:∃ j,j+1=i+size:=⟨i+size - 1,by omega⟩
 have wj:IntKind.i64.wrap (((i+size:Nat):Int) - 1)=(j:Int):=ZaV om om om
 have hij:i < j:=by omega
 have hjn:j < sets.length:=by omega
 have hij2:i<=j:=by omega
 have hlt:=Zfh (n:=sets.length) (i:=i) (j:=j) om hjn
 have waj:=wadd (i:=i * sets.length) (n:=j) om om
 have hz0:=hT.zero hij2 hjn (by unfold szP;omega)
 have hzz:nR (T.set (i * sets.length+j) 0)=nR T:=by rw [hz0]
 have hnx:TabB g o sets (szP size (i+1)) (T.set (i * sets.length+j) (cvN g o sets i (j+1))):=hT.next hij2 hjn fun i' j' h1 h2=>by
  unfold szP
  omega
 (have F:=ai @q2 (ai @wis (ai @q3 (ai @wj @tmz)));have NN:Zah 13:=trivial;refine gGn ?_;clear F NN)
 (have F:=@tmz;refine gG ?_;clear F)
 (have F:=ai @hzz @tmz;refine gL (ι:=Nat × Nat) [9,13,55] [9] (fun z=>[(13,A.d (.one (.lit (.int .i64 z.1)))),(9,.buf 9)]) (fun z=>[(9,.buf none 3 1 (nR (T.set (i * sets.length+j) z.2)))]) (fun z=>i<=z.1∧z.1<=j∧z.2=ofB (CutB (Rel2 g o) sets g.sorts.names.length i (j+1) (z.1+1)) g.sorts.names.length) (fun z=>j - z.1) ((i,0)) (⟨Nat.le_refl _,by omega,ZnL.symm⟩) (fun z hz=>?_);clear F)
 obtain ⟨k,v⟩:=z
 obtain ⟨hk1,hk2,hv⟩:=hz
 simp only at hk1 hk2 hv
 subst hv
 dsimp only
 by_cases hkj:k < j
 rotate_left
 ·obtain rfl:k=j:=by omega
  have q4:((k:Int) < (k:Int))=False:=eq_false om
  have e:ofB (CutB (Rel2 g o) sets g.sorts.names.length i (k+1) (k+1)) g.sorts.names.length=cvN g o sets i (k+1):=ZtT hs hRlt om
  rw [e]
  (have F:=ai @q4 (ai @hwi @tmz);refine gG ?_;exact ⟨(i+1,T.set (i * sets.length+k) (cvN g o sets i (k+1))),⟨by omega,hnx⟩,gw,gw,by omega⟩)
 have q4:((k:Int) < (j:Int))=True:=eq_true om
 have hwk:=Zay (k:=k) om
 have hTk:=(hT.2 i k hk1 om).1 (by unfold szP;omega)
 have hTj:=(hT.2 (k+1) j om hjn).1 (by unfold szP;omega)
 have hltk:=Zfh (n:=sets.length) (i:=i) (j:=k) om om
 have hltj:=Zfh (n:=sets.length) (i:=k+1) (j:=j) om hjn
 have wak:=wadd (i:=i * sets.length) (n:=k) om om
 have wm2:=wmul (i:=k+1) (n:=sets.length) om om
 have wa2:=wadd (i:=(k+1) * sets.length) (n:=j) om om
 have e:=fun b=>Zp8 (R:=Rel2 g o) (sets:=sets) (N:=g.sorts.names.length) (i:=i) (j:=j+1) (k:=k+1) (b:=b) om om
 have e:ofB (CutB (Rel2 g o) sets g.sorts.names.length i (j+1) (k+1)) g.sorts.names.length ||| ofB (fun b=>Two (Rel2 g o) (cvN g o sets i (k+1)) (cvN g o sets (k+1) (j+1)) b) g.sorts.names.length=ofB (CutB (Rel2 g o) sets g.sorts.names.length i (j+1) (k+1+1)) g.sorts.names.length:=by
  rw [Zf1]
  exact Za0 fun b _=>(e b).symm
 have cR:=Ziw hg (List.mem_of_getElem? ho) [cvN g o sets i (k+1),cvN g o sets (k+1) (j+1)] (fun d hd=>hdeg d hd) (by simp) (fun s hs=>by
  simp only [List.mem_cons,List.not_mem_nil,or_false] at hs
  rcases hs with rfl | rfl <;> exact hcv _ _)
 rw [show ofB (Zdj g o [cvN g o sets i (k+1),cvN g o sets (k+1) (j+1)]) g.sorts.names.length=ofB (fun b=>Two (Rel2 g o) (cvN g o sets i (k+1)) (cvN g o sets (k+1) (j+1)) b) g.sorts.names.length from Za0 fun b _=>ZeO hdeg] at cR
 have cR:=Zf2 cR
 have hor:=Zdx (ZbB (ZbY (CutB (Rel2 g o) sets g.sorts.names.length i (j+1) (k+1)) g.sorts.names.length) hN) (ZbB (ZbY (fun b=>Two (Rel2 g o) (cvN g o sets i (k+1)) (cvN g o sets (k+1) (j+1)) b) g.sorts.names.length) hN)
 rw [e] at hor
 clear e
 generalize ofB (fun b=>Two (Rel2 g o) (cvN g o sets i (k+1)) (cvN g o sets (k+1) (j+1)) b) g.sorts.names.length=tw at cR hor
 generalize ofB (CutB (Rel2 g o) sets g.sorts.names.length i (j+1) (k+1)) g.sorts.names.length=v at hor ⊢
 have nl2:=ZaQ (l:=T.set (i * sets.length+j) v)
 rw [List.length_set,hT.1] at nl2
 have nr2:=ZaN (l:=T.set (i * sets.length+j) v)
 have ne1:i * sets.length+j≠i * sets.length+k:=by omega
 have ne2:i * sets.length+j≠(k+1) * sets.length+j:=fun q=>by have:=Zt4 hjn hjn q;omega
 have g1:(nR (T.set (i * sets.length+j) v))[i * sets.length+j]?=some [.lit (.int .i64 v)]:=ZaP (List.getElem?_set_self (by rw [hT.1];exact hlt))
 have g2:(nR (T.set (i * sets.length+j) v))[i * sets.length+k]?=some [.lit (.int .i64 (cvN g o sets i (k+1)))]:=ZaP (by rw [List.getElem?_set_ne ne1];exact hTk)
 have g3:(nR (T.set (i * sets.length+j) v))[(k+1) * sets.length+j]?=some [.lit (.int .i64 (cvN g o sets (k+1) (j+1)))]:=ZaP (by rw [List.getElem?_set_ne ne2];exact hTj)
 have ns:=fun x=>Zcy (l:=T.set (i * sets.length+j) v) (i * sets.length+j) x
 simp only [List.set_set] at ns
 have i1:(i * sets.length+j < sets.length * sets.length)=True:=eq_true hlt
 have i2:(i * sets.length+k < sets.length * sets.length)=True:=eq_true hltk
 have i3:((k+1) * sets.length+j < sets.length * sets.length)=True:=eq_true hltj
 clear nl nr
 (have F:=ai @q4 @tmz;have NN:Zah 16:=trivial;refine gGn ?_;clear F NN)
 refine gB ?_
 (have F:=ai @wii (ai @waj (ai @wak (ai @hwk (ai @wm2 (ai @wa2 (ai @nl2 (ai @nr2 (ai @g1 (ai @g2 (ai @g3 (ai @i1 (ai @i2 (ai @i3 (ai @h0 (ai @ho (ai @Zaj (ai @Zas @tmz)))))))))))))))));refine gC (cR) ?_;clear F)
 (have F:=ai @nl2 (ai @nr2 (ai @g1 (ai @hor (ai @ns (ai @i1 (ai @Zas @tmz))))));refine gR ?_;clear F)
 (have F:=ai @hwk @tmz;refine gG ?_;exact ⟨(k+1,ofB (CutB (Rel2 g o) sets g.sorts.names.length i (j+1) (k+1+1)) g.sorts.names.length),⟨by omega,hkj,rfl⟩,gw,gw,by omega⟩)
end
def Env.plus (e:Env) (E2:Nat->Prop) (G2:World->Prop):Env:=⟨e.P,fun b=>e.E b∨E2 b,fun w=>e.G w∧G2 w,e.D⟩
structure Fits (e:Env) (E2:Nat->Prop) (G2:World->Prop):Prop where
 st:Zc0 E2 G2
 dj:∀ w,G2 w->∀ b,E2 b->¬ e.E b
section
variable {e:Env} {E2:Nat->Prop} {G2:World->Prop}
theorem Fits.ok (h:Fits e E2 G2) (he:e.Ok):(e.plus E2 G2).Ok:=⟨fun w w' hz hb ⟨h1,h2⟩=>⟨he.keep w w' hz (fun b hb'=>hb b (.inl hb')) h1,h.st w w' hz (fun b hb'=>hb b (.inr hb')) h2⟩,he.mixed⟩
theorem Kept.up {D:Prop} {E E':Nat->Prop} {B:Nat} {w w':World} (h:Kept D E B w w') (hE:∀ b,E b->E' b):Kept D E' B w w':=⟨h.os,h.tape,h.output,h.drawn,h.size,fun k hk hn=>h.block k hk fun q=>hn (hE k q)⟩
theorem Fits.keep (h:Fits e E2 G2) {E:Nat->Prop} {w w':World} (hk:Kept e.D E w.heap.size w w') (hE:∀ b,(e.plus E2 G2).E b->b < w.heap.size) (hG:G2 w) (hn:∀ b,E2 b->¬ E b):G2 w':=h.st w w' hk.size (fun b hb=>hk.block b (hE b (.inr hb)) (hn b hb)) hG
theorem Con.up (h2:Fits e E2 G2) {f:FuncId} {args r:List D} (h:Con e f args r):Con (e.plus E2 G2) f args r :=
 ⟨h.1,fun w S vs hS hE hG hvs=>(h.2 w S vs (fun b hb=>⟨(hS b hb).1,fun q=>(hS b hb).2 (.inl q)⟩) (fun b hb=>hE b (.inl hb)) hG.1 hvs).mono fun en w' ⟨v,h1,hk,hg,ha⟩=>⟨v,h1,hk.up fun _=>.inl,⟨hg,h2.keep hk hE hG.2 (h2.dj w hG.2)⟩,ha⟩⟩
theorem ConE.up (h2:Fits e E2 G2) {f:FuncId} {args:List D} {R:List D->Prop} (h:ConE e f args R):ConE (e.plus E2 G2) f args R :=
 ⟨h.1,fun w S vs hS hE hG hvs=>(h.2 w S vs (fun b hb=>⟨(hS b hb).1,fun q=>(hS b hb).2 (.inl q)⟩) (fun b hb=>hE b (.inl hb)) hG.1 hvs).mono fun en w' ⟨v,r,h1,hr,hk,hg,ha⟩=>⟨v,r,h1,hr,hk.up fun _=>.inl,⟨hg,h2.keep hk hE hG.2 (h2.dj w hG.2)⟩,ha⟩⟩
theorem ConR.up (h2:Fits e E2 G2) {f:FuncId} {args:List D} {ty sz:Nat} {rows:List (List C)} (h:ConR e f args ty sz rows):ConR (e.plus E2 G2) f args ty sz rows :=
 ⟨h.1,fun w S vs hS hE hG hvs=>(h.2 w S vs (fun b hb=>⟨(hS b hb).1,fun q=>(hS b hb).2 (.inl q)⟩) (fun b hb=>hE b (.inl hb)) hG.1 hvs).mono fun en w' ⟨v,h1,hk,hg,ha⟩=>⟨v,h1,hk.up fun _=>.inl,⟨hg,h2.keep hk hE hG.2 (h2.dj w hG.2)⟩,ha⟩⟩
theorem ConI.up (h2:Fits e E2 G2) {f:FuncId} {ty sz:Nat} {rows rows':List (List C)} {args r:List D} (h:ConI e f ty sz rows args rows' r):ConI (e.plus E2 G2) f ty sz rows args rows' r :=
 ⟨h.1,fun w S v0 vs hS hE h0 hG hb hvs=>(h.2 w S v0 vs (fun b hb=>⟨(hS b hb).1,fun q=>(hS b hb).2 (.inl q)⟩) (fun b hb=>hE b (.inl hb)) (fun g hg q=>h0 g hg (.inl q)) hG.1 hb hvs).mono fun en w' ⟨v,h1,hk,hg,ha⟩=>⟨v,h1,hk.up fun _ q=>q.elim (fun q=>.inl (.inl q)) .inr,⟨hg,h2.keep hk hE hG.2 fun b hb q=>q.elim (h2.dj w hG.2 b hb) fun q=>h0 b q (.inr hb)⟩,ha⟩⟩
theorem ConT.up (h2:Fits e E2 G2) {f:FuncId} {ty sz:Nat} {rows rows':List (List C)} {args:List D} (h:ConT e f ty sz rows args rows'):ConT (e.plus E2 G2) f ty sz rows args rows' :=
 ⟨h.1,fun w S v0 vs hS hE h0 hG hb hvs=>(h.2 w S v0 vs (fun b hb=>⟨(hS b hb).1,fun q=>(hS b hb).2 (.inl q)⟩) (fun b hb=>hE b (.inl hb)) (fun g hg q=>h0 g hg (.inl q)) hG.1 hb hvs).mono fun en w' ⟨v,h1,hk,hg,ha⟩=>⟨v,h1,hk.up fun _ q=>q.elim (fun q=>.inl (.inl q)) .inr,⟨hg,h2.keep hk hE hG.2 fun b hb q=>q.elim (h2.dj w hG.2 b hb) fun q=>h0 b q (.inr hb)⟩,ha⟩⟩
theorem ConP.up (h2:Fits e E2 G2) {f:FuncId} {args:List D} {pm:List Bk} {R:List D->List Bk->Prop} (h:ConP e f args pm R):ConP (e.plus E2 G2) f args pm R :=
 ⟨h.1,fun w S vs hS hE hG hpm hap hvs=>(h.2 w S vs (fun b hb=>⟨(hS b hb).1,fun q=>(hS b hb).2 (.inl q)⟩) (fun b hb=>hE b (.inl hb)) hG.1 (fun x hx=>⟨(hpm x hx).1,fun g hg q=>(hpm x hx).2 g hg (.inl q)⟩) hap hvs).mono fun en w' ⟨v,r,pm',h1,hr,hk,hg,ha⟩=>⟨v,r,pm',h1,hr,hk.up fun _ q=>q.elim (fun q=>.inl (.inl q)) .inr,⟨hg,h2.keep hk hE hG.2 fun b hb q=>q.elim (h2.dj w hG.2 b hb) fun ⟨x,hx,hxg⟩=>(hpm x hx).2 b hxg (.inr hb)⟩,ha⟩⟩
theorem ZAS {ι:Type} {G:ι->World->Prop} {ok:ι->Prop} (h2:Fits e E2 G2) (hst:∀ i,Zc0 E2 (G i)) (ho:∀ w,G2 w->∃ i,ok i∧G i w) (hi:∀ w i,(∀ b,E2 b->¬ e.E b)->ok i->G i w->G2 w) {f:FuncId} {xs r:List D} (hb:Zb5 e.P f=true)
  (h:∀ i,ok i->ConP e f xs [.set E2 (G i)] (fun r' pm=>r'=r∧∃ i',ok i'∧pm=[.set E2 (G i')])):Con (e.plus E2 G2) f xs r:=by
 refine ⟨hb,fun w S vs hS hE hG hvs=>?_⟩
 obtain ⟨i,hi1,hi2⟩:=ho w hG.2
 have hdj:=h2.dj w hG.2
 refine ((h i hi1).2 w S vs (fun b hb=>⟨(hS b hb).1,fun q=>(hS b hb).2 (.inl q)⟩) (fun b hb=>hE b (.inl hb)) hG.1 (fun x hx=>?_) ⟨fun y hy=>(by cases hy),trivial⟩ hvs).mono fun en w' ⟨v,r',pm,h1,⟨hr,i',hi1',hpm⟩,hk,hg,hp,_,ha⟩=>?_
 ·obtain rfl:=List.mem_singleton.1 hx
  exact ⟨⟨fun b hb=>⟨hE b (.inr hb),fun q=>(hS b q).2 (.inr hb)⟩,hi2,hst i⟩,fun g hg=>hdj g hg⟩
 ·subst hr hpm
  have hpb:∀ (G:World->Prop) (b:Nat),Za1 [.set E2 G] b ↔ E2 b:=fun G b=>⟨fun ⟨x,hx,hg⟩=>by obtain rfl:=List.mem_singleton.1 hx;exact hg,fun q=>⟨_,List.mem_singleton.2 rfl,q⟩⟩
  refine ⟨v,h1,hk.up fun b q=>q.elim .inl fun q=>.inr ((hpb _ b).1 q),⟨hg,hi w' i' hdj hi1' (hp _ (List.mem_singleton.2 rfl)).1.2.1⟩,ha.keep (Nat.le_refl _) (fun _ _ _=>rfl) fun b hb=>?_⟩
  rcases hb.1 with q | q | q
  ·exact .inl q
  ·exact absurd ((hpb _ b).2 ((hpb _ b).1 q)) hb.2
  ·exact .inr q
theorem ZEY {mask:Nat} {c:Code} {s:List (Nat × A)} {m:List (Nat × Bk)} {Q:PX->St->Prop} {G1:World->Prop} (k:Nat) (hst:Zc0 E2 G2) (hm:gm m k=some (.set E2 G1)) (h2:(∀ b,E2 b->¬ e.E b)->Fits e E2 G2∧∀ w,G1 w->G2 w) (h:Fits e E2 G2->pwp (e.plus E2 G2) mask c ⟨s,remM k m⟩ Q):pwp e mask c ⟨s,m⟩ Q:=by
 intro he U w0 S0 nt a w hok ⟨S,L,hs⟩
 have hc:=hs.cls
 have ho:=hc.own k _ hm
 obtain ⟨hF,hG⟩:=h2 fun b hb=>hc.notE hm (show ZaE L k (.set E2 G1) b from hb)
 have hlt:∀ b,e.E b∨E2 b->b < w.heap.size:=fun b hb=>hb.elim (fun q=>Nat.lt_of_lt_of_le (hc.ein b q) hc.bsz) fun q=>(ho.1 b q).1
 have hsub:∀ k' bk,gm (remM k m) k'=some bk->k'≠k∧gm m k'=some bk:=fun k' bk hk'=>by
  rw [ZaT] at hk'
  by_cases e:k'=k
  ·rw [if_pos e] at hk';cases hk'
  ·rw [if_neg e] at hk';exact ⟨e,hk'⟩
 have hs2:SimE (e.plus E2 G2) (fun g=>∃ k' bk,gm (remM k m) k'=some bk∧ZaE L k' bk g) w S nt ⟨s,remM k m⟩ a w:=by
  refine ⟨S,L,⟨fun b hb=>⟨(hc.sin b hb).1,fun q=>q.elim (hc.sin b hb).2 fun q=>(ho.1 b q).2 hb⟩,fun b hb=>.inl hb,hlt,?_,Nat.le_refl _,fun k' bk g h1 h2=>.inr ⟨k',bk,h1,h2⟩,fun k' bk hk'=>hc.own k' bk (hsub k' bk hk').2,fun k1 k2 x1 x2 g h1 h2=>hc.inj k1 k2 x1 x2 g (hsub k1 x1 h1).2 (hsub k2 x2 h2).2,⟨hc.g,hG w ho.2.1⟩⟩,hs.rel,hs.size,hs.defers,Kept.refl _ _ _ _⟩
  rintro b ⟨k',bk,h1,h3⟩ q
  obtain ⟨hne,h1⟩:=hsub k' bk h1
  rcases q with q | q
  ·exact hc.notE h1 h3 q
  ·exact hne (hc.inj k' k bk _ b h1 hm h3 q)
 refine wp_mono (h hF (hF.ok he) _ _ _ _ _ w hok hs2) fun ex a' w' hq=>?_
 have back:∀ σ',SimE (e.plus E2 G2) (fun g=>∃ k' bk,gm (remM k m) k'=some bk∧ZaE L k' bk g) w S nt σ' a' w'->SimE e U w0 S0 nt σ' a' w':=fun σ' ⟨S1,L1,h1⟩=>by
  have c1:=h1.cls
  have hU:∀ b,(∃ k' bk,gm (remM k m) k'=some bk∧ZaE L k' bk b)->w0.heap.size<=b∨U b:=fun b ⟨k',bk,q1,q2⟩=>hc.mine k' bk b (hsub k' bk q1).2 q2
  refine ⟨S1,L1,⟨fun b hb=>⟨(c1.sin b hb).1,fun q=>(c1.sin b hb).2 (.inl q)⟩,fun b hb=>?_,hc.ein,hc.uin,Nat.le_trans hc.bsz c1.bsz,fun k' bk g q1 q2=>?_,c1.own,c1.inj,c1.g.1⟩,h1.rel,h1.size,h1.defers,⟨h1.kept.os.trans hs.kept.os,h1.kept.tape.trans hs.kept.tape,h1.kept.output.trans hs.kept.output,fun d=>Nat.le_trans (hs.kept.drawn d) (h1.kept.drawn d),Nat.le_trans hs.kept.size h1.kept.size,fun b hb hn=>?_⟩⟩
  ·rcases c1.sfr b hb with q | q | q
   ·exact hc.sfr b q
   ·exact .inr (.inl (Nat.le_trans hc.bsz q))
   ·exact .inr (hU b q)
  ·rcases c1.mine k' bk g q1 q2 with q | q
   ·exact .inl (Nat.le_trans hc.bsz q)
   ·exact hU g q
  ·refine (h1.kept.block b (Nat.lt_of_lt_of_le hb hs.kept.size) fun q=>?_).trans (hs.kept.block b hb hn)
   rcases q with (q | q) | q
   ·exact hn (.inl q)
   ·rcases hc.mine k _ b hm (show ZaE L k (.set E2 G1) b from q) with q | q
    ·omega
    ·exact hn (.inr q)
   ·rcases hU b q with q | q
    ·omega
    ·exact hn (.inr q)
 cases ex with
 | normal=>exact hq.elim fun σ' hq=>⟨σ',hq.1,back σ' hq.2⟩
 | exit id=>exact hq.elim fun σ' hq=>⟨σ',hq.1,back σ' hq.2⟩
 | ret=>exact hq.elim fun σ' hq=>⟨σ',hq.1,back σ' hq.2⟩
 | goto l=>exact hq
 | panic ch=>exact hq
 | outgrown=>exact hq
end
mutual
theorem ZnW:∀ t:Tm,sizeTm t<=bulkRow (Zae t)+1
 | .mk _ _ _ args=>by
  have:=Zmp args
  simp only [sizeTm,Zae,bulkRow,ZbT]
  omega
theorem Zmp:∀ ts:List Tm,sizeTms ts<=(Zaf ts).length+Zac (Zaf ts)
 | []=>by simp [sizeTms]
 | t::ts=>by
  have h1:=ZnW t
  have h2:=Zmp ts
  simp only [sizeTms,Zaf,List.length_cons,Zac]
  omega
end
theorem Zct {t:Tm} (h:bulkRow (Zae t)<=1048576):sizeTm t<=big:=by
 have:=ZnW t
 unfold big
 omega
theorem Zqp (a b:List C):bulkRow (a++b)=bulkRow a+bulkRow b:=by
 induction a with
 | nil=>simp [bulkRow]
 | cons x xs ih=>simp only [List.cons_append,bulkRow,ih];omega
theorem ZjF {r:List C}:∀ {rows:List (List C)},r∈rows->bulkRow r<=Zac rows
 | x::rs,h=>by
  simp only [Zac]
  rcases List.mem_cons.1 h with rfl | h
  ·omega
  ·have:=ZjF h;omega
def putB:List Bd->Bd->List Bd
 | [],y=>[y]
 | x::l,y=>if Zak x.var y.var < 0 then x::putB l y else y::x::l
def srtB (l:List Bd):List Bd:=l.foldl putB []
def UpB (l:List Bd):Prop:=l.Pairwise fun x y=>Zak x.var y.var < 0
theorem ZnX (l:List Bd) (y:Bd):srtB (l++[y])=putB (srtB l) y:=by simp [srtB,List.foldl_append]
theorem Zt7 {y:Bd}:∀ {l:List Bd} {i:Nat},i<=l.length->(∀ (j:Nat) x,j < i->l[j]?=some x->Zak x.var y.var < 0)->(∀ x,l[i]?=some x->¬ Zak x.var y.var < 0)->putB l y=l.take i++y::l.drop i
 | [],i,hi,_,_=>by simp at hi;subst hi;rfl
 | x::l,0,_,_,h2=>by simp [putB,h2 x rfl]
 | x::l,i+1,hi,h1,h2=>by
  have h0:=h1 0 x om rfl
  simp only [putB,if_pos h0,List.take_succ_cons,List.drop_succ_cons,List.cons_append]
  rw [Zt7 (by simpa using hi) (fun j z hj hz=>h1 (j+1) z om (by simpa using hz)) (fun z hz=>h2 z (by simpa using hz))]
theorem Zhj (y:Bd):∀ l,(putB l y).Perm (y::l)
 | []=>.refl _
 | x::l=>by
  simp only [putB]
  split
  ·exact ((Zhj y l).cons x).trans (.swap y x l)
  ·exact .refl _
theorem ZcA (l:List Bd):(srtB l).Perm l:=by
 have:∀ (l m:List Bd),(l.foldl putB m).Perm (l++m):=fun l=>by
  induction l with
  | nil=>exact fun m=>.refl _
  | cons x l ih =>
   intro m
   refine (ih (putB m x)).trans ?_
   refine ((Zhj x m).append_left l).trans ?_
   simp
 simpa [srtB] using this l []
theorem Zt8 {y:Bd}:∀ {l:List Bd},UpB l->(∀ x∈l,Zak x.var y.var≠0)->UpB (putB l y)
 | [],_,_=>by simp [putB,UpB]
 | x::l,h,hn=>by
  obtain ⟨h1,h2⟩:=List.pairwise_cons.1 h
  simp only [putB]
  split
  ·next hlt =>
   refine List.pairwise_cons.2 ⟨fun z hz=>?_,Zt8 h2 fun z hz=>hn z (List.mem_cons_of_mem _ hz)⟩
   rcases List.mem_cons.1 ((Zhj y l).mem_iff.1 hz) with rfl | hz
   ·exact hlt
   ·exact h1 z hz
  ·next hge =>
   have hx:=hn x List.mem_cons_self
   have hyx:Zak y.var x.var < 0:=by rw [ZbR];omega
   refine List.pairwise_cons.2 ⟨fun z hz=>?_,h⟩
   rcases List.mem_cons.1 hz with rfl | hz
   ·exact hyx
   ·exact Zfr hyx (h1 z hz)
def ZfP (l:List Bd):Prop:=l.Pairwise fun x y=>Zak x.var y.var≠0
theorem ZEZ {l:List Bd} (h:ZfP l):UpB (srtB l):=by
 have:∀ (l m:List Bd),UpB m->ZfP l->(∀ x∈m,∀ y∈l,Zak x.var y.var≠0)->UpB (l.foldl putB m):=fun l=>by
  induction l with
  | nil=>exact fun m h _ _=>h
  | cons x l ih =>
   intro m hm hd hx
   obtain ⟨d1,d2⟩:=List.pairwise_cons.1 hd
   refine ih _ (Zt8 hm fun z hz=>hx z hz x List.mem_cons_self) d2 fun z hz y hy=>?_
   rcases List.mem_cons.1 ((Zhj x m).mem_iff.1 hz) with rfl | hz
   ·exact d1 y hy
   ·exact hx z hz y (List.mem_cons_of_mem _ hy)
 exact this l [] List.Pairwise.nil h (fun x hx=>by cases hx)
theorem Zqq:∀ {l m:List Bd},UpB l->UpB m->l.Perm m->l=m
 | [],m,_,_,h=>h.nil_eq
 | x::l,[],_,_,h=>by simpa using h.length_eq
 | x::l,y::m,h1,h2,h=>by
  obtain ⟨a1,a2⟩:=List.pairwise_cons.1 h1
  obtain ⟨b1,b2⟩:=List.pairwise_cons.1 h2
  have e:x=y:=by
   rcases List.mem_cons.1 (h.mem_iff.1 (List.mem_cons_self (a:=x))) with e | hx
   ·exact e
   ·rcases List.mem_cons.1 (h.mem_iff.2 (List.mem_cons_self (a:=y))) with e | hy
    ·exact e.symm
    ·have q1:=b1 x hx
     have q2:=a1 y hy
     rw [ZbR] at q1
     omega
  subst e
  rw [Zqq a2 b2 ((List.perm_cons x).1 h)]
section
variable {g:Sgn}
noncomputable def mapA (g:Sgn) (b:List Bd):List Bd->Option (List Bd)
 | []=>some []
 | y::l=>(apT g b y.to).bind fun t=>(mapA g b l).map (⟨y.var,t⟩::·)
theorem ZnY {b:List Bd} {y:Bd}:∀ (l:List Bd),mapA g b (l++[y])=(mapA g b l).bind fun m=>(apT g b y.to).map fun t=>m++[⟨y.var,t⟩]
 | []=>by
  simp only [List.nil_append,mapA,Option.bind_some]
  cases apT g b y.to <;> rfl
 | x::l=>by
  simp only [List.cons_append,mapA,ZnY l]
  cases apT g b x.to with
  | none=>rfl
  | some u =>
   simp only [Option.bind_some]
   cases mapA g b l with
   | none=>rfl
   | some us =>
    simp only [Option.bind_some,Option.map_some]
    cases apT g b y.to <;> rfl
theorem ZjG {b:List Bd} {y:Bd}:∀ {l:List Bd},y∈l->apT g b y.to=none->mapA g b l=none
 | x::l,hm,h=>by
  simp only [mapA]
  rcases List.mem_cons.1 hm with rfl | hm
  ·rw [h];rfl
  ·rw [ZjG hm h]
   cases apT g b x.to <;> rfl
theorem Zf3 {b:List Bd}:∀ {l m:List Bd},mapA g b l=some m->m.map Bd.var=l.map Bd.var∧∀ z∈m,∃ y∈l,z.var=y.var∧apT g b y.to=some z.to
 | [],m,h=>by simp only [mapA,Option.some.injEq] at h;subst h;exact ⟨rfl,fun z hz=>by cases hz⟩
 | y::l,m,h=>by
  simp only [mapA] at h
  cases h1:apT g b y.to with
  | none=>rw [h1] at h;cases h
  | some t =>
   rw [h1,Option.bind_some] at h
   cases h2:mapA g b l with
   | none=>rw [h2] at h;cases h
   | some k =>
    rw [h2,Option.map_some,Option.some.injEq] at h
    subst h
    obtain ⟨e1,e2⟩:=Zf3 h2
    refine ⟨by simp [e1],fun z hz=>?_⟩
    rcases List.mem_cons.1 hz with rfl | hz
    ·exact ⟨y,List.mem_cons_self,rfl,h1⟩
    ·obtain ⟨x,hx,hxe⟩:=e2 z hz
     exact ⟨x,List.mem_cons_of_mem _ hx,hxe⟩
def inA (a:List Bd) (v:Tm):Bool:=a.any fun z=>decide (Zak v z.var=0)
def Za5 (a b:List Bd):List Bd:=b.filter fun y=>!inA a y.var
theorem Zmq {a b:List Bd} {i:Nat} {y:Bd} (h:b[i]?=some y):Za5 a (b.take (i+1))=if inA a y.var=true then Za5 a (b.take i) else Za5 a (b.take i)++[y]:=by
 unfold Za5
 rw [List.take_add_one,h,Option.toList,List.filter_append]
 cases hi:inA a y.var <;> simp [hi]
theorem ZE0 {a:List Bd} {v:Tm}:(Zb1 a v).isSome=inA a v:=by
 induction a with
 | nil=>rfl
 | cons z a ih =>
  simp only [Zb1,inA,List.any_cons]
  have e:(Zak v z.var=0) ↔ (Zak z.var v=0):=by rw [ZbR];omega
  by_cases h:Zak z.var v=0
  ·rw [if_pos h,decide_eq_true (e.2 h)];rfl
  ·rw [if_neg h,decide_eq_false (fun q=>h (e.1 q)),Bool.false_or]
   exact ih
theorem SbsOk.up {l:List Bd} (h:SbsOk g l):UpB l:=by
 refine List.pairwise_iff_getElem.2 fun i j hi hj hij=>?_
 have key:∀ (n:Nat) (i:Nat) (hi:i+(n+1) < l.length),Zak (l[i]'om).var (l[i+(n+1)]).var < 0:=fun n=>by
  induction n with
  | zero=>exact fun i hi=>(h.at' (i+1) _ (List.getElem?_eq_getElem hi)).ord i _ rfl (List.getElem?_eq_getElem om)
  | succ n ih=>exact fun i hi=>Zfr (ih i om) ((h.at' (i+(n+1+1)) _ (List.getElem?_eq_getElem hi)).ord (i+(n+1)) _ rfl (List.getElem?_eq_getElem om))
 have:=key (j - i - 1) i om
 have e:i+(j - i - 1+1)=j:=by omega
 simpa only [e] using this
theorem UpB.dist {l:List Bd} (h:UpB l):ZfP l:=h.imp fun h=>by omega
theorem Zzt {l m:List Bd} (h:m.map Bd.var=l.map Bd.var) (hd:ZfP l):ZfP m:=by
 have h1:(l.map Bd.var).Pairwise fun x y=>Zak x y≠0:=List.pairwise_map.2 hd
 rw [<- h] at h1
 exact List.pairwise_map.1 h1
theorem Zzu {a b m:List Bd} (ha:ZfP a) (hb:ZfP b) (hm:m.map Bd.var=a.map Bd.var):ZfP (m++Za5 a b):=by
 refine List.pairwise_append.2 ⟨Zzt hm ha,hb.filter _,fun x hx y hy=>?_⟩
 unfold Za5 at hy
 obtain ⟨_,h1⟩:=List.mem_filter.1 hy
 have hxv:x.var∈a.map Bd.var:=by rw [<- hm];exact List.mem_map_of_mem hx
 obtain ⟨z,hz,e⟩:=List.mem_map.1 hxv
 intro hc
 have:inA a y.var=true:=by
  unfold inA
  refine List.any_eq_true.2 ⟨z,hz,?_⟩
  rw [decide_eq_true_iff,e,ZbR]
  omega
 rw [this] at h1
 cases h1
open Classical in
noncomputable def cmS (g:Sgn) (a b:List Bd):Option (List Bd):=if ZbJ g=true∧ZbQ g a=true∧ZbQ g b=true then (mapA g b a).bind fun m=>if ZbQ g (srtB (m++Za5 a b))=true then some (srtB (m++Za5 a b)) else none else none
end
def dig (n:Nat):ByteArray:=ZhW (IntKind.u8.wrap (IntKind.i64.wrap (48+(n:Int).tmod 10)))
def txtL (n:Nat) (acc:ByteArray):ByteArray:=if h:n=0 then acc else txtL (n / 10) (dig n++acc)
termination_by n
decreasing_by omega
def txt (k:Int):ByteArray:=if k<=0 then ⟨#[109,48]⟩ else ⟨#[109]⟩++txtL k.toNat ByteArray.empty
theorem ZFC (acc:ByteArray):txtL 0 acc=acc:=by rw [txtL];simp
theorem ZFD {n:Nat} (h:n≠0) (acc:ByteArray):txtL n acc=txtL (n / 10) (dig n++acc):=by rw [txtL];simp [h]
theorem Zqr (n:Nat):(dig n).size=1:=rfl
set_option maxRecDepth 100000 in
theorem ZcB (k:Int) (hk:k<=1000000000) (hk0:0<=k):Con e0 70 [.one (.lit (.int .i64 k))] [.one (.lit (.string (txt k)))]:=by
 by_cases h0:k<=0
 ·have h:txt k=⟨#[109,48]⟩:=by unfold txt;rw [if_pos h0]
  have q1:(k<=0)=True:=eq_true h0
  rw [h]
  refine gI (ts:=[.slot 2]) 173 Tryz.func70 ?_
  (have F:=@q1;refine gG ?_;exact gTd)
 ·have h:txt k=⟨#[109]⟩++txtL k.toNat ByteArray.empty:=by unfold txt;rw [if_neg h0]
  have q1:(k<=0)=False:=eq_false h0
  rw [h]
  obtain ⟨n,rfl⟩:∃ n:Nat,k=n:=⟨k.toNat,by omega⟩
  rw [Int.toNat_natCast]
  refine gI (ts:=[.slot 2]) 173 Tryz.func70 ?_
  (have F:=@q1;refine gG ?_;clear F)
  (have F:=@q1;refine gL (ι:=Nat × ByteArray) [0,3,7] [] (fun x=>[(0,.d (.one (.lit (.int .i64 (x.1:Int))))),(3,.d (.one (.lit (.string x.2))))]) (fun x=>[]) (fun x=>txtL n ByteArray.empty=txtL x.1 x.2∧x.2.size+x.1<=n) (fun x=>x.1) ((n,⟨#[]⟩)) (⟨rfl,by show 0+n<=n;omega⟩) (fun x hx=>?_);clear F)
  obtain ⟨j,acc⟩:=x
  obtain ⟨h1,h2⟩:=hx
  simp only at h1 h2
  rw [h1]
  clear h1
  by_cases hj:j=0
  ·subst hj
   have q2:(((0:Nat):Int) > 0)=False:=eq_false om
   rw [ZFC]
   have q5:((ByteArray.mk #[109]).size+acc.size<=9223372036854775807)=True:=eq_true (by show 1+acc.size<=_;omega)
   (have F:=ai @q2 @q5;refine gG ?_;exact gTd)
  ·have q2:((j:Int) > 0)=True:=eq_true om
   rw [ZFD hj]
   have q3:IntKind.i64.wrap ((j:Int).tdiv 10)=((j / 10:Nat):Int):=by rw [show (j:Int).tdiv 10=((j / 10:Nat):Int) from by rw [Int.ofNat_tdiv];rfl];exact IntWalk.i64_in _ om
   (have F:=@q2;have NN:Zah 5:=trivial;refine gGn ?_;clear F NN)
   refine gB ?_
   (have F:=@q2;refine gP 5 ?_;clear F)
   refine gY ?_
   have q5:((dig j).size+acc.size<=9223372036854775807)=True:=eq_true (by rw [Zqr];omega)
   change Runs _ _ _ _ ⟨(13,.d (.one (.lit (.string (dig j)))))::_,_⟩ _
   (have F:=ai @q2 @q5;refine gR ?_;clear F)
   have hd:=Zqr j
   (have F:=ai @q2 @q3;refine gG ?_;exact ⟨(j / 10,dig j++acc),⟨rfl,by rw [ByteArray.size_append,hd];omega⟩,gw,gw,by omega⟩)
def mkV (k:Int):Value->Value
 | .int i _=>.int i k
 | .string _=>.string (txt k)
 | .bool _=>.bool (k % 3==0)
 | v=>v
mutual
def mkC:Int->C->C
 | k,.lit v=>.lit (mkV k v)
 | k,.sl rows=>.sl (Zan k rows)
 | _,.ptr cs=>.ptr cs
 | _,.fn f cs=>.fn f cs
def ZcU:Int->List C->List C
 | _,[]=>[]
 | k,c::cs=>mkC k c::ZcU (k+cntC c) cs
def Zan:Int->List (List C)->List (List C)
 | _,[]=>[]
 | k,r::rs=>ZcU k r::Zan (k+ZcC r) rs
def cntC:C->Nat
 | .lit _=>1
 | .sl rows=>cntRows rows
 | .ptr _=>0
 | .fn _ _=>0
def ZcC:List C->Nat
 | []=>0
 | c::cs=>cntC c+ZcC cs
def cntRows:List (List C)->Nat
 | []=>0
 | r::rs=>ZcC r+cntRows rs
end
theorem ZnZ:∀ (k:Int) (cs:List C),(ZcU k cs).length=cs.length
 | _,[]=>by simp [ZcU]
 | k,c::cs=>by simp [ZcU,ZnZ _ cs]
theorem Zix:∀ (k:Int) (rs:List (List C)),(Zan k rs).length=rs.length
 | _,[]=>by simp [Zan]
 | k,c::cs=>by simp [Zan,Zix _ cs]
theorem Zdl:∀ (rs:List (List C)) (r:List C),cntRows (rs++[r])=cntRows rs+ZcC r
 | [],r=>by simp [cntRows]
 | q::rs,r=>by simp [cntRows,Zdl rs r];omega
theorem ZcY:∀ (rs:List (List C)) (r:List C) (k:Int),Zan k (rs++[r])=Zan k rs++[ZcU (k+cntRows rs) r]
 | [],r,k=>by simp [Zan,cntRows]
 | q::rs,r,k=>by simp [Zan,cntRows,ZcY rs r,Int.add_assoc]
theorem Zce {α:Type} {l:List α} {i:Nat} {x:α} (h:l[i]?=some x):l.take (i+1)=l.take i++[x]:=by simp [List.take_add_one,h]
theorem Zcj {α:Type} {l:List α} {i:Nat} {x:α} (h:l[i]?=some x):l.drop i=x::l.drop (i+1):=by
 obtain ⟨h1,rfl⟩:=List.getElem?_eq_some_iff.1 h
 exact List.drop_eq_getElem_cons h1
theorem Zcg:∀ (rs:List (List C)) (i:Nat),cntRows (rs.take i)<=cntRows rs
 | [],i=>by simp [cntRows]
 | r::rs,0=>by simp [cntRows]
 | r::rs,i+1=>by have:=Zcg rs i;simp only [List.take_succ_cons,cntRows];omega
theorem ZE1 {x y:Bk} (h:∀ g,pblk x g->¬ pblk y g):ZcE [x,y]:=⟨fun z hz g hg=>by simp at hz;subst hz;exact h g hg,Zel _⟩
theorem Zg0 {E:Nat->Prop} {v:Value}:ZjO (ι:=Option Addr × Nat) [.set E (fun w=>Own w (.sl []) E v)] (fun i=>v=.slice i.1 0 i.2) (fun _=>[.set E (fun w=>Own w (.sl []) E v)]):=fun w S h ha=>by
 obtain ⟨h1,h2,h3⟩:_∧Own w (.sl []) E v∧_:=h (.set E (fun w=>Own w (.sl []) E v)) (by simp)
 simp only [Own] at h2
 obtain ⟨A,n,cap,hv,hn,_⟩:=h2
 simp at hn
 subst hn
 exact ⟨(A,cap),hv,h,ha,fun _ h=>h⟩
theorem Zfu {E:Nat->Prop} {v:Value} {rows:List (List C)} {sz:Nat} (hne:rows≠[]) (hrl:rowsLen sz rows):ZjO (ι:=Option Addr × Nat × Nat × List (List Value) × (Nat->Prop)) [.set E (fun w=>Own w (.sl rows) E v)]
  (fun i=>v=.slice i.1 i.2.2.2.1.length i.2.1∧i.2.2.2.1.length=rows.length∧rows.length<=maxLen) (fun i=>[.buf (some (i.1,i.2.1)) i.2.2.1 sz (i.2.2.2.1.map Zap),.set i.2.2.2.2 (fun w=>Zat w rows i.2.2.2.2 i.2.2.2.1)]):=fun w S h ha=>by
 obtain ⟨h1,h2,h3⟩:(∀ b,E b->b < w.heap.size∧¬ S b)∧Own w (.sl rows) E v∧_:=h (.set E (fun w=>Own w (.sl rows) E v)) (by simp)
 obtain ⟨A,n,cap,rfl,hn1,hn2,hn3⟩:=(Own.rep _ _ _ h2).form
 obtain ⟨uss,ety,E',rfl,k1,k2,k3,k4⟩:=Own.open (T:=S) (fun b hb=>(h1 b hb).2) hne hrl h2
 refine ⟨(A,cap,ety,uss,E'),⟨rfl,k2.len,by omega⟩,fun x hx=>?_,ZE1 fun g hg hg2=>?_,fun g ⟨x,hx,hg⟩=>⟨_,List.mem_cons_self,?_⟩⟩
 ·simp only [List.mem_cons,List.not_mem_nil,or_false] at hx
  rcases hx with rfl | rfl
  ·show ZaO w S ety sz (uss.map Zap) (.slice A (uss.map Zap).length cap)
   rw [List.length_map];exact k1
  ·exact ⟨fun b hb=>h1 b (k3 b hb).1,k2,Zat.stable _ _ _⟩
 ·simp only [pblk,List.length_map] at hg hg2
  exact (k3 g hg2).2 hg
 ·simp only [List.mem_cons,List.not_mem_nil,or_false] at hx
  rcases hx with rfl | rfl
  ·simp only [pblk,List.length_map] at hg;exact k4 g hg
  ·exact (k3 g hg).1
def Zbb:List C->List Value->(Nat->Nat->Prop)->List Bk
 | .sl rows::cs,u::us,Es=>.set (Es 0) (fun w=>Own w (.sl rows) (Es 0) u)::Zbb cs us (fun k=>Es (k+1))
 | .lit _::cs,_::us,Es=>Zbb cs us Es
 | _,_,_=>[]
def ZeC:List C->List Value->Prop
 | [],[]=>True
 | .lit x::cs,u::us=>u=x∧ZeC cs us
 | .sl _::cs,_::us=>ZeC cs us
 | _,_=>False
def Zeb:C->Bool
 | .lit _=>true
 | .sl _=>true
 | _=>false
theorem Ziy {w:World} {S:Nat->Prop}:∀ {cs:List C} {us:List Value} {E:Nat->Prop},cs.all Zeb=true->Zad w cs E us->(∀ b,E b->b < w.heap.size∧¬ S b)->∃ Es,ZeC cs us∧(∀ x∈Zbb cs us Es,Zb6 w S x)∧ZcE (Zbb cs us Es)∧∀ g,Za1 (Zbb cs us Es) g->E g
 | [],[],E,_,_,_=>⟨fun _ _=>False,trivial,by simp [Zbb],trivial,fun g ⟨x,hx,_⟩=>by simp [Zbb] at hx⟩
 | c::cs,u::us,E,hp,h,hE=>by
  simp only [Zad] at h
  obtain ⟨S1,S2,i1,i2,hd,h1,h2⟩:=h
  simp only [List.all_cons,Bool.and_eq_true] at hp
  obtain ⟨Es,k1,k2,k3,k4⟩:=Ziy hp.2 h2 (fun b hb=>hE b (i2 b hb))
  cases c with
  | lit x =>
   simp only [Own] at h1
   exact ⟨Es,⟨h1,k1⟩,k2,k3,fun g hg=>i2 g (k4 g hg)⟩
  | sl rows =>
   refine ⟨fun k=>match k with | 0=>S1 | k+1=>Es k,k1,fun x hx=>?_,⟨fun y hy g hg hg2=>hd g hg (k4 g ⟨y,hy,hg2⟩),k3⟩,fun g ⟨x,hx,hg⟩=>?_⟩
   ·simp only [Zbb,List.mem_cons] at hx
    rcases hx with rfl | hx
    ·exact ⟨fun b hb=>hE b (i1 b hb),h1,Own.stable _ _ _⟩
    ·exact k2 x hx
   ·simp only [Zbb,List.mem_cons] at hx
    rcases hx with rfl | hx
    ·exact i1 g hg
    ·exact i2 g (k4 g ⟨x,hx,hg⟩)
  | ptr _=>simp [Zeb] at hp
  | fn _ _=>simp [Zeb] at hp
 | [],_::_,_,_,h,_=>by simp [Zad] at h
 | _::_,[],_,_,h,_=>by simp [Zad] at h
theorem Zad.of_cells {w:World} {S:Nat->Prop}:∀ {cs:List C} {us:List Value} {Es:Nat->Nat->Prop},cs.all Zeb=true->ZeC cs us->(∀ x∈Zbb cs us Es,Zb6 w S x)->ZcE (Zbb cs us Es)->Zad w cs (Za1 (Zbb cs us Es)) us
 | [],[],Es,_,_,_,_=>Zad.nil
 | .lit x::cs,u::us,Es,hp,hl,h,ha=>by
  obtain ⟨rfl,hl⟩:=hl
  simp only [List.all_cons,Bool.and_eq_true] at hp
  simp only [Zad]
  exact ⟨fun _=>False,_,fun _ h=>h.elim,fun _ h=>h,fun _ h _=>h,by simp [Own],Zad.of_cells (Es:=Es) hp.2 hl h ha⟩
 | .sl rows::cs,u::us,Es,hp,hl,h,ha=>by
  simp only [List.all_cons,Bool.and_eq_true] at hp
  simp only [Zad]
  obtain ⟨a1,a2⟩:=ha
  have hE:=h (.set (Es 0) (fun w=>Own w (.sl rows) (Es 0) u)) List.mem_cons_self
  refine ⟨Es 0,Za1 (Zbb cs us (fun k=>Es (k+1))),fun b hb=>⟨_,List.mem_cons_self,hb⟩,fun b ⟨x,hx,hb⟩=>⟨x,List.mem_cons_of_mem _ hx,hb⟩,fun b hb ⟨x,hx,hb2⟩=>a1 x hx b hb hb2,hE.2.1,Zad.of_cells hp.2 hl (fun x hx=>h x (List.mem_cons_of_mem _ hx)) a2⟩
 | .ptr _::_,_::_,_,hp,_,_,_=>by simp [Zeb] at hp
 | .fn _ _::_,_::_,_,hp,_,_,_=>by simp [Zeb] at hp
 | [],_::_,_,_,hl,_,_=>by simp [ZeC] at hl
 | .lit _::_,[],_,_,hl,_,_=>by simp [ZeC] at hl
 | .sl _::_,[],_,_,hl,_,_=>by simp [ZeC] at hl
theorem Zfi:∀ {cs:List C} {us:List Value} {Es:Nat->Nat->Prop} (y:Bk),y∈Zbb cs us Es->∃ E G,y=.set E G
 | .sl rows::cs,u::us,Es,y,h=>by
  rcases List.mem_cons.1 h with rfl | h
  ·exact ⟨_,_,rfl⟩
  ·exact Zfi y h
 | .lit _::cs,_::us,Es,y,h=>Zfi (cs:=cs) (us:=us) y h
 | .ptr _::_,_,_,y,h=>by simp [Zbb] at h
 | .fn _ _::_,_,_,y,h=>by simp [Zbb] at h
 | [],_,_,y,h=>by simp [Zbb] at h
 | .lit _::_,[],_,y,h=>by simp [Zbb] at h
 | .sl _::_,[],_,y,h=>by simp [Zbb] at h
theorem Zfv {E:Nat->Prop} {r:List C} {rest:List (List C)} {us:List Value} {urest:List (List Value)} (hp:r.all Zeb=true):ZjO (ι:=Unit) [.set E (fun w=>Zat w (r::rest) E (us::urest))] (fun _=>ZeC r us) (fun _=>[.set E (fun w=>Zat w (r::rest) E (us::urest))]):=fun w S h ha=>by
 obtain ⟨h1,h2,h3⟩:(∀ b,E b->b < w.heap.size∧¬ S b)∧Zat w (r::rest) E (us::urest)∧_:=h (.set E (fun w=>Zat w (r::rest) E (us::urest))) (by simp)
 obtain ⟨S1,S2,i1,i2,hd,k1,k2⟩:=h2
 obtain ⟨Es,hl,_⟩:=Ziy (S:=S) hp k1 (fun b hb=>h1 b (i1 b hb))
 exact ⟨(),hl,h,ha,fun _ h=>h⟩
theorem Zg1 {E:Nat->Prop} {r:List C} {rest:List (List C)} {us:List Value} {urest:List (List Value)} (hp:r.all Zeb=true):ZjO (ι:=(Nat->Prop) × (Nat->Nat->Prop)) [.set E (fun w=>Zat w (r::rest) E (us::urest))] (fun _=>True) (fun i=>.set i.1 (fun w=>Zat w rest i.1 urest)::Zbb r us i.2):=fun w S h ha=>by
 obtain ⟨h1,h2,h3⟩:(∀ b,E b->b < w.heap.size∧¬ S b)∧Zat w (r::rest) E (us::urest)∧_:=h (.set E (fun w=>Zat w (r::rest) E (us::urest))) (by simp)
 obtain ⟨S1,S2,i1,i2,hd,k1,k2⟩:=h2
 obtain ⟨Es,hl,q1,q2,q3⟩:=Ziy (S:=S) hp k1 (fun b hb=>h1 b (i1 b hb))
 refine ⟨(S2,Es),trivial,fun x hx=>?_,⟨fun y hy g hg hg2=>hd g (q3 g ⟨y,hy,hg2⟩) hg,q2⟩,fun g ⟨x,hx,hg⟩=>⟨_,List.mem_cons_self,?_⟩⟩
 ·rcases List.mem_cons.1 hx with rfl | hx
  ·exact ⟨fun b hb=>h1 b (i2 b hb),k2,Zat.stable _ _ _⟩
  ·exact q1 x hx
 ·rcases List.mem_cons.1 hx with rfl | hx
  ·exact i2 g hg
  ·exact i1 g (q3 g ⟨x,hx,hg⟩)
theorem Zg2 {E:Nat->Prop} {done:List (List C)} {ud:List (List Value)} {cs:List C} {us:List Value} {Es:Nat->Nat->Prop} (hp:cs.all Zeb=true) (hl:ZeC cs us):ZbG (.set E (fun w=>Zat w done E ud)::Zbb cs us Es) [.set (fun b=>E b∨Za1 (Zbb cs us Es) b) (fun w=>Zat w (done++[cs]) (fun b=>E b∨Za1 (Zbb cs us Es) b) (ud++[us]))]:=fun w S h ha=>by
 have hE:=h (.set E (fun w=>Zat w done E ud)) List.mem_cons_self
 have hv:=Zad.of_cells (w:=w) (S:=S) hp hl (fun x hx=>h x (List.mem_cons_of_mem _ hx)) ha.2
 refine ⟨fun x hx=>?_,Zel _,fun g ⟨x,hx,hg⟩=>?_⟩
 ·simp only [List.mem_cons,List.not_mem_nil,or_false] at hx
  subst hx
  refine ⟨fun b hb=>?_,Zat.snoc hE.2.1 hv (fun _ h=>.inl h) (fun _ h=>.inr h) (fun b hb ⟨y,hy,hg⟩=>ha.1 y hy b hb hg),Zat.stable _ _ _⟩
  rcases hb with hb | ⟨y,hy,hg⟩
  ·exact hE.1 b hb
  ·obtain ⟨E',G',rfl⟩:=Zfi y hy
   exact (h _ (List.mem_cons_of_mem _ hy)).1 b hg
 ·simp only [List.mem_cons,List.not_mem_nil,or_false] at hx
  subst hx
  rcases hg with hg | ⟨y,hy,hg⟩
  ·exact ⟨_,List.mem_cons_self,hg⟩
  ·exact ⟨y,List.mem_cons_of_mem _ hy,hg⟩
theorem Zzv {f:FuncId} {args:List D} {row:List C} (hb:Zb5 e0.P f=true) (hok:row.all Zaw=true)
  (h:∀ (w:World) (S:Nat->Prop) (vs:List Value),ZaC w S args vs->Calls e0.P f vs.toArray w fun e w'=>∃ us':List Value,e=.returned (.agg us'.toArray)∧Zad w' row (fun x=>w.heap.size<=x∧x < w'.heap.size) us'∧Below w.heap.size w w'):ConP e0 f args [] (ZeL row):=by
 refine ⟨hb,fun w S vs hS hE hG hpm ha hv=>(h w S vs hv).mono ?_⟩
 rintro en w' ⟨us,h1,h2,h3⟩
 obtain ⟨E,hE1,h2⟩:∃ E:Nat->Prop,(∀ b,E b->w.heap.size<=b∧b < w'.heap.size)∧Zad w' row E us:=⟨_,fun _ h=>h,h2⟩
 refine ⟨.agg us.toArray,[.agg (Zap us)],[.set E (fun w=>Zad w row E us)],h1,ZeL.mk h2.len (h2.cells hok),Kept.of_below h3 (fun d=>d.elim),ZeI.keep _ _ h3.size (fun b hb=>h3.block b (hE b hb)) hG,fun x hx=>?_,Zel _,us,rfl,Ze6 us⟩
 simp only [List.mem_cons,List.not_mem_nil,or_false] at hx
 subst hx
 exact ⟨⟨fun b hb=>⟨(hE1 b hb).2,fun hn=>hn.2 ⟨_,List.mem_cons_self,hb⟩⟩,h2,Zad.stable _ _ _⟩,fun g hg=>.inr (hE1 g hg).1⟩
def ZhY (rows:List (List C)) (r:List D) (pm:List Bk):Prop:=∃ v E,r=[.one (.lit v)]∧Zaw (.lit v)=true∧pm=[.set E (fun w=>Own w (.sl rows) E v)]
theorem Zvo {f:FuncId} {args:List D} {rows:List (List C)} (hb:Zb5 e0.P f=true)
  (h:∀ (w:World) (S:Nat->Prop) (vs:List Value),ZaC w S args vs->Calls e0.P f vs.toArray w fun e w'=>∃ v:Value,e=.returned v∧Own w' (.sl rows) (fun x=>w.heap.size<=x∧x < w'.heap.size) v∧Below w.heap.size w w'):ConP e0 f args [] (ZhY rows):=by
 refine ⟨hb,fun w S vs hS hE hG hpm ha hv=>(h w S vs hv).mono ?_⟩
 rintro en w' ⟨v,h1,h2,h3⟩
 obtain ⟨E,hE1,h2⟩:∃ E:Nat->Prop,(∀ b,E b->w.heap.size<=b∧b < w'.heap.size)∧Own w' (.sl rows) E v:=⟨_,fun _ h=>h,h2⟩
 refine ⟨v,[.one (.lit v)],[.set E (fun w=>Own w (.sl rows) E v)],h1,⟨v,E,rfl,Ze4 (c:=.sl rows) rfl (Own.rep (.sl rows) _ v h2),rfl⟩,Kept.of_below h3 (fun d=>d.elim),ZeI.keep _ _ h3.size (fun b hb=>h3.block b (hE b hb)) hG,fun x hx=>?_,Zel _,by simp [retA,ARel,DRel,Rep]⟩
 simp only [List.mem_cons,List.not_mem_nil,or_false] at hx
 subst hx
 exact ⟨⟨fun b hb=>⟨(hE1 b hb).2,fun hn=>hn.2 ⟨_,List.mem_cons_self,hb⟩⟩,h2,Own.stable _ _ _⟩,fun g hg=>.inr (hE1 g hg).1⟩
def ZdM:Bk->Bool
 | .set _ _=>true
 | _=>false
def litC:C->Bool
 | .lit _=>true
 | _=>false
def litD:D->Bool
 | .one c=>litC c
 | .agg cs=>cs.all litC
 | _=>false
theorem ZkC {w:World} {S S':Nat->Prop}:∀ {cs:List C} {vs:List Value},cs.all litC=true->Zaa w S cs vs->Zaa w S' cs vs
 | [],[],_,_=>trivial
 | .lit x::cs,v::vs,hl,h=>by
  simp only [List.all_cons,Bool.and_eq_true] at hl
  exact ⟨h.1,ZkC hl.2 h.2⟩
 | .sl _::_,_::_,hl,_=>by simp [litC] at hl
 | .ptr _::_,_::_,hl,_=>by simp [litC] at hl
 | .fn _ _::_,_::_,hl,_=>by simp [litC] at hl
 | [],_::_,_,h=>h.elim
 | _::_,[],_,h=>h.elim
theorem Zqs {w:World} {S S':Nat->Prop} {x:D} {v:Value} (hl:litD x=true) (h:DRel w S x v):DRel w S' x v:=by
 cases x with
 | one c=>cases c with
  | lit y=>exact h
  | _=>simp [litD,litC] at hl
 | agg cs=>obtain ⟨vs,h1,h2⟩:=h;exact ⟨vs,h1,ZkC hl h2⟩
 | clip _=>simp [litD] at hl
theorem ZjH {w:World} {S S':Nat->Prop}:∀ {r:List D} {vs:List Value},r.all litD=true->ZaC w S r vs->ZaC w S' r vs
 | [],[],_,_=>trivial
 | x::r,v::vs,hl,h=>by
  simp only [List.all_cons,Bool.and_eq_true] at hl
  exact ⟨Zqs hl.1 h.1,ZjH hl.2 h.2⟩
 | [],_::_,_,h=>h.elim
 | _::_,[],_,h=>h.elim
theorem ZAT {w:World} {S S':Nat->Prop} {L:Lay}:∀ {r:List D} {v:Value},r.all litD=true->ARel w S L (retA r) v->ARel w S' L (retA r) v
 | [],_,_,h=>by obtain ⟨vs,h1,h2⟩:=h;exact ⟨vs,h1,ZjH rfl h2⟩
 | [x],v,hl,h=>by
  simp only [List.all_cons,List.all_nil,Bool.and_true] at hl
  exact Zqs (x:=x) (v:=v) hl h
 | x::y::z,_,hl,h=>by obtain ⟨vs,h1,h2⟩:=h;exact ⟨vs,h1,ZjH hl h2⟩
theorem ZFU {e:Env} {f:FuncId} {args r:List D} (h:Con e f args r):ConP e f args [] (fun r' pm=>r'=r∧pm=[]):=by
 refine ⟨h.1,fun w S vs hS hE hG hpm ha hv=>(h.2 w S vs hS hE hG hv).mono ?_⟩
 rintro en w' ⟨v,h1,h2,h3,h4⟩
 refine ⟨v,r,[],h1,⟨rfl,rfl⟩,⟨h2.os,h2.tape,h2.output,h2.drawn,h2.size,fun k hk hn=>h2.block k hk (fun h=>hn (.inl h))⟩,h3,fun x hx=>by simp at hx,trivial,?_⟩
 exact ARel.keep (Nat.le_refl _) (fun _ _ _=>rfl) (fun b hb=>⟨hb.elim .inl (fun h=>.inr (.inr h)),fun ⟨x,hx,_⟩=>by simp at hx⟩) h4
theorem Zzw {w:World} {S:Nat->Prop} {x:Bk} (hs:ZdM x=true) (h:Zb6 w S x) {g:Nat} (hg:pblk x g):g < w.heap.size∧¬ S g:=by
 cases x with
 | set E G=>exact h.1 g hg
 | _=>simp [ZdM] at hs
theorem Zqt {w w':World} {S S':Nat->Prop} {x:Bk} (hs:ZdM x=true) (h:Zb6 w S x) (hz:w.heap.size<=w'.heap.size) (hk:∀ b,pblk x b->w'.heap[b]?=w.heap[b]?) (hS:∀ b,pblk x b->¬ S' b):Zb6 w' S' x:=by
 cases x with
 | set E G=>exact ⟨fun b hb=>⟨Nat.lt_of_lt_of_le (h.1 b hb).1 hz,hS b hb⟩,h.2.2 w w' hz hk h.2.1,h.2.2⟩
 | _=>simp [ZdM] at hs
theorem Zn0:∀ {a b:List Bk},ZcE a->ZcE b->(∀ x∈a,∀ y∈b,∀ g,pblk x g->¬ pblk y g)->ZcE (a++b)
 | [],_,_,h,_=>h
 | x::a,b,⟨h1,h2⟩,h,hd=>⟨fun y hy g hx hg=>(List.mem_append.1 hy).elim (fun q=>h1 y q g hx hg) (fun q=>hd x List.mem_cons_self y q g hx hg),Zn0 h2 h (fun z hz=>hd z (List.mem_cons_of_mem _ hz))⟩
theorem Zzx {e:Env} {f:FuncId} {data lits:List D} {R:List D->List Bk->Prop} (pm:List Bk) (h:ConP e f data [] R) (hset:pm.all ZdM=true) (hR:∀ r q,R r q->r.all litD=true∧q.all ZdM=true)
  (hx:∀ (w:World) (S:Nat->Prop) (vs:List Value),(∀ x∈pm,Zb6 w S x)->ZaC w S lits vs->ZaC w (fun b=>S b∨Za1 pm b) data vs):ConP e f lits pm (fun r q=>∃ q1,R r q1∧q=q1++pm):=by
 refine ⟨h.1,fun w S vs hS hE hG hpm ha hv=>?_⟩
 have hset':∀ x∈pm,ZdM x=true:=fun x hx=>List.all_eq_true.1 hset x hx
 have hlt:∀ g,Za1 pm g->g < w.heap.size∧¬ S g∧¬ e.E g:=fun g ⟨x,hxm,hg⟩=>⟨(Zzw (hset' x hxm) (hpm x hxm).1 hg).1,(Zzw (hset' x hxm) (hpm x hxm).1 hg).2,(hpm x hxm).2 g hg⟩
 refine (h.2 w (fun b=>S b∨Za1 pm b) vs (fun b hb=>hb.elim (hS b) (fun q=>⟨(hlt b q).1,(hlt b q).2.2⟩)) hE hG (fun x hx=>by simp at hx) trivial (hx w S vs (fun x hx=>(hpm x hx).1) hv)).mono ?_
 rintro en w' ⟨v,r,q1,h1,h2,h3,h4,h5,h6,h7⟩
 obtain ⟨l1,l2⟩:=hR r q1 h2
 have l2':∀ x∈q1,ZdM x=true:=fun x hx=>List.all_eq_true.1 l2 x hx
 have hnew:∀ x∈q1,∀ g,pblk x g->w.heap.size<=g:=fun x hx g hg=>((h5 x hx).2 g hg).elim (fun ⟨y,hy,_⟩=>by simp at hy) id
 have hnil:∀ b,¬ Za1 [] b:=fun b ⟨y,hy,_⟩=>by simp at hy
 refine ⟨v,r,q1++pm,h1,⟨q1,h2,rfl⟩,⟨h3.os,h3.tape,h3.output,h3.drawn,h3.size,fun k hk hn=>h3.block k hk (fun q=>q.elim (fun q=>hn (.inl q)) (fun q=>hnil k q))⟩,h4,fun x hxm=>?_,Zn0 h6 ha (fun x hx y hy g hg hg2=>?_),ZAT l1 h7⟩
 ·rcases List.mem_append.1 hxm with hq | hq
  ·refine ⟨Zqt (l2' x hq) (h5 x hq).1 (Nat.le_refl _) (fun _ _=>rfl) (fun b hb hn=>hn.2 ⟨x,List.mem_append.2 (.inl hq),hb⟩),fun g hg=>.inr (hnew x hq g hg)⟩
  ·refine ⟨Zqt (hset' x hq) (hpm x hq).1 h3.size (fun b hb=>h3.block b (hlt b ⟨x,hq,hb⟩).1 (fun q=>q.elim (hlt b ⟨x,hq,hb⟩).2.2 (hnil b))) (fun b hb hn=>hn.2 ⟨x,List.mem_append.2 (.inr hq),hb⟩),fun g hg=>.inl ⟨x,hq,hg⟩⟩
 ·have:=hnew x hx g hg
  have:=(hlt g ⟨y,hy,hg2⟩).1
  omega
section
variable {e:Env} {mask:Nat} {Q:PX->St->Prop} {ds:List (Option Nat)}
def ancN (L:List Oper):Nat->Nat->List Nat
 | 0,_=>[]
 | n+1,j=>ZbO L j++(ZbO L j).flatMap (ancN L n)
theorem Ziz {L:List Oper} {listed:Array Bool} (h:∀ j,listed.getD j false=true->∀ q∈ZbO L j,listed.getD q false=true):∀ (n j:Nat),(∀ q∈ZbO L j,listed.getD q false=true)->∀ q∈ancN L n j,listed.getD q false=true
 | 0,_,_,q,hq=>by cases hq
 | n+1,j,hj,q,hq=>by
  rcases List.mem_append.1 hq with hq | hq
  ·exact hj q hq
  ·obtain ⟨r,hr,hq⟩:=List.mem_flatMap.1 hq
   exact Ziz h n r (h r (hj r hr)) q hq
def Zfj (e:Env) (ds:List (Option Nat)) (L:List Oper) (cons:Nat->Option Nat) (ini:List Nat) (B:St->Prop) (P:Nat->St->Prop):Nat->List Oper->Prop
 | _,[]=>True
 | i,o::os=>(∀ s m,B ⟨s,m⟩->(∀ j∈ZbO L i,(cons j=none∨cons j=some i)->P j ⟨s,m⟩)->(∀ j∈ini,cons j=some i->P j ⟨s,m⟩)->(∀ j∈ini,∀ k,cons j=some k->i∈ZbO L k->P j ⟨s,m⟩)->Runs e ds 0 [o] ⟨s,m⟩ (fun σ'=>B σ'∧P i σ'∧∀ j,j≠i->i ∉ ancN L 6 j->cons j≠some i->(∀ k,cons j=some k->k ∉ ancN L 6 i)->P j ⟨s,m⟩->P j σ'))∧Zfj e ds L cons ini B P (i+1) os
theorem Zfj.get {L:List Oper} {cons:Nat->Option Nat} {ini:List Nat} {B:St->Prop} {P:Nat->St->Prop}:∀ {l:List Oper} {k i:Nat} {o:Oper},Zfj e ds L cons ini B P k l->l[i]?=some o->∀ s m,B ⟨s,m⟩->(∀ j∈ZbO L (k+i),(cons j=none∨cons j=some (k+i))->P j ⟨s,m⟩)->(∀ j∈ini,cons j=some (k+i)->P j ⟨s,m⟩)->(∀ j∈ini,∀ k',cons j=some k'->k+i∈ZbO L k'->P j ⟨s,m⟩)->Runs e ds 0 [o] ⟨s,m⟩ (fun σ'=>B σ'∧P (k+i) σ'∧∀ j,j≠k+i->k+i ∉ ancN L 6 j->cons j≠some (k+i)->(∀ k',cons j=some k'->k' ∉ ancN L 6 (k+i))->P j ⟨s,m⟩->P j σ')
 | [],k,i,o,_,h=>by simp at h
 | x::l,k,0,o,h,ho=>by
  simp only [List.getElem?_cons_zero,Option.some.injEq] at ho
  subst ho
  exact h.1
 | x::l,k,i+1,o,h,ho=>by
  have:=Zfj.get (l:=l) (k:=k+1) (i:=i) (o:=o) h.2 (by simpa using ho)
  rw [show k+1+i=k+(i+1) by omega] at this
  exact this
theorem ZkD {l:List Oper} {cons:Nat->Option Nat} {ini:List Nat} {K B:St->Prop} {P:Nat->St->Prop} (hb:ZjS l=true) (hini:ini.all (fun j=>decide (l.length<=j))=true) (hstep:Zfj e ds l cons ini B P 0 l) (hK:∀ s m,B ⟨s,m⟩->(∀ i,i < l.length∨i∈ini->(∀ k,cons i=some k->l.length<=k)->P i ⟨s,m⟩)->K ⟨s,m⟩) :
  ∀ (f:Nat) (listed:Array Bool) (σ:St),listed.size=l.length->(List.range l.length).countP (fun i=>!listed.getD i true)=f->B σ->(∀ j,listed.getD j false=true->(P j σ∨∃ k,cons j=some k∧listed.getD k false=true)∧∀ q∈ZbO l j,listed.getD q false=true)->(∀ j∈ini,P j σ∨∃ k,cons j=some k∧listed.getD k false=true)->ZdY e ds l.toArray K f listed σ:=by
 have hback:∀ i o,l[i]?=some o->o.guard=none∧∀ e∈o.after,Region.binds .any e=true->e.on < i:=fun i o ho=>by
  have h1:=List.all_eq_true.1 hb i (List.mem_range.2 (List.getElem?_eq_some_iff.1 ho).1)
  rw [ho] at h1
  simp only [Bool.and_eq_true,Option.isNone_iff_eq_none,List.all_eq_true,Bool.or_eq_true,Bool.not_eq_true',decide_eq_true_eq] at h1
  refine ⟨h1.1,fun e he hbe=>?_⟩
  rcases h1.2 e (Array.mem_toList_iff.2 he) with h2 | h2
  ·rw [hbe] at h2;cases h2
  ·exact h2
 have hfirst:∀ (listed:Array Bool),listed.size=l.length->Region.ready .any l.toArray listed=[]->∀ i,i < l.length->listed.getD i false=true:=fun listed hsz h0 i=>by
  induction i using Nat.strongRecOn with
  | _ i ih =>
   intro hi
   rw [<- Zby (by omega:i < listed.size)]
   cases hun:listed.getD i true with
   | true=>rfl
   | false =>
   obtain ⟨o,ho⟩:∃ o,l[i]?=some o:=⟨_,List.getElem?_eq_getElem hi⟩
   have:=(mem_ready (ops:=l.toArray) (md:=.any)).2 ⟨hun,o,by simpa using ho,fun e he hbe=>ih e.on ((hback i o ho).2 e he hbe) (by have:=(hback i o ho).2 e he hbe;omega)⟩
   rw [h0] at this
   cases this
 have hlt:∀ (listed:Array Bool) (k:Nat),listed.getD k false=true->k < listed.size:=fun listed k h=>Classical.byContradiction fun hn=>by
  rw [Array.getD_eq_getD_getElem?,Array.getElem?_eq_none om] at h
  cases h
 intro f
 induction f with
 | zero =>
  intro listed σ hsz hc hB hP hI
  have hall:∀ i,i < l.length->listed.getD i true=true:=fun i hi=>by
   have:=List.countP_eq_zero.1 hc i (List.mem_range.2 hi)
   simpa using this
  refine ⟨?_,hK σ.s σ.m hB fun i hio hk=>?_⟩
  ·cases hr:Region.ready .any l.toArray listed with
   | nil=>rfl
   | cons i r =>
    have hi:i∈Region.ready .any l.toArray listed:=by rw [hr];simp
    obtain ⟨hun,oi,hoi,_⟩:=mem_ready.1 hi
    have hil:i < l.length:=by
     have:=(Array.getElem?_eq_some_iff.1 hoi).1
     simpa using this
    rw [hall i hil] at hun
    cases hun
  ·have hno:¬ ∃ k,cons i=some k∧listed.getD k false=true:=fun ⟨k,h1,h2⟩=>by
    have:=hlt listed k h2
    have:=hk k h1
    omega
   rcases hio with hi | hi
   ·exact (hP i (by rw [<- Zby om];exact hall i hi)).1.resolve_right hno
   ·exact (hI i hi).resolve_right hno
 | succ f ih =>
  intro listed σ hsz hc hB hP hI
  refine ⟨fun h0=>hK σ.s σ.m hB fun i hio hk=>?_,fun i hi=>?_⟩
  ·have hno:¬ ∃ k,cons i=some k∧listed.getD k false=true:=fun ⟨k,h1,h2⟩=>by
    have:=hlt listed k h2
    have:=hk k h1
    omega
   rcases hio with hi | hi
   ·exact (hP i (hfirst listed hsz h0 i hi)).1.resolve_right hno
   ·exact (hI i hi).resolve_right hno
  obtain ⟨hun,o,hoi,hall⟩:=mem_ready.1 hi
  have ho:l[i]?=some o:=by simpa using hoi
  have hil:i < l.length:=(List.getElem?_eq_some_iff.1 ho).1
  have hls:i < listed.size:=by omega
  have hda:ZbO l i=Zex o:=by unfold ZbO;rw [ho]
  have hunf:listed.getD i false=false:=by rw [<- Zby hls];exact hun
  have hanc:∀ q∈ancN l 6 i,listed.getD q false=true:=Ziz (fun j hj=>(hP j hj).2) 6 i fun q hq=>by
   rw [hda] at hq
   simp only [Zex,List.mem_map,List.mem_filter] at hq
   obtain ⟨e,⟨he,hbe⟩,rfl⟩:=hq
   exact hall e (Array.mem_toList_iff.1 he) hbe
  refine ⟨o,hoi,(hback i o ho).1,Zdy (hback i o ho).1 ?_⟩
  have h1:=Zfj.get hstep ho σ.s σ.m hB (fun j hj hcj=>by
   rw [Nat.zero_add] at hj hcj
   have hj':=hj
   rw [hda] at hj'
   simp only [Zex,List.mem_map,List.mem_filter] at hj'
   obtain ⟨e,⟨he,hbe⟩,rfl⟩:=hj'
   refine (hP e.on (hall e (Array.mem_toList_iff.1 he) hbe)).1.resolve_right ?_
   rintro ⟨k,hk1,hk2⟩
   rcases hcj with hcj | hcj
   ·rw [hcj] at hk1;cases hk1
   ·rw [hcj] at hk1
    injection hk1 with hk1
    subst hk1
    rw [hunf] at hk2
    cases hk2) (fun j hj hc=>by
   rw [Nat.zero_add] at hc
   refine (hI j hj).resolve_right ?_
   rintro ⟨k,hk1,hk2⟩
   rw [hc] at hk1
   injection hk1 with hk1
   subst hk1
   rw [hunf] at hk2
   cases hk2) (fun j hj k' hc hd=>by
   rw [Nat.zero_add] at hd
   refine (hI j hj).resolve_right ?_
   rintro ⟨k,hk1,hk2⟩
   rw [hc] at hk1
   injection hk1 with hk1
   subst hk1
   have h2:=(hP _ hk2).2 i hd
   rw [hunf] at h2
   cases h2)
  rw [Nat.zero_add] at h1
  refine ZlZ h1 fun σ' ⟨k1,k2,k3⟩=>ih _ σ' (by simpa using hsz) ?_ k1 (fun j hj=>?_) fun j hj=>?_
  ·have h1:(List.range l.length).countP (fun j=>!(listed.setIfInBounds i true).getD j true)+1=(List.range l.length).countP (fun j=>!listed.getD j true):=by
    have hperm:=List.perm_cons_erase (List.mem_range.2 hil)
    rw [hperm.countP_eq,hperm.countP_eq,List.countP_cons,List.countP_cons]
    have hcong:((List.range l.length).erase i).countP (fun j=>!(listed.setIfInBounds i true).getD j true)=((List.range l.length).erase i).countP (fun j=>!listed.getD j true):=by
     refine List.countP_congr fun j hj=>?_
     have hne:j≠i:=fun e=>by
      subst e
      exact List.Nodup.not_mem_erase (List.nodup_range) hj
     rw [getD_set_ne true (Ne.symm hne)]
    rw [hcong,hun]
    simp [hls]
   omega
  ·by_cases hji:j=i
   ·subst hji
    refine ⟨.inl k2,fun q hq=>?_⟩
    rw [hda] at hq
    simp only [Zex,List.mem_map,List.mem_filter] at hq
    obtain ⟨e,⟨he,hbe⟩,rfl⟩:=hq
    have hlt:=(hback j o ho).2 e (Array.mem_toList_iff.1 he) hbe
    rw [getD_set_ne false om]
    exact hall e (Array.mem_toList_iff.1 he) hbe
   ·rw [getD_set_ne false (Ne.symm hji)] at hj
    obtain ⟨p1,p2⟩:=hP j hj
    have hni:i ∉ ancN l 6 j:=fun hm=>by
     have h2:=Ziz (fun j hj=>(hP j hj).2) 6 j p2 i hm
     rw [hunf] at h2
     cases h2
    refine ⟨?_,fun q hq=>?_⟩
    ·rcases p1 with p1 | ⟨k,hk1,hk2⟩
     ·by_cases hci:cons j=some i
      ·refine .inr ⟨i,hci,?_⟩
       rw [<- Zby (by simpa using hls)]
       simp [Array.getD_eq_getD_getElem?,hls]
      ·by_cases hdep:∃ k,cons j=some k∧k∈ancN l 6 i
       ·obtain ⟨k,hk1,hk2⟩:=hdep
        refine .inr ⟨k,hk1,?_⟩
        have hk3:=hanc k hk2
        have hki:i≠k:=fun e=>by subst e;rw [hunf] at hk3;cases hk3
        rw [getD_set_ne false hki]
        exact hk3
       ·exact .inl (k3 j hji hni hci (fun k hk1 hk2=>hdep ⟨k,hk1,hk2⟩) p1)
     ·refine .inr ⟨k,hk1,?_⟩
      by_cases hki:k=i
      ·subst hki;rw [hunf] at hk2;cases hk2
      ·rw [getD_set_ne false (Ne.symm hki)];exact hk2
    ·by_cases hqi:q=i
     ·subst hqi
      have h2:=p2 q hq
      rw [hunf] at h2
      cases h2
     ·rw [getD_set_ne false (Ne.symm hqi)];exact p2 q hq
  ·have hjl:l.length<=j:=by have:=List.all_eq_true.1 hini j hj;simpa using this
   have hji:j≠i:=by omega
   have hni:i ∉ ancN l 6 j:=fun hm=>by
    have hd:ZbO l j=[]:=by unfold ZbO;rw [List.getElem?_eq_none hjl]
    simp [ancN,hd] at hm
   rcases hI j hj with p1 | ⟨k,hk1,hk2⟩
   ·by_cases hci:cons j=some i
    ·refine .inr ⟨i,hci,?_⟩
     rw [<- Zby (by simpa using hls)]
     simp [Array.getD_eq_getD_getElem?,hls]
    ·by_cases hdep:∃ k,cons j=some k∧k∈ancN l 6 i
     ·obtain ⟨k,hk1,hk2⟩:=hdep
      refine .inr ⟨k,hk1,?_⟩
      have hk3:=hanc k hk2
      have hki:i≠k:=fun e=>by subst e;rw [hunf] at hk3;cases hk3
      rw [getD_set_ne false hki]
      exact hk3
     ·exact .inl (k3 j hji hni hci (fun k hk1 hk2=>hdep ⟨k,hk1,hk2⟩) p1)
   ·refine .inr ⟨k,hk1,?_⟩
    by_cases hki:k=i
    ·subst hki;rw [hunf] at hk2;cases hk2
    ·rw [getD_set_ne false (Ne.symm hki)];exact hk2
def lkS:List (Nat × A)->List (Nat × A)->Prop
 | [],_=>True
 | (t,x)::r,s=>gs s t=x∧lkS r s
def lkM:List (Nat × Bk)->List (Nat × Bk)->Prop
 | [],_=>True
 | (t,x)::r,m=>gm m t=some x∧lkM r m
theorem ZD8 {s:List (Nat × A)}:∀ {sb:List (Nat × A)},(∀ p∈sb,gs s p.1=p.2) ↔ lkS sb s
 | []=>by simp [lkS]
 | (t,x)::r=>by simp only [List.forall_mem_cons,lkS,ZD8 (sb:=r)]
theorem ZD9 {m:List (Nat × Bk)}:∀ {mb:List (Nat × Bk)},(∀ p∈mb,gm m p.1=some p.2) ↔ lkM mb m
 | []=>by simp [lkM]
 | (t,x)::r=>by simp only [List.forall_mem_cons,lkM,ZD9 (mb:=r)]
theorem ZbI {sb:List (Nat × A)} {mb:List (Nat × Bk)} {s:List (Nat × A)} {m:List (Nat × Bk)}:Lks sb mb ⟨s,m⟩ ↔ lkS sb s∧lkM mb m:=and_congr ZD8 ZD9
abbrev Tab:=List (List (Nat × A) × List (Nat × Bk))
def tabP (T:Tab) (i:Nat) (σ:St):Prop:=Lks (T.getD i ([],[])).1 (T.getD i ([],[])).2 σ
theorem Zbv {T:Tab} {i:Nat} {s:List (Nat × A)} {m:List (Nat × Bk)}:tabP T i ⟨s,m⟩ ↔ lkS (T.getD i ([],[])).1 s∧lkM (T.getD i ([],[])).2 m:=ZbI
def Zhk (L:List Oper) (cons:Nat->Option Nat) (T:Tab) (i:Nat) (f:List (Nat × A)->List (Nat × Bk)->Bool):Bool:=(List.range T.length).all fun j=>j==i || ((ancN L 6 j).contains i || (cons j==some i || ((match cons j with | some k=>(ancN L 6 i).contains k | none=>false) || f (T.getD j ([],[])).1 (T.getD j ([],[])).2)))
theorem Zj4 {L:List Oper} {cons:Nat->Option Nat} {T:Tab} {i:Nat} {f:List (Nat × A)->List (Nat × Bk)->Bool} {σ σ':St} (h:Zhk L cons T i f=true) (hf:∀ sb mb,f sb mb=true->Lks sb mb σ->Lks sb mb σ'):∀ j,j≠i->i ∉ ancN L 6 j->cons j≠some i->(∀ k,cons j=some k->k ∉ ancN L 6 i)->tabP T j σ->tabP T j σ':=fun j h1 h2 h3 h4 hp=>by
 unfold tabP at hp ⊢
 by_cases hj:j < T.length
 ·have:=List.all_eq_true.1 h j (List.mem_range.2 hj)
  simp only [Bool.or_eq_true,beq_iff_eq,List.contains_eq_mem,decide_eq_true_eq] at this
  rcases this with q | q | q | q | q
  ·exact absurd q h1
  ·exact absurd q h2
  ·exact absurd q h3
  ·cases hc:cons j with
   | none=>rw [hc] at q;cases q
   | some k=>rw [hc] at q;exact absurd (by simpa using q) (h4 k hc)
  ·exact hf _ _ q hp
 ·have e:T.getD j ([],[])=([],[]):=by rw [List.getD_eq_getElem?_getD,List.getElem?_eq_none om];rfl
  rw [e]
  exact ⟨fun p hp=>(by cases hp),fun p hp=>by cases hp⟩
section
variable {sb:List (Nat × A)} {mb:List (Nat × Bk)} {s:List (Nat × A)} {m:List (Nat × Bk)} {d k:Nat} {α:A} {bk:Bk}
theorem Lks.kill (h:Lks sb mb ⟨s,m⟩) (hf:sb.all (fun p=>!keyB k p.2)=true):Lks sb mb ⟨Zau k s,m⟩:=⟨fun p hp=>by
 have h1:=List.all_eq_true.1 hf p hp
 have h2:=h.1 p hp
 show gs (Zau k s) p.1=p.2
 rw [ZeK _ _ _ (by rw [h2];simpa using h1)]
 exact h2,h.2⟩
theorem Lks.mrem (h:Lks sb mb ⟨s,m⟩) (hf:mb.all (fun p=>p.1 != k)=true):Lks sb mb ⟨s,remM k m⟩:=⟨h.1,fun p hp=>by
 have h1:=List.all_eq_true.1 hf p hp
 simp only [bne_iff_ne,ne_eq] at h1
 show gm (remM k m) p.1=some p.2
 rw [ZaT,if_neg h1]
 exact h.2 p hp⟩
theorem Zzy {x:A} (h:keyB k x=false):frzA k bk x=x:=by
 cases x <;> simp_all [frzA,keyB]
theorem Lks.frz (h:Lks sb mb ⟨s,m⟩) (hf:sb.all (fun p=>!keyB k p.2)=true) (hm:mb.all (fun p=>p.1 != k)=true):Lks sb mb ⟨frzS k bk s,remM k m⟩:=by
 refine Lks.mrem (m:=m) ⟨fun p hp=>?_,h.2⟩ hm
 have h1:=List.all_eq_true.1 hf p hp
 have h2:=h.1 p hp
 show gs (frzS k bk s) p.1=p.2
 rw [ZmF,h2]
 exact Zzy (by simpa using h1)
def ZoM (d:Nat) (sb:List (Nat × A)) (_:List (Nat × Bk)):Bool:=sb.all fun p=>p.1 != d
def Zj5 (d k:Nat) (sb:List (Nat × A)) (mb:List (Nat × Bk)):Bool:=ZeJ d sb mb && ZeJ k sb mb
theorem Lks.ownE (h:Lks sb mb ⟨s,m⟩) (hf:Zj5 d k sb mb=true):Lks sb mb ⟨(d,α)::Zau d (Zau k s),(d,bk)::remM d (remM k m)⟩:=by
 simp only [Zj5,ZeJ,Bool.and_eq_true,List.all_eq_true,bne_iff_ne,ne_eq,Bool.not_eq_true'] at hf
 refine Lks.born (Lks.mrem (Lks.kill h ?_) ?_) ?_
 ·simp only [List.all_eq_true,Bool.not_eq_true'];exact fun p hp=>(hf.2.1 p hp).2
 ·simp only [List.all_eq_true,bne_iff_ne,ne_eq];exact fun p hp=>hf.2.2 p hp
 ·simp only [ZeJ,Bool.and_eq_true,List.all_eq_true,bne_iff_ne,ne_eq,Bool.not_eq_true'];exact hf.1
end
section
variable {L:List Oper} {cons:Nat->Option Nat} {T:Tab} {i:Nat} {sb:List (Nat × A)} {mb:List (Nat × Bk)} {s s2:List (Nat × A)} {m m2:List (Nat × Bk)} {d k:Nat} {α:A} {bk:Bk}
abbrev Did (L:List Oper) (cons:Nat->Option Nat) (T:Tab) (i:Nat) (sb:List (Nat × A)) (mb:List (Nat × Bk)) (s:List (Nat × A)) (m:List (Nat × Bk)) (σ':St):Prop:=Lks sb mb σ'∧tabP T i σ'∧∀ j,j≠i->i ∉ ancN L 6 j->cons j≠some i->(∀ k,cons j=some k->k ∉ ancN L 6 i)->tabP T j ⟨s,m⟩->tabP T j σ'
theorem kS (hB:Lks sb mb ⟨s,m⟩) (hp:tabP T i ⟨(d,α)::s,m⟩) (h1:ZoM d sb mb=true:=by rfl) (h2:Zhk L cons T i (ZoM d)=true:=by rfl):Did L cons T i sb mb s m ⟨(d,α)::s,m⟩:=⟨hB.slot h1,hp,Zj4 h2 fun _ _ h hl=>hl.slot h⟩
theorem kB (hB:Lks sb mb ⟨s,m⟩) (hp:tabP T i ⟨(d,α)::Zau d s,(d,bk)::remM d m⟩) (h1:ZeJ d sb mb=true:=by rfl) (h2:Zhk L cons T i (ZeJ d)=true:=by rfl):Did L cons T i sb mb s m ⟨(d,α)::Zau d s,(d,bk)::remM d m⟩:=⟨hB.born h1,hp,Zj4 h2 fun _ _ h hl=>hl.born h⟩
theorem kE (hB:Lks sb mb ⟨s,m⟩) (hp:tabP T i ⟨(d,α)::Zau d (Zau k s),(d,bk)::remM d (remM k m)⟩) (h1:Zj5 d k sb mb=true:=by rfl) (h2:Zhk L cons T i (Zj5 d k)=true:=by rfl):Did L cons T i sb mb s m ⟨(d,α)::Zau d (Zau k s),(d,bk)::remM d (remM k m)⟩:=⟨hB.ownE h1,hp,Zj4 h2 fun _ _ h hl=>hl.ownE h⟩
end
theorem gGk {id:Nat} {l:List Oper} {s:List (Nat × A)} {m:List (Nat × Bk)} (sb:List (Nat × A)) (mb:List (Nat × Bk)) (T:Tab) (cons:Nat->Option Nat) (ini:List Nat) (hB:Lks sb mb ⟨s,m⟩) (hI:∀ j∈ini,tabP T j ⟨s,m⟩) (hS:Zfj e (l.map (·.dst)) l cons ini (Lks sb mb) (tabP T) 0 l) (hK:∀ s' m',Lks sb mb ⟨s',m'⟩->(∀ i,i < l.length∨i∈ini->(∀ k,cons i=some k->l.length<=k)->tabP T i ⟨s',m'⟩)->∃ sf mf,Lks sf mf ⟨s',m'⟩∧Q .normal ⟨sf,mf⟩)
  (hb:ZjS l=true:=by decide +kernel) (hini:ini.all (fun j=>decide (l.length<=j))=true:=by decide +kernel) (hT:regT l.toArray 0=true:=by decide +kernel):pwp e mask (.region id l.toArray true) ⟨s,m⟩ Q:=fun he U w0 S0 nt a w hok hs=>by
 refine ZkS he hT (K:=fun σ'=>∃ sf mf,Lks sf mf σ'∧Q .normal ⟨sf,mf⟩) (fun a w σ' ⟨sf,mf,h1,h2⟩ h3=>⟨⟨sf,mf⟩,h2,h3.weak (fun t=>ZlX t h1.1) (fun t bk=>ZlY t bk h1.2)⟩) (ZoH hok) hs ?_
 simp only [List.take_zero,Runs]
 have:=ZkD (K:=fun σ'=>∃ sf mf,Lks sf mf σ'∧Q .normal ⟨sf,mf⟩) hb hini hS hK l.length (Zbo l.length 0) ⟨s,m⟩ (by simp [Zbo]) (by
  rw [List.countP_eq_length.2]
  ·simp
  ·intro i hi
   have hi':=List.mem_range.1 hi
   simp [Zbo,hi']) hB (fun j hj=>by
   have h0:(Zbo l.length 0).getD j false=false:=by
    by_cases hjl:j < l.length
    ·simp [Zbo,hjl]
    ·simp [Zbo,hjl]
   rw [h0] at hj
   cases hj) (fun j hj=>.inl (hI j hj))
 simpa using this
end
section
variable {e:Env} {mask:Nat} {Q:PX->St->Prop} {ds:List (Option Nat)} {X:Type}
def tabX (ok:Nat->X->Prop) (T:X->Tab) (j:Nat) (σ:St):Prop:=∃ x,ok j x∧tabP (T x) j σ
abbrev DidX (L:List Oper) (cons:Nat->Option Nat) (ok:Nat->X->Prop) (T:X->Tab) (i:Nat) (sb:List (Nat × A)) (mb:List (Nat × Bk)) (s:List (Nat × A)) (m:List (Nat × Bk)) (σ':St):Prop:=Lks sb mb σ'∧tabX ok T i σ'∧∀ j,j≠i->i ∉ ancN L 6 j->cons j≠some i->(∀ k,cons j=some k->k ∉ ancN L 6 i)->tabX ok T j ⟨s,m⟩->tabX ok T j σ'
section
variable {L:List Oper} {cons:Nat->Option Nat} {ok:Nat->X->Prop} {T:X->Tab} {i:Nat} {sb:List (Nat × A)} {mb:List (Nat × Bk)} {s s2:List (Nat × A)} {m m2:List (Nat × Bk)} {d k:Nat} {α:A} {bk:Bk}
theorem Zk5 {f:List (Nat × A)->List (Nat × Bk)->Bool} {σ σ':St} (h:∀ x,Zhk L cons (T x) i f=true) (hf:∀ sb mb,f sb mb=true->Lks sb mb σ->Lks sb mb σ'):∀ j,j≠i->i ∉ ancN L 6 j->cons j≠some i->(∀ k,cons j=some k->k ∉ ancN L 6 i)->tabX ok T j σ->tabX ok T j σ':=fun j h1 h2 h3 h4 ⟨x,hx,hp⟩=>⟨x,hx,Zj4 (h x) hf j h1 h2 h3 h4 hp⟩
theorem xS (hB:Lks sb mb ⟨s,m⟩) (hp:tabX ok T i ⟨(d,α)::s,m⟩) (h1:ZoM d sb mb=true:=by rfl) (h2:∀ x,Zhk L cons (T x) i (ZoM d)=true:=by intro x;rfl):DidX L cons ok T i sb mb s m ⟨(d,α)::s,m⟩:=⟨hB.slot h1,hp,Zk5 h2 fun _ _ h hl=>hl.slot h⟩
theorem xE (hB:Lks sb mb ⟨s,m⟩) (hp:tabX ok T i ⟨(d,α)::Zau d (Zau k s),(d,bk)::remM d (remM k m)⟩) (h1:Zj5 d k sb mb=true:=by rfl) (h2:∀ x,Zhk L cons (T x) i (Zj5 d k)=true:=by intro x;rfl):DidX L cons ok T i sb mb s m ⟨(d,α)::Zau d (Zau k s),(d,bk)::remM d (remM k m)⟩:=⟨hB.ownE h1,hp,Zk5 h2 fun _ _ h hl=>hl.ownE h⟩
theorem Lks.bornC {κ:Nat} (h:Lks sb mb ⟨s,m⟩) (hf:(sb.all (fun p=>p.1 != d && !keyB κ p.2) && mb.all (fun p=>p.1 != κ))=true):Lks sb mb ⟨(d,α)::Zau κ s,(κ,bk)::remM κ m⟩:=by
 simp only [Bool.and_eq_true,List.all_eq_true,bne_iff_ne,ne_eq,Bool.not_eq_true'] at hf
 refine Lks.slot (Lks.own (Lks.kill h ?_) ?_) ?_
 ·simp only [List.all_eq_true,Bool.not_eq_true'];exact fun p hp=>(hf.1 p hp).2
 ·simp only [List.all_eq_true,bne_iff_ne,ne_eq];exact hf.2
 ·simp only [List.all_eq_true,bne_iff_ne,ne_eq];exact fun p hp=>(hf.1 p hp).1
def ZEa (d κ:Nat) (sb:List (Nat × A)) (mb:List (Nat × Bk)):Bool:=sb.all (fun p=>p.1 != d && !keyB κ p.2) && mb.all (fun p=>p.1 != κ)
theorem xP {κ:Nat} (hB:Lks sb mb ⟨s,m⟩) (hp:tabX ok T i ⟨(d,α)::Zau κ s,(κ,bk)::remM κ m⟩) (h1:ZEa d κ sb mb=true:=by rfl) (h2:∀ x,Zhk L cons (T x) i (ZEa d κ)=true:=by intro x;rfl):DidX L cons ok T i sb mb s m ⟨(d,α)::Zau κ s,(κ,bk)::remM κ m⟩:=⟨hB.bornC h1,hp,Zk5 h2 fun _ _ h hl=>hl.bornC h⟩
end
theorem gGp {id:Nat} {l:List Oper} {s:List (Nat × A)} {m:List (Nat × Bk)} (sb:List (Nat × A)) (mb:List (Nat × Bk)) (P:Nat->St->Prop) (cons:Nat->Option Nat) (ini:List Nat) (hB:Lks sb mb ⟨s,m⟩) (hI:∀ j∈ini,P j ⟨s,m⟩) (hS:Zfj e (l.map (·.dst)) l cons ini (Lks sb mb) P 0 l) (hK:∀ s' m',Lks sb mb ⟨s',m'⟩->(∀ i,i < l.length∨i∈ini->(∀ k,cons i=some k->l.length<=k)->P i ⟨s',m'⟩)->∃ sf mf,Lks sf mf ⟨s',m'⟩∧Q .normal ⟨sf,mf⟩)
  (hb:ZjS l=true:=by decide +kernel) (hini:ini.all (fun j=>decide (l.length<=j))=true:=by decide +kernel) (hT:regT l.toArray 0=true:=by decide +kernel):pwp e mask (.region id l.toArray true) ⟨s,m⟩ Q:=fun he U w0 S0 nt a w hok hs=>by
 refine ZkS he hT (K:=fun σ'=>∃ sf mf,Lks sf mf σ'∧Q .normal ⟨sf,mf⟩) (fun a w σ' ⟨sf,mf,h1,h2⟩ h3=>⟨⟨sf,mf⟩,h2,h3.weak (fun t=>ZlX t h1.1) (fun t bk=>ZlY t bk h1.2)⟩) (ZoH hok) hs ?_
 simp only [List.take_zero,Runs]
 have:=ZkD (K:=fun σ'=>∃ sf mf,Lks sf mf σ'∧Q .normal ⟨sf,mf⟩) hb hini hS hK l.length (Zbo l.length 0) ⟨s,m⟩ (by simp [Zbo]) (by
  rw [List.countP_eq_length.2]
  ·simp
  ·intro i hi
   have hi':=List.mem_range.1 hi
   simp [Zbo,hi']) hB (fun j hj=>by
   have h0:(Zbo l.length 0).getD j false=false:=by
    by_cases hjl:j < l.length
    ·simp [Zbo,hjl]
    ·simp [Zbo,hjl]
   rw [h0] at hj
   cases hj) (fun j hj=>.inl (hI j hj))
 simpa using this
theorem gGx {id:Nat} {l:List Oper} {s:List (Nat × A)} {m:List (Nat × Bk)} (sb:List (Nat × A)) (mb:List (Nat × Bk)) (ok:Nat->X->Prop) (T:X->Tab) (cons:Nat->Option Nat) (ini:List Nat) (hB:Lks sb mb ⟨s,m⟩) (hI:∀ j∈ini,tabX ok T j ⟨s,m⟩) (hS:Zfj e (l.map (·.dst)) l cons ini (Lks sb mb) (tabX ok T) 0 l) (hK:∀ s' m',Lks sb mb ⟨s',m'⟩->(∀ i,i < l.length∨i∈ini->(∀ k,cons i=some k->l.length<=k)->tabX ok T i ⟨s',m'⟩)->∃ sf mf,Lks sf mf ⟨s',m'⟩∧Q .normal ⟨sf,mf⟩)
  (hb:ZjS l=true:=by decide +kernel) (hini:ini.all (fun j=>decide (l.length<=j))=true:=by decide +kernel) (hT:regT l.toArray 0=true:=by decide +kernel):pwp e mask (.region id l.toArray true) ⟨s,m⟩ Q:=gGp sb mb (tabX ok T) cons ini hB hI hS hK hb hini hT
theorem Zbk {ok:Nat->X->Prop} {T:X->Tab} {i:Nat} {s:List (Nat × A)} {m:List (Nat × Bk)}:tabX ok T i ⟨s,m⟩ ↔ ∃ x,ok i x∧lkS ((T x).getD i ([],[])).1 s∧lkM ((T x).getD i ([],[])).2 m:=exists_congr fun x=>and_congr_right fun _=>Zbv
end
theorem ZFV {P:Nat->Prop} (h:∃ n,P n):∃ n,P n∧∀ m,m < n->¬ P m:=by
 obtain ⟨n,hn⟩:=h
 induction n using Nat.strongRecOn with
 | _ n ih =>
  by_cases hx:∃ m,m < n∧P m
  ·obtain ⟨m,hm,hp⟩:=hx;exact ih m hm hp
  ·exact ⟨n,hn,fun m hm hp=>hx ⟨m,hm,hp⟩⟩
theorem Kept.all1 {D:Prop} {B:Nat} {w w':World} (h:Kept D e1.E B w w') (h1:e1.G w) (h2:e1.G w'):Kept D (fun _=>False) B w w':=⟨h.os,h.tape,h.output,h.drawn,h.size,fun k hk _=>by
 by_cases e:k=2
 ·have k1:ZcH w:=h1
  have k2:ZcH w':=h2
  subst e
  unfold ZcH at k1 k2
  exact k2.trans k1.symm
 ·exact h.block k hk e⟩
def ZiA (pm:List Bk) (l d:D):Prop:=l=d∨(∃ us row E,l=.agg (Zap us)∧d=.agg row∧.set E (fun w=>Zad w row E us)∈pm)∨(∃ v rows E,l=.one (.lit v)∧d=.one (.sl rows)∧.set E (fun w=>Own w (.sl rows) E v)∈pm)
def Zj7 (pm:List Bk):List D->List D->Prop
 | [],[]=>True
 | l::ls,d::ds=>ZiA pm l d∧Zj7 pm ls ds
 | _,_=>False
theorem ZiA.same {pm:List Bk} {d:D}:ZiA pm d d:=.inl rfl
theorem ZiA.tree {pm:List Bk} {us:List Value} {row:List C} {E:Nat->Prop} (h:.set E (fun w=>Zad w row E us)∈pm):ZiA pm (.agg (Zap us)) (.agg row):=.inr (.inl ⟨us,row,E,rfl,rfl,h⟩)
theorem ZiA.treeS {pm:List Bk} {v:Value} {rows:List (List C)} {E:Nat->Prop} (h:.set E (fun w=>Own w (.sl rows) E v)∈pm):ZiA pm (.one (.lit v)) (.one (.sl rows)):=.inr (.inr ⟨v,rows,E,rfl,rfl,h⟩)
theorem Zj7.rel {pm:List Bk}:∀ {lits data:List D},Zj7 pm lits data->∀ (w:World) (S:Nat->Prop) (vs:List Value),(∀ x∈pm,Zb6 w S x)->ZaC w S lits vs->ZaC w (fun b=>S b∨Za1 pm b) data vs
 | [],[],_,w,S,[],_,_=>trivial
 | [],[],_,w,S,_::_,_,h=>h.elim
 | l::ls,d::ds,hr,w,S,[],_,h=>h.elim
 | l::ls,d::ds,⟨h1,h2⟩,w,S,v::vs,hp,⟨hv,hvs⟩=>by
  refine ⟨?_,Zj7.rel h2 w S vs hp hvs⟩
  rcases h1 with rfl | ⟨us,row,E,rfl,rfl,hm⟩ | ⟨u,rows,E,rfl,rfl,hm⟩
  ·exact DRel.keep (Nat.le_refl _) (fun _ _ _=>rfl) (fun b hb=>.inl hb) hv
  ·obtain ⟨vs',rfl,hr⟩:=hv
   rw [Zhz hr]
   obtain ⟨_,h3,_⟩:=hp _ hm
   exact ⟨us,rfl,Zad.rep row E _ us (fun b hb=>.inr ⟨_,hm,hb⟩) h3⟩
  ·have hv:v=u:=hv
   subst hv
   obtain ⟨_,h3,_⟩:=hp _ hm
   exact (Own.rep _ E v h3).mono fun b hb=>.inr ⟨_,hm,hb⟩
 | [],_::_,h,_,_,_,_,_=>h.elim
 | _::_,[],h,_,_,_,_,_=>h.elim
theorem Zt9 {e:Env} {f:FuncId} {data lits:List D} {R:List D->List Bk->Prop} (pm:List Bk) (h:ConP e f data [] R) (hr:Zj7 pm lits data) (hset:pm.all ZdM=true) (hR:∀ r q,R r q->r.all litD=true∧q.all ZdM=true):ConP e f lits pm (fun r q=>∃ q1,R r q1∧q=q1++pm) :=
 Zzx pm h hset hR hr.rel
theorem Zf5 {e:Env} {f:FuncId} {data lits r:List D} (pm:List Bk) (h:Con e f data r) (hr:Zj7 pm lits data) (hset:pm.all ZdM=true) (hl:r.all litD=true):ConP e f lits pm (fun r' q=>r'=r∧q=pm):=by
 have hc:=Zt9 pm (ZFU h) hr hset (fun r' q ⟨h1,h2⟩=>by rw [h1,h2];exact ⟨hl,rfl⟩)
 refine ⟨hc.1,fun w S vs h1 h2 h3 h4 h5 h6=>(hc.2 w S vs h1 h2 h3 h4 h5 h6).mono ?_⟩
 rintro en w' ⟨v,r',q,k1,⟨q1,⟨rfl,rfl⟩,rfl⟩,k3⟩
 exact ⟨v,r',_,k1,⟨rfl,rfl⟩,k3⟩
theorem ZkF (us:List Value):(Zap us).all litC=true:=by
 induction us with
 | nil=>rfl
 | cons u us ih=>simp only [Zap,List.map_cons,List.all_cons,litC,Bool.true_and];exact ih
theorem ZeL.lits {row:List C} {r:List D} {q:List Bk} (h:ZeL row r q):r.all litD=true∧q.all ZdM=true:=by
 obtain ⟨us,E,rfl,_,_,rfl⟩:=h
 exact ⟨by simp only [List.all_cons,List.all_nil,litD,ZkF];rfl,rfl⟩
theorem ZhY.lits {rows:List (List C)} {r:List D} {q:List Bk} (h:ZhY rows r q):r.all litD=true∧q.all ZdM=true:=by
 obtain ⟨v,E,rfl,_,rfl⟩:=h
 exact ⟨rfl,rfl⟩
def ZzD (row:List C) (b:Bool) (r:List D) (pm:List Bk):Prop:=∃ us E,r=[.agg (Zap us),.one (.lit (.bool b))]∧us.length=row.length∧(Zap us).all Zaw=true∧pm=[.set E (fun w=>Zad w row E us)]
theorem ZzD.lits {row:List C} {b:Bool} {r:List D} {q:List Bk} (h:ZzD row b r q):r.all litD=true∧q.all ZdM=true:=by
 obtain ⟨us,E,rfl,_,_,rfl⟩:=h
 exact ⟨by simp only [List.all_cons,List.all_nil,litD,ZkF];rfl,rfl⟩
def Zcm (rows:List (List C)) (b:Bool) (r:List D) (pm:List Bk):Prop:=∃ v E,r=[.one (.lit v),.one (.lit (.bool b))]∧Zaw (.lit v)=true∧pm=[.set E (fun w=>Own w (.sl rows) E v)]
theorem Zcm.lits {rows:List (List C)} {b:Bool} {r:List D} {q:List Bk} (h:Zcm rows b r q):r.all litD=true∧q.all ZdM=true:=by
 obtain ⟨v,E,rfl,_,rfl⟩:=h
 exact ⟨rfl,rfl⟩
def Zdt (f:FuncId) (rows:List (List C)):Prop:=∀ (k:Int) (E:Nat->Prop) (v:Value),0<=k->k+cntRows rows<=1000000000->ConP e0 f [.one (.lit v),.one (.lit (.int .i64 k))] [.set E (fun w=>Own w (.sl rows) E v)] (fun r pm=>∃ E',r=[.one (.lit (.int .i64 (k+cntRows rows)))]∧pm=[.set E' (fun w=>Own w (.sl (Zan k rows)) E' v)])
theorem Zam.rowsLen {fs:List F} {rows:List (List C)} (h:Zam fs rows):rowsLen fs.length rows:=fun r hr=>by
 obtain ⟨i,hi⟩:=List.getElem?_of_mem hr
 exact ⟨(h.get hi).len,(h.get hi).cells⟩
theorem ZcV (k:Int):Zan k []=[]:=by simp only [Zan]
theorem Zen:cntRows []=0:=by simp only [cntRows]
theorem Zgx {α:Type} {l:List α} {i:Nat} (h:i < l.length) (x:α):(l.set i x)[i]?=some x:=by simp [h]
theorem ZaY {α:Type} (l:List α) (i:Nat) (x:α):(l.set i x).length=l.length:=List.length_set
theorem Za2 {α:Type} (l:List α) (i:Nat) (x y:α):(l.set i x).set i y=l.set i y:=List.set_set ..
theorem ZeQ {α:Type} {l:List α} {i:Nat} {x:α} (h:i < l.length):(l.set i x).take (i+1)=l.take i++[x]:=by
 rw [Zce (x:=x) (by simp [h]),List.take_set_of_le (Nat.le_refl _)]
theorem ZeR {α:Type} (l:List α) (i:Nat) (x:α):(l.set i x).drop (i+1)=l.drop (i+1):=List.drop_set_of_lt om
set_option maxRecDepth 100000 in
theorem Zvs (rows:List (List C)) (hok:Zam (Zab .term) rows) (h:∀ r∈rows,∀ i0 t1 i2 r3,r=[.lit (.int .i64 i0),.lit (.string t1),.lit (.int .i64 i2),.sl r3]->Zdt 71 r3):Zdt 71 rows:=by
 intro k E v hk hb
 refine gIP (ts:=[.slot 4]) [1000] 563 Tryz.func71 ?_
 (have F:=@e0P;refine gG ?_;clear F)
 by_cases hne:rows=[]
 ·subst hne
  refine pEx [1000] [1000] Zg0 ?_
  rintro ⟨a,cap⟩ rfl
  (have F:=@hk;refine gL (ι:=Unit) [1,5,9] [] (fun x=>[(5,.d (.one (.lit (.int .i64 0)))),(1,.d (.one (.lit (.int .i64 k))))]) (fun x=>[]) (fun x=>True) (fun x=>0) (()) (trivial) (fun x hx=>?_);clear F)
  have q1:((0:Int) < 0)=False:=eq_false (by decide)
  have q2:((0:Int) < ((0:Nat):Int))=False:=eq_false (by decide)
  (have F:=ai @q1 @q2;refine gG ?_;clear F)
  have F:=hk
  refine gTP (R:=fun r pm=>∃ E',r=[.one (.lit (.int .i64 (k+(cntRows []:Nat))))]∧pm=[.set E' (fun w=>Own w (.sl (Zan k [])) E' (.slice a 0 cap))]) [1000] ⟨E,by simp only [cntRows,Int.natCast_zero,Int.add_zero];rfl,by simp only [Zan];rfl⟩
 ·have hrl:rowsLen 4 rows:=Zam.rowsLen hok
  refine pEx [1000] [1000,1001] (Zfu hne hrl) ?_
  rintro ⟨a,cap,ety,uss,E1⟩ ⟨rfl,hl,hmx⟩
  simp only at hl ⊢
  unfold maxLen at hmx
  refine pE [] [1002] ZcI ?_
  (have F:=ai @ZcV (ai @Zen (ai @Int.add_zero @Int.natCast_zero));refine gL (ι:=Nat × List (List Value) × (Nat->Prop) × (Nat->Prop)) [1,5,9] [1000,1001,1002] (fun x=>[(5,.d (.one (.lit (.int .i64 (x.1:Int))))),(1,.d (.one (.lit (.int .i64 (k+(cntRows (rows.take x.1):Nat))))))]) (fun x=>[(1000,.buf (some (a,cap)) ety 4 (x.2.1.map Zap)),(1001,.set x.2.2.1 (fun w=>Zat w (rows.drop x.1) x.2.2.1 (x.2.1.drop x.1))),(1002,.set x.2.2.2 (fun w=>Zat w (Zan k (rows.take x.1)) x.2.2.2 (x.2.1.take x.1)))]) (fun x=>x.1<=rows.length∧x.2.1.length=rows.length) (fun x=>rows.length - x.1) ((0,uss,E1,fun _=>False)) (⟨Nat.zero_le _,hl⟩) (fun x hx=>?_);clear F)
  obtain ⟨i,us,E2,E3⟩:=x
  obtain ⟨hi,hn⟩:=hx
  simp only at hi hn
  dsimp only
  by_cases hlt:i < rows.length
  ·obtain ⟨r,hr⟩:∃ r,rows[i]?=some r:=⟨_,List.getElem?_eq_getElem hlt⟩
   obtain ⟨u,hu⟩:∃ u,us[i]?=some u:=⟨_,List.getElem?_eq_getElem om⟩
   obtain ⟨i0,t1,i2,r3,rfl,_,_,_,g3⟩:=Zdf (hok.get hr)
   have hm:=h _ (List.mem_of_getElem? hr) i0 t1 i2 r3 rfl
   have hc1:cntRows (rows.take (i+1))=cntRows (rows.take i)+(3+cntRows r3):=by
    rw [Zce hr,Zdl];simp only [ZcC,cntC];omega
   have hc2:=Zcg rows (i+1)
   rw [Zcj hr,Zcj hu]
   refine pEx [1001] [1001] (Zfv rfl) ?_
   rintro ⟨⟩ hlit
   obtain ⟨u3,rfl⟩:∃ u3,u=[.int .i64 i0,.string t1,.int .i64 i2,u3]:=by
    match u,hlit with
    | [_,_,_,u3],⟨rfl,rfl,rfl,_⟩=>exact ⟨u3,rfl⟩
   refine pEx (f:=fun (x:(Nat->Prop) × (Nat->Nat->Prop))=>[.set x.1 (fun w=>Zat w (rows.drop (i+1)) x.1 (us.drop (i+1))),.set (x.2 0) (fun w=>Own w (.sl r3) (x.2 0) u3)]) [1001] [1001,1003] (Zg1 rfl) ?_
   rintro ⟨E4,Es⟩ -
   dsimp only
   generalize hkk:k+(cntRows (rows.take i):Int)=kk
   have q1:((i:Int) < (rows.length:Int))=True:=eq_true om
   have q2:i < rows.length:=hlt
   have hs:∀ X:List C,((us.map Zap).set i X)[i]?=some X:=fun X=>Zgx (by rw [ZaG,hn];omega) X
   have w1:IntKind.i64.wrap (kk+1)=kk+1:=IntWalk.i64_in _ om
   have w2:IntKind.i64.wrap (kk+1+1)=kk+1+1:=IntWalk.i64_in _ om
   have w3:IntKind.i64.wrap (kk+1+1+1)=kk+1+1+1:=IntWalk.i64_in _ om
   have w4:IntKind.i64.wrap ((i:Int)+1)=(i:Int)+1:=IntWalk.i64_in _ om
   (have F:=ai @q1 (ai @hl (ai @hn (ai @hu (ai @ZdA (ai @ZaG (ai @ZaY (ai @hs (ai @w1 (ai @w2 (ai @w3 (ai @q2 @Za2)))))))))));refine gG ?_;clear F)
   refine gB ?_
   (have F:=@q1;refine gC (ZcB (kk+1) om om) ?_;clear F)
   (have F:=ai @hl (ai @hn (ai @hu (ai @ZdA (ai @ZaG (ai @ZaY (ai @hs (ai @q2 @Za2)))))));refine gR ?_;clear F)
   (have F:=ai @q1 (ai @hl (ai @hn (ai @hu (ai @ZdA (ai @ZaG (ai @ZaY (ai @hs (ai @w1 (ai @w2 (ai @w3 (ai @q2 @Za2)))))))))));refine gG ?_;clear F)
   refine gB ?_
   (have F:=ai @q1 (ai @hl (ai @hn (ai @hu (ai @ZdA (ai @ZaG (ai @ZaY (ai @hs (ai @w1 (ai @w2 (ai @w3 (ai @q2 @Za2)))))))))));refine gCP [1003] [1003] (hm (kk+1+1+1) (Es 0) u3 om om) ?_;clear F)
   rintro r pm ⟨E5,rfl,rfl⟩
   simp only [setA,retA,zipM,List.cons_append,List.nil_append]
   (have F:=@q1;refine gR ?_;clear F)
   obtain ⟨E6,hre⟩:∃ E6,ZbG [.set E3 (fun w=>Zat w (Zan k (rows.take i)) E3 (us.take i)),.set E5 (fun w=>Own w (.sl (Zan (kk+1+1+1) r3)) E5 u3)] [.set E6 (fun w=>Zat w (Zan k (rows.take (i+1))) E6 ((us.set i [.int .i64 kk,.string (txt (kk+1)),.int .i64 (kk+1+1),u3]).take (i+1)))]:=by
    have hz:=Zg2 (E:=E3) (done:=Zan k (rows.take i)) (ud:=us.take i) (cs:=[.lit (.int .i64 kk),.lit (.string (txt (kk+1))),.lit (.int .i64 (kk+1+1)),.sl (Zan (kk+1+1+1) r3)]) (us:=[.int .i64 kk,.string (txt (kk+1)),.int .i64 (kk+1+1),u3]) (Es:=fun _=>E5) rfl ⟨rfl,rfl,rfl,trivial⟩
    rw [Zce hr,ZcY,hkk,ZeQ om]
    simp only [ZcU,mkC,mkV,cntC,Int.natCast_one]
    exact ⟨_,hz⟩
   refine pE [1002,1003] [1002] hre ?_
   have e1:((us.set i [.int .i64 kk,.string (txt (kk+1)),.int .i64 (kk+1+1),u3]).map Zap)=(us.map Zap).set i [.lit (.int .i64 kk),.lit (.string (txt (kk+1))),.lit (.int .i64 (kk+1+1)),.lit u3]:=by rw [List.map_set,ZdA]
   have e2:=ZeR us i [.int .i64 kk,.string (txt (kk+1)),.int .i64 (kk+1+1),u3]
   have e5:k+(cntRows (rows.take (i+1)):Int)=kk+1+1+1+(cntRows r3:Int):=by rw [hc1];omega
   have hn2:(us.set i [.int .i64 kk,.string (txt (kk+1)),.int .i64 (kk+1+1),u3]).length=rows.length:=by rw [ZaY,hn]
   generalize us.set i [.int .i64 kk,.string (txt (kk+1)),.int .i64 (kk+1+1),u3]=us2 at e1 e2 hn2 ⊢
   rw [<- e1,<- e2]
   (have F:=ai @w4 (ai @e5 @hl);refine gG ?_;exact ⟨(i+1,us2,E4,E6),⟨hlt,hn2⟩,gw,gw,by omega⟩)
  ·obtain rfl:i=rows.length:=by omega
   have q1:((rows.length:Int) < (rows.length:Int))=False:=eq_false om
   rw [List.take_length,List.take_of_length_le (Nat.le_of_eq hn)]
   (have F:=ai @q1 (ai @hl @hn);refine gG ?_;clear F)
   obtain ⟨E6,hre⟩:∃ E6,ZbG [.buf (some (a,cap)) ety 4 (us.map Zap),.set E3 (fun w=>Zat w (Zan k rows) E3 us)] [.set E6 (fun w=>Own w (.sl (Zan k rows)) E6 (.slice a uss.length cap))]:=by
    rw [hl,<- hn]
    exact ⟨_,Zdk (fun w h=>h) (Own.stable _ _ _)⟩
   refine pE [1000,1002] [1000] hre ?_
   have F:=hk
   exact gTP (R:=fun r pm=>∃ E',r=[.one (.lit (.int .i64 (k+(cntRows rows:Nat))))]∧pm=[.set E' (fun w=>Own w (.sl (Zan k rows)) E' (.slice a uss.length cap))]) [1000] ⟨E6,rfl,rfl⟩
theorem ZrB (n:Nat):∀ rows,ZbV rows < n->Zam (Zab .term) rows->Zdt 71 rows:=by
 induction n with
 | zero=>exact fun _ h=>by omega
 | succ n ih =>
  intro rows hn hok
  refine Zvs rows hok fun r hr i0 t1 i2 r3 he=>?_
  subst he
  obtain ⟨i,hi⟩:=List.getElem?_of_mem hr
  have h1:=Zda hi
  obtain ⟨_,_,_,_,he,_,_,_,g3⟩:=Zdf (hok.get hi)
  injection he with _ he;injection he with _ he;injection he with _ he;injection he with he _;injection he with he;subst he
  simp only [ZbE,Zep] at h1
  exact ih _ om g3
theorem ZiL {rows:List (List C)} (hok:Zam (Zab .term) rows):Zdt 71 rows:=ZrB _ rows (Nat.lt_succ_self _) hok
def Zhl:Int->List C->List C
 | _,[]=>[]
 | k,.sl rows::cs=>.sl (Zan k rows)::Zhl (k+cntRows rows) cs
 | k,c::cs=>c::Zhl k cs
def cntTop:List C->Nat
 | []=>0
 | .sl rows::cs=>cntRows rows+cntTop cs
 | _::cs=>cntTop cs
def ZEb (f:FuncId) (row:List C):Prop:=∀ (k:Int) (E:Nat->Prop) (us:List Value),us.length=row.length->(Zap us).all Zaw=true->0<=k->k+cntTop row<=1000000000->ConP e0 f [.agg (Zap us),.one (.lit (.int .i64 k))] [.set E (fun w=>Zad w row E us)] (fun r pm=>∃ E',r=[.one (.lit (.int .i64 (k+cntTop row)))]∧pm=[.set E' (fun w=>Zad w (Zhl k row) E' us)])
theorem Zk8 {E:Nat->Prop} {r:List C} {us:List Value} (hp:r.all Zeb=true):ZjO (ι:=Nat->Nat->Prop) [.set E (fun w=>Zad w r E us)] (fun _=>True) (fun i=>Zbb r us i):=fun w S h ha=>by
 obtain ⟨h1,h2,h3⟩:(∀ b,E b->b < w.heap.size∧¬ S b)∧Zad w r E us∧_:=h (.set E (fun w=>Zad w r E us)) (by simp)
 obtain ⟨Es,hl,q1,q2,q3⟩:=Ziy (S:=S) hp h2 h1
 exact ⟨Es,trivial,q1,q2,fun g hg=>⟨_,List.mem_cons_self,q3 g hg⟩⟩
theorem Zk9 {cs:List C} {us:List Value} {Es:Nat->Nat->Prop} (hp:cs.all Zeb=true) (hl:ZeC cs us):ZbG (Zbb cs us Es) [.set (Za1 (Zbb cs us Es)) (fun w=>Zad w cs (Za1 (Zbb cs us Es)) us)]:=fun w S h ha=>by
 have hv:=Zad.of_cells (w:=w) (S:=S) hp hl h ha
 refine ⟨fun x hx=>?_,Zel _,fun g ⟨x,hx,hg⟩=>?_⟩
 ·simp only [List.mem_cons,List.not_mem_nil,or_false] at hx
  subst hx
  refine ⟨fun b ⟨y,hy,hg⟩=>?_,hv,Zad.stable _ _ _⟩
  obtain ⟨E',G',rfl⟩:=Zfi y hy
  exact (h _ hy).1 b hg
 ·simp only [List.mem_cons,List.not_mem_nil,or_false] at hx
  subst hx
  exact hg
def Zmt (f:FuncId) (rows:List (List C)):Prop:=∀ (k:Int),0<=k->k+cntRows rows<=1000000000->Con e0 f [.one (.sl (Zan k rows)),.one (.lit (.int .i64 k))] [.one (.lit (.int .i64 (k+cntRows rows)))]
theorem ZiB:∀ {rows:List (List C)} {i:Nat} {r:List C} (k:Int),rows[i]?=some r->(Zan k rows)[i]?=some (ZcU (k+cntRows (rows.take i)) r)
 | q::rows,0,r,k,h=>by simp at h;subst h;simp [Zan,cntRows]
 | q::rows,i+1,r,k,h=>by
  simp only [List.getElem?_cons_succ] at h
  simp only [Zan,List.getElem?_cons_succ,List.take_succ_cons,cntRows]
  rw [ZiB _ h]
  congr 2
  omega
 | [],_,_,_,h=>by simp at h
theorem ZFG {v:Value} {k:Int} (h:Zaw (.lit v)=true):Zaw (.lit (mkV k v))=true:=by
 cases v <;> first | rfl | exact h
theorem ZkH:∀ (cs:List C) (k:Int),cs.all Zaw=true->(ZcU k cs).all Zaw=true
 | [],_,_=>by simp [ZcU]
 | c::cs,k,h=>by
  simp only [List.all_cons,Bool.and_eq_true] at h
  simp only [ZcU,List.all_cons,Bool.and_eq_true]
  refine ⟨?_,ZkH cs _ h.2⟩
  cases c with
  | lit v=>simp only [mkC];exact ZFG h.1
  | _=>simp [mkC,Zaw]
theorem Zvt {n:Nat}:∀ {rows:List (List C)} (k:Int),rowsLen n rows->ZaX n (Zan k rows)=true
 | [],k,_=>by simp [Zan,ZaX]
 | r::rows,k,h=>by
  have h1:=h r List.mem_cons_self
  have h2:=Zvt (k+ZcC r) (fun x hx=>h x (List.mem_cons_of_mem _ hx):rowsLen n rows)
  unfold ZaX at h2 ⊢
  simp only [Zan,List.all_cons,Bool.and_eq_true]
  exact ⟨⟨by rw [ZnZ,h1.1];exact beq_self_eq_true n,ZkH _ _ h1.2⟩,h2⟩
set_option maxRecDepth 100000 in
theorem Zvu (rows:List (List C)) (hok:Zam (Zab .term) rows) (hmx:rows.length<=1048576) (h:∀ r∈rows,∀ i0 t1 i2 r3,r=[.lit (.int .i64 i0),.lit (.string t1),.lit (.int .i64 i2),.sl r3]->Zmt 72 r3):Zmt 72 rows:=by
 intro k hk hb
 have hrb:ZaX 4 (Zan k rows)=true:=Zvt k hok.rowsLen
 have hml:=Zix k rows
 refine gI (ts:=[.slot 4]) 281612684362291 Tryz.func72 ?_
 (have F:=@e0P;refine gG ?_;clear F)
 (have F:=ai @ZcV (ai @Zen (ai @Int.add_zero @Int.natCast_zero));refine gL (ι:=Nat) [1,4,5,9,18,28,37,48] [] (fun x=>[(5,.d (.one (.lit (.int .i64 (x:Int))))),(1,.d (.one (.lit (.int .i64 (k+(cntRows (rows.take x):Nat))))))]) (fun x=>[]) (fun x=>x<=rows.length) (fun x=>rows.length - x) (0) (Nat.zero_le _) (fun x hx=>?_);clear F)
 by_cases hlt:x < rows.length
 ·obtain ⟨r,hr⟩:∃ r,rows[x]?=some r:=⟨_,List.getElem?_eq_getElem hlt⟩
  obtain ⟨i0,t1,i2,r3,rfl,_,_,_,g3⟩:=Zdf (hok.get hr)
  have hm:=h _ (List.mem_of_getElem? hr) i0 t1 i2 r3 rfl
  have hc1:cntRows (rows.take (x+1))=cntRows (rows.take x)+(3+cntRows r3):=by
   rw [Zce hr,Zdl];simp only [ZcC,cntC];omega
  have hc2:=Zcg rows (x+1)
  have hg:=ZiB k hr
  simp only [ZcU,mkC,mkV,cntC,Int.natCast_one] at hg
  have e5:k+(cntRows (rows.take (x+1)):Int)=k+(cntRows (rows.take x):Int)+1+1+1+(cntRows r3:Int):=by rw [hc1];omega
  have b1:k+(cntRows (rows.take x):Int)+3+cntRows r3<=1000000000:=by omega
  have b0:0<=k+(cntRows (rows.take x):Int):=by omega
  generalize k+(cntRows (rows.take x):Int)=kk at hg e5 b1 b0 ⊢
  have q1:((x:Int) < (rows.length:Int))=True:=eq_true om
  have w1:IntKind.i64.wrap (kk+1)=kk+1:=IntWalk.i64_in _ om
  have w2:IntKind.i64.wrap (kk+1+1)=kk+1+1:=IntWalk.i64_in _ om
  have w3:IntKind.i64.wrap (kk+1+1+1)=kk+1+1+1:=IntWalk.i64_in _ om
  have w4:IntKind.i64.wrap ((x:Int)+1)=(x:Int)+1:=IntWalk.i64_in _ om
  (have F:=ai @q1 (ai @hml (ai @hrb (ai @hg (ai @beq_self_eq_true.{0} @w1))));refine gG ?_;clear F)
  refine gB ?_
  (have F:=ai @q1 (ai @hml (ai @hrb @hg));refine gC (ZcB (kk+1) om om) ?_;clear F)
  (have F:=ai @q1 (ai @hml (ai @hrb (ai @hg @beq_self_eq_true.{0})));refine gR ?_;clear F)
  (have F:=ai @q1 (ai @hml (ai @hrb (ai @hg (ai @beq_self_eq_true.{0} (ai @w1 (ai @w2 @w3))))));refine gG ?_;clear F)
  refine gB ?_
  (have F:=ai @q1 (ai @hml (ai @hrb @hg));refine gC (hm (kk+1+1+1) om om) ?_;clear F)
  (have F:=@q1;refine gR ?_;clear F)
  have q5:(kk+1+1+1+(cntRows r3:Int) < 0)=False:=eq_false om
  (have F:=ai @q5 (ai @w4 @e5);refine gG ?_;exact ⟨x+1,hlt,gw,gw,by omega⟩)
 ·obtain rfl:x=rows.length:=by omega
  have q1:((rows.length:Int) < (rows.length:Int))=False:=eq_false om
  rw [List.take_length]
  (have F:=ai @q1 @hml;refine gG ?_;exact gTd)
theorem ZrC (n:Nat):∀ rows,ZbV rows < n->Zam (Zab .term) rows->rows.length+Zac rows<=1048576->Zmt 72 rows:=by
 induction n with
 | zero=>exact fun _ h=>by omega
 | succ n ih =>
  intro rows hn hok hB
  refine Zvu rows hok om fun r hr i0 t1 i2 r3 he=>?_
  subst he
  obtain ⟨i,hi⟩:=List.getElem?_of_mem hr
  have h1:=Zda hi
  have h2:=ZcZ hi
  obtain ⟨_,_,_,_,he,_,_,_,g3⟩:=Zdf (hok.get hi)
  injection he with _ he;injection he with _ he;injection he with _ he;injection he with he _;injection he with he;subst he
  simp only [ZbE,Zep] at h1
  simp only [bulkRow,ZbT] at h2
  exact ih _ om g3 om
theorem ZiM {rows:List (List C)} (hok:Zam (Zab .term) rows) (hB:rows.length+Zac rows<=1048576):Zmt 72 rows:=ZrC _ rows (Nat.lt_succ_self _) hok hB
theorem Zla {row:List C} (hok:Zao (sigF) row) (hb:bulkRow row<=1048576):ConP e0 12 [.agg row] [] (ZeL row) :=
 Zzv (by kernel_rfl) hok.cells fun w S vs h=>by
  match vs,h with
  | [v],h =>
   obtain ⟨⟨us,rfl,hu⟩,_⟩:=h
   exact Zhb row S us w hok hu hb
theorem Zhm {rows:List (List C)} (hok:Zam (Zab .binding) rows) (hb:rows.length+Zac rows<=1048576):ConP e0 21 [.one (.sl rows)] [] (ZhY rows) :=
 Zvo (by kernel_rfl) fun w S vs h=>by
  match vs,h with
  | [v],h =>
   obtain ⟨hv,_⟩:=h
   exact ZhQ rows S v w hok hv hb
set_option maxRecDepth 100000 in
theorem Zlb {rows:List (List C)} (hok:Zam (Zab .binding) rows):Zdt 27 rows:=by
 intro k E v hk hb
 refine gIP (ts:=[.slot 4]) [1000] 563 Tryz.func27 ?_
 (have F:=@e0P;refine gG ?_;clear F)
 by_cases hne:rows=[]
 ·subst hne
  refine pEx [1000] [1000] Zg0 ?_
  rintro ⟨a,cap⟩ rfl
  (have F:=@hk;refine gL (ι:=Unit) [1,5,9] [] (fun x=>[(5,.d (.one (.lit (.int .i64 0)))),(1,.d (.one (.lit (.int .i64 k))))]) (fun x=>[]) (fun x=>True) (fun x=>0) (()) (trivial) (fun x hx=>?_);clear F)
  have q1:((0:Int) < 0)=False:=eq_false (by decide)
  have q2:((0:Int) < ((0:Nat):Int))=False:=eq_false (by decide)
  (have F:=ai @q1 @q2;refine gG ?_;clear F)
  have F:=hk
  refine gTP (R:=fun r pm=>∃ E',r=[.one (.lit (.int .i64 (k+(cntRows []:Nat))))]∧pm=[.set E' (fun w=>Own w (.sl (Zan k [])) E' (.slice a 0 cap))]) [1000] ⟨E,by simp only [cntRows,Int.natCast_zero,Int.add_zero];rfl,by simp only [Zan];rfl⟩
 ·have hrl:rowsLen 8 rows:=Zam.rowsLen hok
  refine pEx [1000] [1000,1001] (Zfu hne hrl) ?_
  rintro ⟨a,cap,ety,uss,E1⟩ ⟨rfl,hl,hmx⟩
  simp only at hl ⊢
  unfold maxLen at hmx
  refine pE [] [1002] ZcI ?_
  (have F:=ai @ZcV (ai @Zen (ai @Int.add_zero @Int.natCast_zero));refine gL (ι:=Nat × List (List Value) × (Nat->Prop) × (Nat->Prop)) [1,5,9] [1000,1001,1002] (fun x=>[(5,.d (.one (.lit (.int .i64 (x.1:Int))))),(1,.d (.one (.lit (.int .i64 (k+(cntRows (rows.take x.1):Nat))))))]) (fun x=>[(1000,.buf (some (a,cap)) ety 8 (x.2.1.map Zap)),(1001,.set x.2.2.1 (fun w=>Zat w (rows.drop x.1) x.2.2.1 (x.2.1.drop x.1))),(1002,.set x.2.2.2 (fun w=>Zat w (Zan k (rows.take x.1)) x.2.2.2 (x.2.1.take x.1)))]) (fun x=>x.1<=rows.length∧x.2.1.length=rows.length) (fun x=>rows.length - x.1) ((0,uss,E1,fun _=>False)) (⟨Nat.zero_le _,hl⟩) (fun x hx=>?_);clear F)
  obtain ⟨i,us,E2,E3⟩:=x
  obtain ⟨hi,hn⟩:=hx
  simp only at hi hn
  dsimp only
  by_cases hlt:i < rows.length
  ·obtain ⟨r,hr⟩:∃ r,rows[i]?=some r:=⟨_,List.getElem?_eq_getElem hlt⟩
   obtain ⟨u,hu⟩:∃ u,us[i]?=some u:=⟨_,List.getElem?_eq_getElem om⟩
   obtain ⟨i0,t1,i2,r3,i4,t5,i6,r7,rfl,g0,g1,g2,g3,g4,g5,g6,g7⟩:=Zc8 (hok.get hr)
   have hm3:=ZiL g3
   have hm7:=ZiL g7
   have hc1:cntRows (rows.take (i+1))=cntRows (rows.take i)+(6+cntRows r3+cntRows r7):=by
    rw [Zce hr,Zdl];simp only [ZcC,cntC];try omega
   have hc2:=Zcg rows (i+1)
   rw [Zcj hr,Zcj hu]
   refine pEx [1001] [1001] (Zfv rfl) ?_
   rintro ⟨⟩ hlit
   obtain ⟨u3,u7,rfl⟩:∃ u3 u7,u=[.int .i64 i0,.string t1,.int .i64 i2,u3,.int .i64 i4,.string t5,.int .i64 i6,u7]:=by
    match u,hlit with
    | [_,_,_,u3,_,_,_,u7],⟨rfl,rfl,rfl,rfl,rfl,rfl,_⟩=>exact ⟨u3,u7,rfl⟩
   refine pEx (f:=fun (x:(Nat->Prop) × (Nat->Nat->Prop))=>[.set x.1 (fun w=>Zat w (rows.drop (i+1)) x.1 (us.drop (i+1))),.set (x.2 0) (fun w=>Own w (.sl r3) (x.2 0) u3),.set (x.2 1) (fun w=>Own w (.sl r7) (x.2 1) u7)]) [1001] [1001,1003,1004] (Zg1 rfl) ?_
   rintro ⟨E4,Es⟩ -
   dsimp only
   have hkk0:0<=k+(cntRows (rows.take i):Int):=by omega
   have hkk1:k+(cntRows (rows.take i):Int)+((6+cntRows r3+cntRows r7:Nat):Int)<=1000000000:=by omega
   generalize hkk:k+(cntRows (rows.take i):Int)=kk at hkk0 hkk1 ⊢
   have q1:((i:Int) < (rows.length:Int))=True:=eq_true om
   have q2:i < rows.length:=hlt
   have hs:∀ X:List C,((us.map Zap).set i X)[i]?=some X:=fun X=>Zgx (by rw [ZaG,hn];omega) X
   have lr:Zap [.int .i64 i0,.string t1,.int .i64 i2,u3,.int .i64 i4,.string t5,.int .i64 i6,u7]=[.lit (.int .i64 i0),.lit (.string t1),.lit (.int .i64 i2),.lit (u3),.lit (.int .i64 i4),.lit (.string t5),.lit (.int .i64 i6),.lit (u7)]:=rfl
   have w0:IntKind.i64.wrap (kk+1)=kk+1:=IntWalk.i64_in _ om
   have w1:IntKind.i64.wrap (kk+1+1)=kk+1+1:=IntWalk.i64_in _ om
   have w2:IntKind.i64.wrap (kk+1+1+1)=kk+1+1+1:=IntWalk.i64_in _ om
   have w4:IntKind.i64.wrap (kk+1+1+1+(cntRows r3:Int)+1)=kk+1+1+1+(cntRows r3:Int)+1:=IntWalk.i64_in _ om
   have w5:IntKind.i64.wrap (kk+1+1+1+(cntRows r3:Int)+1+1)=kk+1+1+1+(cntRows r3:Int)+1+1:=IntWalk.i64_in _ om
   have w6:IntKind.i64.wrap (kk+1+1+1+(cntRows r3:Int)+1+1+1)=kk+1+1+1+(cntRows r3:Int)+1+1+1:=IntWalk.i64_in _ om
   have wi:IntKind.i64.wrap ((i:Int)+1)=(i:Int)+1:=IntWalk.i64_in _ om
   (have F:=ai @q1 (ai @hl (ai @hn (ai @hu (ai @lr (ai @ZaG (ai @ZaY (ai @hs (ai @w0 (ai @w1 (ai @w2 (ai @w4 (ai @w5 (ai @w6 (ai @q2 @Za2))))))))))))));refine gG ?_;clear F)
   refine gB ?_
   (have F:=ai @q1 (ai @hl (ai @hn (ai @hu (ai @lr (ai @ZaG (ai @ZaY (ai @hs (ai @w0 (ai @w1 (ai @w2 (ai @w4 (ai @w5 (ai @w6 (ai @q2 @Za2))))))))))))));refine gC (ZcB (kk+1) om om) ?_;clear F)
   (have F:=ai @q1 (ai @hl (ai @hn (ai @hu (ai @lr (ai @ZaG (ai @ZaY (ai @hs (ai @w0 (ai @w1 (ai @w2 (ai @w4 (ai @w5 (ai @w6 (ai @q2 @Za2))))))))))))));refine gR ?_;clear F)
   (have F:=ai @q1 (ai @hl (ai @hn (ai @hu (ai @lr (ai @ZaG (ai @ZaY (ai @hs (ai @w0 (ai @w1 (ai @w2 (ai @w4 (ai @w5 (ai @w6 (ai @q2 @Za2))))))))))))));refine gG ?_;clear F)
   refine gB ?_
   (have F:=ai @q1 (ai @hl (ai @hn (ai @hu (ai @lr (ai @ZaG (ai @ZaY (ai @hs (ai @w0 (ai @w1 (ai @w2 (ai @w4 (ai @w5 (ai @w6 (ai @q2 @Za2))))))))))))));refine gCP [1003] [1003] (hm3 (kk+1+1+1) (Es 0) u3 om om) ?_;clear F)
   rintro r pm ⟨F3,rfl,rfl⟩
   simp only [setA,retA,zipM,List.cons_append,List.nil_append]
   (have F:=ai @q1 (ai @hl (ai @hn (ai @hu (ai @lr (ai @ZaG (ai @ZaY (ai @hs (ai @w0 (ai @w1 (ai @w2 (ai @w4 (ai @w5 (ai @w6 (ai @q2 @Za2))))))))))))));refine gR ?_;clear F)
   (have F:=ai @q1 (ai @hl (ai @hn (ai @hu (ai @lr (ai @ZaG (ai @ZaY (ai @hs (ai @w0 (ai @w1 (ai @w2 (ai @w4 (ai @w5 (ai @w6 (ai @q2 @Za2))))))))))))));refine gG ?_;clear F)
   refine gB ?_
   (have F:=ai @q1 (ai @hl (ai @hn (ai @hu (ai @lr (ai @ZaG (ai @ZaY (ai @hs (ai @w0 (ai @w1 (ai @w2 (ai @w4 (ai @w5 (ai @w6 (ai @q2 @Za2))))))))))))));refine gC (ZcB (kk+1+1+1+(cntRows r3:Int)+1) om om) ?_;clear F)
   (have F:=ai @q1 (ai @hl (ai @hn (ai @hu (ai @lr (ai @ZaG (ai @ZaY (ai @hs (ai @w0 (ai @w1 (ai @w2 (ai @w4 (ai @w5 (ai @w6 (ai @q2 @Za2))))))))))))));refine gR ?_;clear F)
   (have F:=ai @q1 (ai @hl (ai @hn (ai @hu (ai @lr (ai @ZaG (ai @ZaY (ai @hs (ai @w0 (ai @w1 (ai @w2 (ai @w4 (ai @w5 (ai @w6 (ai @q2 @Za2))))))))))))));refine gG ?_;clear F)
   refine gB ?_
   (have F:=ai @q1 (ai @hl (ai @hn (ai @hu (ai @lr (ai @ZaG (ai @ZaY (ai @hs (ai @w0 (ai @w1 (ai @w2 (ai @w4 (ai @w5 (ai @w6 (ai @q2 @Za2))))))))))))));refine gCP [1004] [1004] (hm7 (kk+1+1+1+(cntRows r3:Int)+1+1+1) (Es 1) u7 om om) ?_;clear F)
   rintro r pm ⟨F7,rfl,rfl⟩
   simp only [setA,retA,zipM,List.cons_append,List.nil_append]
   (have F:=ai @q1 (ai @hl (ai @hn (ai @hu (ai @lr (ai @ZaG (ai @ZaY (ai @hs (ai @w0 (ai @w1 (ai @w2 (ai @w4 (ai @w5 (ai @w6 (ai @q2 @Za2))))))))))))));refine gR ?_;clear F)
   obtain ⟨E6,hre⟩:∃ E6,ZbG [.set E3 (fun w=>Zat w (Zan k (rows.take i)) E3 (us.take i)),.set F3 (fun w=>Own w (.sl (Zan (kk+1+1+1) r3)) F3 u3),.set F7 (fun w=>Own w (.sl (Zan (kk+1+1+1+(cntRows r3:Int)+1+1+1) r7)) F7 u7)] [.set E6 (fun w=>Zat w (Zan k (rows.take (i+1))) E6 ((us.set i [.int .i64 (kk),.string (txt (kk+1)),.int .i64 (kk+1+1),u3,.int .i64 (kk+1+1+1+(cntRows r3:Int)),.string (txt (kk+1+1+1+(cntRows r3:Int)+1)),.int .i64 (kk+1+1+1+(cntRows r3:Int)+1+1),u7]).take (i+1)))]:=by
    have hz:=Zg2 (E:=E3) (done:=Zan k (rows.take i)) (ud:=us.take i) (cs:=[.lit (.int .i64 (kk)),.lit (.string (txt (kk+1))),.lit (.int .i64 (kk+1+1)),.sl (Zan (kk+1+1+1) r3),.lit (.int .i64 (kk+1+1+1+(cntRows r3:Int))),.lit (.string (txt (kk+1+1+1+(cntRows r3:Int)+1))),.lit (.int .i64 (kk+1+1+1+(cntRows r3:Int)+1+1)),.sl (Zan (kk+1+1+1+(cntRows r3:Int)+1+1+1) r7)]) (us:=[.int .i64 (kk),.string (txt (kk+1)),.int .i64 (kk+1+1),u3,.int .i64 (kk+1+1+1+(cntRows r3:Int)),.string (txt (kk+1+1+1+(cntRows r3:Int)+1)),.int .i64 (kk+1+1+1+(cntRows r3:Int)+1+1),u7]) (Es:=fun k=>match k with | 0=>F3 | _=>F7) rfl ⟨rfl,rfl,rfl,rfl,rfl,rfl,trivial⟩
    rw [Zce hr,ZcY,hkk,ZeQ om]
    simp only [ZcU,mkC,mkV,cntC,Int.natCast_one]
    exact ⟨_,hz⟩
   refine pE [1002,1003,1004] [1002] hre ?_
   have e1:((us.set i [.int .i64 (kk),.string (txt (kk+1)),.int .i64 (kk+1+1),u3,.int .i64 (kk+1+1+1+(cntRows r3:Int)),.string (txt (kk+1+1+1+(cntRows r3:Int)+1)),.int .i64 (kk+1+1+1+(cntRows r3:Int)+1+1),u7]).map Zap)=(us.map Zap).set i [.lit (.int .i64 (kk)),.lit (.string (txt (kk+1))),.lit (.int .i64 (kk+1+1)),.lit (u3),.lit (.int .i64 (kk+1+1+1+(cntRows r3:Int))),.lit (.string (txt (kk+1+1+1+(cntRows r3:Int)+1))),.lit (.int .i64 (kk+1+1+1+(cntRows r3:Int)+1+1)),.lit (u7)]:=by rw [List.map_set];rfl
   have e2:=ZeR us i [.int .i64 (kk),.string (txt (kk+1)),.int .i64 (kk+1+1),u3,.int .i64 (kk+1+1+1+(cntRows r3:Int)),.string (txt (kk+1+1+1+(cntRows r3:Int)+1)),.int .i64 (kk+1+1+1+(cntRows r3:Int)+1+1),u7]
   have e5:k+(cntRows (rows.take (i+1)):Int)=kk+1+1+1+(cntRows r3:Int)+1+1+1+(cntRows r7:Int):=by rw [hc1];omega
   have hn2:(us.set i [.int .i64 (kk),.string (txt (kk+1)),.int .i64 (kk+1+1),u3,.int .i64 (kk+1+1+1+(cntRows r3:Int)),.string (txt (kk+1+1+1+(cntRows r3:Int)+1)),.int .i64 (kk+1+1+1+(cntRows r3:Int)+1+1),u7]).length=rows.length:=by rw [ZaY,hn]
   generalize us.set i [.int .i64 (kk),.string (txt (kk+1)),.int .i64 (kk+1+1),u3,.int .i64 (kk+1+1+1+(cntRows r3:Int)),.string (txt (kk+1+1+1+(cntRows r3:Int)+1)),.int .i64 (kk+1+1+1+(cntRows r3:Int)+1+1),u7]=us2 at e1 e2 hn2 ⊢
   rw [<- e1,<- e2]
   (have F:=ai @wi (ai @e5 (ai @hl (ai @w0 (ai @w1 (ai @w2 (ai @w4 (ai @w5 (ai @w6 @hn))))))));refine gG ?_;exact ⟨(i+1,us2,E4,E6),⟨hlt,hn2⟩,gw,gw,by omega⟩)
  ·obtain rfl:i=rows.length:=by omega
   have q1:((rows.length:Int) < (rows.length:Int))=False:=eq_false om
   rw [List.take_length,List.take_of_length_le (Nat.le_of_eq hn)]
   (have F:=ai @q1 (ai @hl @hn);refine gG ?_;clear F)
   obtain ⟨E6,hre⟩:∃ E6,ZbG [.buf (some (a,cap)) ety 8 (us.map Zap),.set E3 (fun w=>Zat w (Zan k rows) E3 us)] [.set E6 (fun w=>Own w (.sl (Zan k rows)) E6 (.slice a uss.length cap))]:=by
    rw [hl,<- hn]
    exact ⟨_,Zdk (fun w h=>h) (Own.stable _ _ _)⟩
   refine pE [1000,1002] [1000] hre ?_
   have F:=hk
   exact gTP (R:=fun r pm=>∃ E',r=[.one (.lit (.int .i64 (k+(cntRows rows:Nat))))]∧pm=[.set E' (fun w=>Own w (.sl (Zan k rows)) E' (.slice a uss.length cap))]) [1000] ⟨E6,rfl,rfl⟩
theorem ZeS {rows:List (List C)} (hok:Zam (Zab .binding) rows):Zdt 27 rows:=Zlb hok
set_option maxRecDepth 100000 in
theorem Zlc {rows:List (List C)} (hok:Zam (Zab .binding) rows) (hmx:rows.length+Zac rows<=1048576):Zmt 34 rows:=by
 intro k hk hb
 have hrb:ZaX 8 (Zan k rows)=true:=Zvt k hok.rowsLen
 have hml:=Zix k rows
 refine gI (ts:=[.slot 4]) 9905940528262939097185124915 Tryz.func34 ?_
 (have F:=@e0P;refine gG ?_;clear F)
 (have F:=ai @ZcV (ai @Zen (ai @Int.add_zero @Int.natCast_zero));refine gL (ι:=Nat) [1,4,5,9,19,30,40,52,60,71,81,93] [] (fun x=>[(5,.d (.one (.lit (.int .i64 (x:Int))))),(1,.d (.one (.lit (.int .i64 (k+(cntRows (rows.take x):Nat))))))]) (fun x=>[]) (fun x=>x<=rows.length) (fun x=>rows.length - x) (0) (Nat.zero_le _) (fun x hx=>?_);clear F)
 by_cases hlt:x < rows.length
 ·obtain ⟨r,hr⟩:∃ r,rows[x]?=some r:=⟨_,List.getElem?_eq_getElem hlt⟩
  have hbr:=ZcZ hr
  obtain ⟨i0,t1,i2,r3,i4,t5,i6,r7,rfl,_,_,_,g3,_,_,_,g7⟩:=Zc8 (hok.get hr)
  simp only [bulkRow,ZbT] at hbr
  have hm3:=ZiM g3 om
  have hm7:=ZiM g7 om
  have hc1:cntRows (rows.take (x+1))=cntRows (rows.take x)+(6+cntRows r3+cntRows r7):=by
   rw [Zce hr,Zdl];simp only [ZcC,cntC];omega
  have hc2:=Zcg rows (x+1)
  have hg:=ZiB k hr
  simp only [ZcU,mkC,mkV,cntC,Int.natCast_one] at hg
  have e5:k+(cntRows (rows.take (x+1)):Int)=k+(cntRows (rows.take x):Int)+1+1+1+(cntRows r3:Int)+1+1+1+(cntRows r7:Int):=by rw [hc1];omega
  have b1:k+(cntRows (rows.take x):Int)+6+cntRows r3+cntRows r7<=1000000000:=by omega
  have b0:0<=k+(cntRows (rows.take x):Int):=by omega
  generalize k+(cntRows (rows.take x):Int)=kk at hg e5 b1 b0 ⊢
  have q1:((x:Int) < (rows.length:Int))=True:=eq_true om
  have w1:IntKind.i64.wrap (kk+1)=kk+1:=IntWalk.i64_in _ om
  have w2:IntKind.i64.wrap (kk+1+1)=kk+1+1:=IntWalk.i64_in _ om
  have w3:IntKind.i64.wrap (kk+1+1+1)=kk+1+1+1:=IntWalk.i64_in _ om
  have w4:IntKind.i64.wrap ((x:Int)+1)=(x:Int)+1:=IntWalk.i64_in _ om
  have q5:(kk+1+1+1+(cntRows r3:Int) < 0)=False:=eq_false om
  (have F:=ai @q1 (ai @hml (ai @hrb (ai @hg (ai @beq_self_eq_true.{0} @w1))));refine gG ?_;clear F)
  refine gB ?_
  (have F:=ai @q1 (ai @hml (ai @hrb @hg));refine gC (ZcB (kk+1) om om) ?_;clear F)
  (have F:=ai @q1 (ai @hml (ai @hrb (ai @hg @beq_self_eq_true.{0})));refine gR ?_;clear F)
  (have F:=ai @q1 (ai @hml (ai @hrb (ai @hg (ai @beq_self_eq_true.{0} (ai @w1 (ai @w2 @w3))))));refine gG ?_;clear F)
  refine gB ?_
  (have F:=ai @q1 (ai @hml (ai @hrb @hg));refine gC (hm3 (kk+1+1+1) om om) ?_;clear F)
  (have F:=@q1;refine gR ?_;clear F)
  generalize hj:kk+1+1+1+(cntRows r3:Int)=jj at hg e5 q5 ⊢
  have v1:IntKind.i64.wrap (jj+1)=jj+1:=IntWalk.i64_in _ om
  have v2:IntKind.i64.wrap (jj+1+1)=jj+1+1:=IntWalk.i64_in _ om
  have v3:IntKind.i64.wrap (jj+1+1+1)=jj+1+1+1:=IntWalk.i64_in _ om
  have q6:(jj+1+1+1+(cntRows r7:Int) < 0)=False:=eq_false om
  (have F:=ai @q1 (ai @q5 (ai @hml (ai @hrb (ai @hg (ai @beq_self_eq_true.{0} @v1)))));refine gG ?_;clear F)
  refine gB ?_
  (have F:=ai @q1 (ai @hml (ai @hrb @hg));refine gC (ZcB (jj+1) om om) ?_;clear F)
  (have F:=ai @q1 (ai @hml (ai @hrb (ai @hg @beq_self_eq_true.{0})));refine gR ?_;clear F)
  (have F:=ai @q1 (ai @hml (ai @hrb (ai @hg (ai @beq_self_eq_true.{0} (ai @v1 (ai @v2 @v3))))));refine gG ?_;clear F)
  refine gB ?_
  (have F:=ai @q1 (ai @hml (ai @hrb @hg));refine gC (hm7 (jj+1+1+1) om om) ?_;clear F)
  (have F:=@q1;refine gR ?_;clear F)
  (have F:=ai @q6 (ai @w4 @e5);refine gG ?_;exact ⟨x+1,hlt,gw,gw,by omega⟩)
 ·obtain rfl:x=rows.length:=by omega
  have q1:((rows.length:Int) < (rows.length:Int))=False:=eq_false om
  rw [List.take_length]
  (have F:=ai @q1 @hml;refine gG ?_;exact gTd)
set_option maxRecDepth 100000 in
theorem Zmu {rows:List (List C)} (hok:Zam (Zab .str) rows):Zdt 123 rows:=by
 intro k E v hk hb
 refine gIP (ts:=[.slot 4]) [1000] 563 Tryz.func123 ?_
 (have F:=@e0P;refine gG ?_;clear F)
 by_cases hne:rows=[]
 ·subst hne
  refine pEx [1000] [1000] Zg0 ?_
  rintro ⟨a,cap⟩ rfl
  (have F:=@hk;refine gL (ι:=Unit) [1,5,9] [] (fun x=>[(5,.d (.one (.lit (.int .i64 0)))),(1,.d (.one (.lit (.int .i64 k))))]) (fun x=>[]) (fun x=>True) (fun x=>0) (()) (trivial) (fun x hx=>?_);clear F)
  have q1:((0:Int) < 0)=False:=eq_false (by decide)
  have q2:((0:Int) < ((0:Nat):Int))=False:=eq_false (by decide)
  (have F:=ai @q1 @q2;refine gG ?_;clear F)
  have F:=hk
  refine gTP (R:=fun r pm=>∃ E',r=[.one (.lit (.int .i64 (k+(cntRows []:Nat))))]∧pm=[.set E' (fun w=>Own w (.sl (Zan k [])) E' (.slice a 0 cap))]) [1000] ⟨E,by simp only [cntRows,Int.natCast_zero,Int.add_zero];rfl,by simp only [Zan];rfl⟩
 ·have hrl:rowsLen 1 rows:=Zam.rowsLen hok
  refine pEx [1000] [1000,1001] (Zfu hne hrl) ?_
  rintro ⟨a,cap,ety,uss,E1⟩ ⟨rfl,hl,hmx⟩
  simp only at hl ⊢
  unfold maxLen at hmx
  refine pE [] [1002] ZcI ?_
  (have F:=ai @ZcV (ai @Zen (ai @Int.add_zero @Int.natCast_zero));refine gL (ι:=Nat × List (List Value) × (Nat->Prop) × (Nat->Prop)) [1,5,9] [1000,1001,1002] (fun x=>[(5,.d (.one (.lit (.int .i64 (x.1:Int))))),(1,.d (.one (.lit (.int .i64 (k+(cntRows (rows.take x.1):Nat))))))]) (fun x=>[(1000,.buf (some (a,cap)) ety 1 (x.2.1.map Zap)),(1001,.set x.2.2.1 (fun w=>Zat w (rows.drop x.1) x.2.2.1 (x.2.1.drop x.1))),(1002,.set x.2.2.2 (fun w=>Zat w (Zan k (rows.take x.1)) x.2.2.2 (x.2.1.take x.1)))]) (fun x=>x.1<=rows.length∧x.2.1.length=rows.length) (fun x=>rows.length - x.1) ((0,uss,E1,fun _=>False)) (⟨Nat.zero_le _,hl⟩) (fun x hx=>?_);clear F)
  obtain ⟨i,us,E2,E3⟩:=x
  obtain ⟨hi,hn⟩:=hx
  simp only at hi hn
  dsimp only
  by_cases hlt:i < rows.length
  ·obtain ⟨r,hr⟩:∃ r,rows[i]?=some r:=⟨_,List.getElem?_eq_getElem hlt⟩
   obtain ⟨u,hu⟩:∃ u,us[i]?=some u:=⟨_,List.getElem?_eq_getElem om⟩
   obtain ⟨t0,rfl,g0⟩:=Zd5 (hok.get hr)
   have hc1:cntRows (rows.take (i+1))=cntRows (rows.take i)+(1):=by
    rw [Zce hr,Zdl];simp only [ZcC,cntC];try omega
   have hc2:=Zcg rows (i+1)
   rw [Zcj hr,Zcj hu]
   refine pEx [1001] [1001] (Zfv rfl) ?_
   rintro ⟨⟩ hlit
   obtain rfl:u=[.string t0]:=by
    match u,hlit with
    | [_],⟨rfl,_⟩=>rfl
   refine pEx (f:=fun (x:(Nat->Prop) × (Nat->Nat->Prop))=>[.set x.1 (fun w=>Zat w (rows.drop (i+1)) x.1 (us.drop (i+1)))]) [1001] [1001] (Zg1 rfl) ?_
   rintro ⟨E4,Es⟩ -
   dsimp only
   have hkk0:0<=k+(cntRows (rows.take i):Int):=by omega
   have hkk1:k+(cntRows (rows.take i):Int)+((1:Nat):Int)<=1000000000:=by omega
   generalize hkk:k+(cntRows (rows.take i):Int)=kk at hkk0 hkk1 ⊢
   have q1:((i:Int) < (rows.length:Int))=True:=eq_true om
   have q2:i < rows.length:=hlt
   have hs:∀ X:List C,((us.map Zap).set i X)[i]?=some X:=fun X=>Zgx (by rw [ZaG,hn];omega) X
   have lr:Zap [.string t0]=[.lit (.string t0)]:=rfl
   have w0:IntKind.i64.wrap (kk+1)=kk+1:=IntWalk.i64_in _ om
   have wi:IntKind.i64.wrap ((i:Int)+1)=(i:Int)+1:=IntWalk.i64_in _ om
   (have F:=ai @q1 (ai @hl (ai @hn (ai @hu (ai @lr (ai @ZaG (ai @ZaY (ai @hs (ai @w0 (ai @q2 @Za2)))))))));refine gG ?_;clear F)
   refine gB ?_
   (have F:=ai @q1 (ai @hl (ai @hn (ai @hu (ai @lr (ai @ZaG (ai @ZaY (ai @hs (ai @w0 (ai @q2 @Za2)))))))));refine gC (ZcB (kk) om om) ?_;clear F)
   (have F:=ai @q1 (ai @hl (ai @hn (ai @hu (ai @lr (ai @ZaG (ai @ZaY (ai @hs (ai @w0 (ai @q2 @Za2)))))))));refine gR ?_;clear F)
   obtain ⟨E6,hre⟩:∃ E6,ZbG [.set E3 (fun w=>Zat w (Zan k (rows.take i)) E3 (us.take i))] [.set E6 (fun w=>Zat w (Zan k (rows.take (i+1))) E6 ((us.set i [.string (txt (kk))]).take (i+1)))]:=by
    have hz:=Zg2 (E:=E3) (done:=Zan k (rows.take i)) (ud:=us.take i) (cs:=[.lit (.string (txt (kk)))]) (us:=[.string (txt (kk))]) (Es:=fun _ _=>False) rfl ⟨rfl,trivial⟩
    rw [Zce hr,ZcY,hkk,ZeQ om]
    simp only [ZcU,mkC,mkV,cntC,Int.natCast_one]
    exact ⟨_,hz⟩
   refine pE [1002] [1002] hre ?_
   have e1:((us.set i [.string (txt (kk))]).map Zap)=(us.map Zap).set i [.lit (.string (txt (kk)))]:=by rw [List.map_set];rfl
   have e2:=ZeR us i [.string (txt (kk))]
   have e5:k+(cntRows (rows.take (i+1)):Int)=kk+1:=by rw [hc1];omega
   have hn2:(us.set i [.string (txt (kk))]).length=rows.length:=by rw [ZaY,hn]
   generalize us.set i [.string (txt (kk))]=us2 at e1 e2 hn2 ⊢
   rw [<- e1,<- e2]
   (have F:=ai @wi (ai @e5 (ai @hl (ai @w0 @hn)));refine gG ?_;exact ⟨(i+1,us2,E4,E6),⟨hlt,hn2⟩,gw,gw,by omega⟩)
  ·obtain rfl:i=rows.length:=by omega
   have q1:((rows.length:Int) < (rows.length:Int))=False:=eq_false om
   rw [List.take_length,List.take_of_length_le (Nat.le_of_eq hn)]
   (have F:=ai @q1 (ai @hl @hn);refine gG ?_;clear F)
   obtain ⟨E6,hre⟩:∃ E6,ZbG [.buf (some (a,cap)) ety 1 (us.map Zap),.set E3 (fun w=>Zat w (Zan k rows) E3 us)] [.set E6 (fun w=>Own w (.sl (Zan k rows)) E6 (.slice a uss.length cap))]:=by
    rw [hl,<- hn]
    exact ⟨_,Zdk (fun w h=>h) (Own.stable _ _ _)⟩
   refine pE [1000,1002] [1000] hre ?_
   have F:=hk
   exact gTP (R:=fun r pm=>∃ E',r=[.one (.lit (.int .i64 (k+(cntRows rows:Nat))))]∧pm=[.set E' (fun w=>Own w (.sl (Zan k rows)) E' (.slice a uss.length cap))]) [1000] ⟨E6,rfl,rfl⟩
theorem Zmv {rows:List (List C)} (hok:Zam (Zab .str) rows):Zdt 123 rows:=Zmu hok
set_option maxRecDepth 100000 in
theorem Zqy {rows:List (List C)} (hok:Zam (Zab .sub) rows):Zdt 124 rows:=by
 intro k E v hk hb
 refine gIP (ts:=[.slot 4]) [1000] 563 Tryz.func124 ?_
 (have F:=@e0P;refine gG ?_;clear F)
 by_cases hne:rows=[]
 ·subst hne
  refine pEx [1000] [1000] Zg0 ?_
  rintro ⟨a,cap⟩ rfl
  (have F:=@hk;refine gL (ι:=Unit) [1,5,9] [] (fun x=>[(5,.d (.one (.lit (.int .i64 0)))),(1,.d (.one (.lit (.int .i64 k))))]) (fun x=>[]) (fun x=>True) (fun x=>0) (()) (trivial) (fun x hx=>?_);clear F)
  have q1:((0:Int) < 0)=False:=eq_false (by decide)
  have q2:((0:Int) < ((0:Nat):Int))=False:=eq_false (by decide)
  (have F:=ai @q1 @q2;refine gG ?_;clear F)
  have F:=hk
  refine gTP (R:=fun r pm=>∃ E',r=[.one (.lit (.int .i64 (k+(cntRows []:Nat))))]∧pm=[.set E' (fun w=>Own w (.sl (Zan k [])) E' (.slice a 0 cap))]) [1000] ⟨E,by simp only [cntRows,Int.natCast_zero,Int.add_zero];rfl,by simp only [Zan];rfl⟩
 ·have hrl:rowsLen 2 rows:=Zam.rowsLen hok
  refine pEx [1000] [1000,1001] (Zfu hne hrl) ?_
  rintro ⟨a,cap,ety,uss,E1⟩ ⟨rfl,hl,hmx⟩
  simp only at hl ⊢
  unfold maxLen at hmx
  refine pE [] [1002] ZcI ?_
  (have F:=ai @ZcV (ai @Zen (ai @Int.add_zero @Int.natCast_zero));refine gL (ι:=Nat × List (List Value) × (Nat->Prop) × (Nat->Prop)) [1,5,9] [1000,1001,1002] (fun x=>[(5,.d (.one (.lit (.int .i64 (x.1:Int))))),(1,.d (.one (.lit (.int .i64 (k+(cntRows (rows.take x.1):Nat))))))]) (fun x=>[(1000,.buf (some (a,cap)) ety 2 (x.2.1.map Zap)),(1001,.set x.2.2.1 (fun w=>Zat w (rows.drop x.1) x.2.2.1 (x.2.1.drop x.1))),(1002,.set x.2.2.2 (fun w=>Zat w (Zan k (rows.take x.1)) x.2.2.2 (x.2.1.take x.1)))]) (fun x=>x.1<=rows.length∧x.2.1.length=rows.length) (fun x=>rows.length - x.1) ((0,uss,E1,fun _=>False)) (⟨Nat.zero_le _,hl⟩) (fun x hx=>?_);clear F)
  obtain ⟨i,us,E2,E3⟩:=x
  obtain ⟨hi,hn⟩:=hx
  simp only at hi hn
  dsimp only
  by_cases hlt:i < rows.length
  ·obtain ⟨r,hr⟩:∃ r,rows[i]?=some r:=⟨_,List.getElem?_eq_getElem hlt⟩
   obtain ⟨u,hu⟩:∃ u,us[i]?=some u:=⟨_,List.getElem?_eq_getElem om⟩
   obtain ⟨i0,i1,rfl,g0,g1⟩:=ZfT (hok.get hr)
   have hc1:cntRows (rows.take (i+1))=cntRows (rows.take i)+(2):=by
    rw [Zce hr,Zdl];simp only [ZcC,cntC];try omega
   have hc2:=Zcg rows (i+1)
   rw [Zcj hr,Zcj hu]
   refine pEx [1001] [1001] (Zfv rfl) ?_
   rintro ⟨⟩ hlit
   obtain rfl:u=[.int .i64 i0,.int .i64 i1]:=by
    match u,hlit with
    | [_,_],⟨rfl,rfl,_⟩=>rfl
   refine pEx (f:=fun (x:(Nat->Prop) × (Nat->Nat->Prop))=>[.set x.1 (fun w=>Zat w (rows.drop (i+1)) x.1 (us.drop (i+1)))]) [1001] [1001] (Zg1 rfl) ?_
   rintro ⟨E4,Es⟩ -
   dsimp only
   have hkk0:0<=k+(cntRows (rows.take i):Int):=by omega
   have hkk1:k+(cntRows (rows.take i):Int)+((2:Nat):Int)<=1000000000:=by omega
   generalize hkk:k+(cntRows (rows.take i):Int)=kk at hkk0 hkk1 ⊢
   have q1:((i:Int) < (rows.length:Int))=True:=eq_true om
   have q2:i < rows.length:=hlt
   have hs:∀ X:List C,((us.map Zap).set i X)[i]?=some X:=fun X=>Zgx (by rw [ZaG,hn];omega) X
   have lr:Zap [.int .i64 i0,.int .i64 i1]=[.lit (.int .i64 i0),.lit (.int .i64 i1)]:=rfl
   have w0:IntKind.i64.wrap (kk+1)=kk+1:=IntWalk.i64_in _ om
   have w1:IntKind.i64.wrap (kk+1+1)=kk+1+1:=IntWalk.i64_in _ om
   have wi:IntKind.i64.wrap ((i:Int)+1)=(i:Int)+1:=IntWalk.i64_in _ om
   (have F:=ai @q1 (ai @hl (ai @hn (ai @hu (ai @lr (ai @ZaG (ai @ZaY (ai @hs (ai @w0 (ai @w1 (ai @q2 @Za2))))))))));have NN:Zah 3:=trivial;refine gGn ?_;clear F NN)
   obtain ⟨E6,hre⟩:∃ E6,ZbG [.set E3 (fun w=>Zat w (Zan k (rows.take i)) E3 (us.take i))] [.set E6 (fun w=>Zat w (Zan k (rows.take (i+1))) E6 ((us.set i [.int .i64 (kk),.int .i64 (kk+1)]).take (i+1)))]:=by
    have hz:=Zg2 (E:=E3) (done:=Zan k (rows.take i)) (ud:=us.take i) (cs:=[.lit (.int .i64 (kk)),.lit (.int .i64 (kk+1))]) (us:=[.int .i64 (kk),.int .i64 (kk+1)]) (Es:=fun _ _=>False) rfl ⟨rfl,rfl,trivial⟩
    rw [Zce hr,ZcY,hkk,ZeQ om]
    simp only [ZcU,mkC,mkV,cntC,Int.natCast_one]
    exact ⟨_,hz⟩
   refine pE [1002] [1002] hre ?_
   have e1:((us.set i [.int .i64 (kk),.int .i64 (kk+1)]).map Zap)=(us.map Zap).set i [.lit (.int .i64 (kk)),.lit (.int .i64 (kk+1))]:=by rw [List.map_set];rfl
   have e2:=ZeR us i [.int .i64 (kk),.int .i64 (kk+1)]
   have e5:k+(cntRows (rows.take (i+1)):Int)=kk+1+1:=by rw [hc1];omega
   have hn2:(us.set i [.int .i64 (kk),.int .i64 (kk+1)]).length=rows.length:=by rw [ZaY,hn]
   generalize us.set i [.int .i64 (kk),.int .i64 (kk+1)]=us2 at e1 e2 hn2 ⊢
   rw [<- e1,<- e2]
   (have F:=ai @wi (ai @e5 (ai @hl (ai @w0 (ai @w1 @hn))));refine gG ?_;exact ⟨(i+1,us2,E4,E6),⟨hlt,hn2⟩,gw,gw,by omega⟩)
  ·obtain rfl:i=rows.length:=by omega
   have q1:((rows.length:Int) < (rows.length:Int))=False:=eq_false om
   rw [List.take_length,List.take_of_length_le (Nat.le_of_eq hn)]
   (have F:=ai @q1 (ai @hl @hn);refine gG ?_;clear F)
   obtain ⟨E6,hre⟩:∃ E6,ZbG [.buf (some (a,cap)) ety 2 (us.map Zap),.set E3 (fun w=>Zat w (Zan k rows) E3 us)] [.set E6 (fun w=>Own w (.sl (Zan k rows)) E6 (.slice a uss.length cap))]:=by
    rw [hl,<- hn]
    exact ⟨_,Zdk (fun w h=>h) (Own.stable _ _ _)⟩
   refine pE [1000,1002] [1000] hre ?_
   have F:=hk
   exact gTP (R:=fun r pm=>∃ E',r=[.one (.lit (.int .i64 (k+(cntRows rows:Nat))))]∧pm=[.set E' (fun w=>Own w (.sl (Zan k rows)) E' (.slice a uss.length cap))]) [1000] ⟨E6,rfl,rfl⟩
theorem Zqz {rows:List (List C)} (hok:Zam (Zab .sub) rows):Zdt 124 rows:=Zqy hok
set_option maxRecDepth 100000 in
theorem Zos {row:List C} (hok:Zao (Zbh) row):ZEb 68 row:=by
 obtain ⟨r0,r1,rfl,g0,g1⟩:=ZfC hok
 intro kk E us hl hc hk hb
 obtain ⟨u0,u1,rfl⟩:=len2 hl
 have kc:Zaw (.lit u0)=true∧Zaw (.lit u1)=true:=by simpa [Zap,Bool.and_eq_true,and_assoc] using hc
 obtain ⟨k0,k1⟩:=kc
 simp only [cntTop,Nat.add_zero] at hb ⊢
 have lr:Zap [u0,u1]=[.lit u0,.lit u1]:=rfl
 rw [lr]
 refine gIP (ts:=[.slot 4]) [1000] 23 Tryz.func68 ?_
 refine pEx (f:=fun (x:Nat->Nat->Prop)=>[.set (x 0) (fun w=>Own w (.sl r0) (x 0) u0),.set (x 1) (fun w=>Own w (.sl r1) (x 1) u1)]) [1000] [1003,1004] (Zk8 rfl) ?_
 rintro Es -
 try dsimp only
 (have F:=ai @lr (ai @k0 @k1);refine gG ?_;clear F)
 refine gB ?_
 (have F:=ai @lr (ai @k0 @k1);refine gCP [1003] [1003] (Zmv g0 (kk) (Es 0) u0 om om) ?_;clear F)
 rintro r pm ⟨F0,rfl,rfl⟩
 simp only [setA,retA,zipM,List.cons_append,List.nil_append]
 (have F:=ai @lr (ai @k0 @k1);refine gR ?_;clear F)
 (have F:=ai @lr (ai @k0 @k1);refine gG ?_;clear F)
 refine gB ?_
 (have F:=ai @lr (ai @k0 @k1);refine gCP [1004] [1004] (Zqz g1 (kk+(cntRows r0:Int)) (Es 1) u1 om om) ?_;clear F)
 rintro r pm ⟨F1,rfl,rfl⟩
 simp only [setA,retA,zipM,List.cons_append,List.nil_append]
 (have F:=ai @lr (ai @k0 @k1);refine gR ?_;clear F)
 (have F:=ai @lr (ai @k0 @k1);refine gG ?_;clear F)
 obtain ⟨E6,hre⟩:∃ E6,ZbG [.set F0 (fun w=>Own w (.sl (Zan (kk) r0)) F0 u0),.set F1 (fun w=>Own w (.sl (Zan (kk+(cntRows r0:Int)) r1)) F1 u1)] [.set E6 (fun w=>Zad w [.sl (Zan (kk) r0),.sl (Zan (kk+(cntRows r0:Int)) r1)] E6 [u0,u1])]:=⟨_,Zk9 (cs:=[.sl (Zan (kk) r0),.sl (Zan (kk+(cntRows r0:Int)) r1)]) (us:=[u0,u1]) (Es:=fun k=>match k with | 0=>F0 | _=>F1) rfl trivial⟩
 refine pE [1003,1004] [1000] hre ?_
 have F:=hk
 have ee:kk+(cntRows r0:Int)+(cntRows r1:Int)=kk+((cntRows r0+(cntRows r1):Nat):Int):=by omega
 rw [ee]
 exact gTP (R:=fun r pm=>∃ E',r=[.one (.lit (.int .i64 (kk+((cntRows r0+(cntRows r1):Nat):Int))))]∧pm=[.set E' (fun w=>Zad w (Zhl kk [.sl r0,.sl r1]) E' [u0,u1])]) [1000] ⟨E6,rfl,by simp only [Zhl];rfl⟩
theorem Zuc (u0:Value):Zap [u0]=[.lit u0]:=rfl
set_option maxRecDepth 100000 in
theorem ZzE {rows:List (List C)} (hok:Zam (Zab .int) rows):Zdt 186 rows:=by
 intro k E v hk hb
 refine gIP (ts:=[.slot 4]) [1000] 563 Tryz.func186 ?_
 (have F:=@e0P;refine gG ?_;clear F)
 by_cases hne:rows=[]
 ·subst hne
  refine pEx [1000] [1000] Zg0 ?_
  rintro ⟨a,cap⟩ rfl
  (have F:=@hk;refine gL (ι:=Unit) [1,5,9] [] (fun x=>[(5,.d (.one (.lit (.int .i64 0)))),(1,.d (.one (.lit (.int .i64 k))))]) (fun x=>[]) (fun x=>True) (fun x=>0) (()) (trivial) (fun x hx=>?_);clear F)
  have q1:((0:Int) < 0)=False:=eq_false (by decide)
  have q2:((0:Int) < ((0:Nat):Int))=False:=eq_false (by decide)
  (have F:=ai @q1 @q2;refine gG ?_;clear F)
  have F:=hk
  refine gTP (R:=fun r pm=>∃ E',r=[.one (.lit (.int .i64 (k+(cntRows []:Nat))))]∧pm=[.set E' (fun w=>Own w (.sl (Zan k [])) E' (.slice a 0 cap))]) [1000] ⟨E,by simp only [cntRows,Int.natCast_zero,Int.add_zero];rfl,by simp only [Zan];rfl⟩
 ·have hrl:rowsLen 1 rows:=Zam.rowsLen hok
  refine pEx [1000] [1000,1001] (Zfu hne hrl) ?_
  rintro ⟨a,cap,ety,uss,E1⟩ ⟨rfl,hl,hmx⟩
  simp only at hl ⊢
  unfold maxLen at hmx
  refine pE [] [1002] ZcI ?_
  (have F:=ai @ZcV (ai @Zen (ai @Int.add_zero @Int.natCast_zero));refine gL (ι:=Nat × List (List Value) × (Nat->Prop) × (Nat->Prop)) [1,5,9] [1000,1001,1002] (fun x=>[(5,.d (.one (.lit (.int .i64 (x.1:Int))))),(1,.d (.one (.lit (.int .i64 (k+(cntRows (rows.take x.1):Nat))))))]) (fun x=>[(1000,.buf (some (a,cap)) ety 1 (x.2.1.map Zap)),(1001,.set x.2.2.1 (fun w=>Zat w (rows.drop x.1) x.2.2.1 (x.2.1.drop x.1))),(1002,.set x.2.2.2 (fun w=>Zat w (Zan k (rows.take x.1)) x.2.2.2 (x.2.1.take x.1)))]) (fun x=>x.1<=rows.length∧x.2.1.length=rows.length) (fun x=>rows.length - x.1) ((0,uss,E1,fun _=>False)) (⟨Nat.zero_le _,hl⟩) (fun x hx=>?_);clear F)
  obtain ⟨i,us,E2,E3⟩:=x
  obtain ⟨hi,hn⟩:=hx
  simp only at hi hn
  dsimp only
  by_cases hlt:i < rows.length
  ·obtain ⟨r,hr⟩:∃ r,rows[i]?=some r:=⟨_,List.getElem?_eq_getElem hlt⟩
   obtain ⟨u,hu⟩:∃ u,us[i]?=some u:=⟨_,List.getElem?_eq_getElem om⟩
   obtain ⟨i0,rfl,_⟩:=ZfU (hok.get hr)
   have hc1:cntRows (rows.take (i+1))=cntRows (rows.take i)+1:=by
    rw [Zce hr,Zdl];simp only [ZcC,cntC]
   have hc2:=Zcg rows (i+1)
   rw [Zcj hr,Zcj hu]
   refine pEx [1001] [1001] (Zfv rfl) ?_
   rintro ⟨⟩ hlit
   obtain rfl:u=[.int .i64 i0]:=by
    match u,hlit with
    | [_],⟨rfl,_⟩=>rfl
   refine pEx (f:=fun (x:(Nat->Prop) × (Nat->Nat->Prop))=>[.set x.1 (fun w=>Zat w (rows.drop (i+1)) x.1 (us.drop (i+1)))]) [1001] [1001] (Zg1 rfl) ?_
   rintro ⟨E4,Es⟩ -
   dsimp only
   generalize hkk:k+(cntRows (rows.take i):Int)=kk
   have q1:((i:Int) < (rows.length:Int))=True:=eq_true om
   have q2:i < rows.length:=hlt
   have w1:IntKind.i64.wrap (kk+1)=kk+1:=IntWalk.i64_in _ om
   have w4:IntKind.i64.wrap ((i:Int)+1)=(i:Int)+1:=IntWalk.i64_in _ om
   (have F:=ai @q1 (ai @hl (ai @hn (ai @hu (ai @Zuc (ai @ZaG (ai @ZaY (ai @w1 @q2)))))));have NN:Zah 3:=trivial;refine gGn ?_;clear F NN)
   obtain ⟨E6,hre⟩:∃ E6,ZbG [.set E3 (fun w=>Zat w (Zan k (rows.take i)) E3 (us.take i))] [.set E6 (fun w=>Zat w (Zan k (rows.take (i+1))) E6 ((us.set i [.int .i64 kk]).take (i+1)))]:=by
    have hz:=Zg2 (E:=E3) (done:=Zan k (rows.take i)) (ud:=us.take i) (cs:=[.lit (.int .i64 kk)]) (us:=[.int .i64 kk]) (Es:=fun _ _=>False) rfl ⟨rfl,trivial⟩
    rw [Zce hr,ZcY,hkk,ZeQ om]
    simp only [ZcU,mkC,mkV]
    exact ⟨_,hz⟩
   refine pE [1002] [1002] hre ?_
   have e1:((us.set i [.int .i64 kk]).map Zap)=(us.map Zap).set i [.lit (.int .i64 kk)]:=by rw [List.map_set,Zuc]
   have e2:=ZeR us i [.int .i64 kk]
   have e5:k+(cntRows (rows.take (i+1)):Int)=kk+1:=by rw [hc1];omega
   have hn2:(us.set i [.int .i64 kk]).length=rows.length:=by rw [ZaY,hn]
   generalize us.set i [.int .i64 kk]=us2 at e1 e2 hn2 ⊢
   rw [<- e1,<- e2]
   (have F:=ai @w4 (ai @e5 @hl);refine gG ?_;exact ⟨(i+1,us2,E4,E6),⟨hlt,hn2⟩,gw,gw,by omega⟩)
  ·obtain rfl:i=rows.length:=by omega
   have q1:((rows.length:Int) < (rows.length:Int))=False:=eq_false om
   rw [List.take_length,List.take_of_length_le (Nat.le_of_eq hn)]
   (have F:=ai @q1 (ai @hl @hn);refine gG ?_;clear F)
   obtain ⟨E6,hre⟩:∃ E6,ZbG [.buf (some (a,cap)) ety 1 (us.map Zap),.set E3 (fun w=>Zat w (Zan k rows) E3 us)] [.set E6 (fun w=>Own w (.sl (Zan k rows)) E6 (.slice a uss.length cap))]:=by
    rw [hl,<- hn]
    exact ⟨_,Zdk (fun w h=>h) (Own.stable _ _ _)⟩
   refine pE [1000,1002] [1000] hre ?_
   have F:=hk
   exact gTP (R:=fun r pm=>∃ E',r=[.one (.lit (.int .i64 (k+(cntRows rows:Nat))))]∧pm=[.set E' (fun w=>Own w (.sl (Zan k rows)) E' (.slice a uss.length cap))]) [1000] ⟨E6,rfl,rfl⟩
theorem ZqA {rows:List (List C)} (hok:Zam (Zab .int) rows):Zdt 186 rows:=ZzE hok
set_option maxRecDepth 100000 in
theorem Zot {rows:List (List C)} (hok:Zam (Zab .decl) rows):Zdt 125 rows:=by
 intro k E v hk hb
 refine gIP (ts:=[.slot 4]) [1000] 563 Tryz.func125 ?_
 (have F:=@e0P;refine gG ?_;clear F)
 by_cases hne:rows=[]
 ·subst hne
  refine pEx [1000] [1000] Zg0 ?_
  rintro ⟨a,cap⟩ rfl
  (have F:=@hk;refine gL (ι:=Unit) [1,5,9] [] (fun x=>[(5,.d (.one (.lit (.int .i64 0)))),(1,.d (.one (.lit (.int .i64 k))))]) (fun x=>[]) (fun x=>True) (fun x=>0) (()) (trivial) (fun x hx=>?_);clear F)
  have q1:((0:Int) < 0)=False:=eq_false (by decide)
  have q2:((0:Int) < ((0:Nat):Int))=False:=eq_false (by decide)
  (have F:=ai @q1 @q2;refine gG ?_;clear F)
  have F:=hk
  refine gTP (R:=fun r pm=>∃ E',r=[.one (.lit (.int .i64 (k+(cntRows []:Nat))))]∧pm=[.set E' (fun w=>Own w (.sl (Zan k [])) E' (.slice a 0 cap))]) [1000] ⟨E,by simp only [cntRows,Int.natCast_zero,Int.add_zero];rfl,by simp only [Zan];rfl⟩
 ·have hrl:rowsLen 2 rows:=Zam.rowsLen hok
  refine pEx [1000] [1000,1001] (Zfu hne hrl) ?_
  rintro ⟨a,cap,ety,uss,E1⟩ ⟨rfl,hl,hmx⟩
  simp only at hl ⊢
  unfold maxLen at hmx
  refine pE [] [1002] ZcI ?_
  (have F:=ai @ZcV (ai @Zen (ai @Int.add_zero @Int.natCast_zero));refine gL (ι:=Nat × List (List Value) × (Nat->Prop) × (Nat->Prop)) [1,5,9] [1000,1001,1002] (fun x=>[(5,.d (.one (.lit (.int .i64 (x.1:Int))))),(1,.d (.one (.lit (.int .i64 (k+(cntRows (rows.take x.1):Nat))))))]) (fun x=>[(1000,.buf (some (a,cap)) ety 2 (x.2.1.map Zap)),(1001,.set x.2.2.1 (fun w=>Zat w (rows.drop x.1) x.2.2.1 (x.2.1.drop x.1))),(1002,.set x.2.2.2 (fun w=>Zat w (Zan k (rows.take x.1)) x.2.2.2 (x.2.1.take x.1)))]) (fun x=>x.1<=rows.length∧x.2.1.length=rows.length) (fun x=>rows.length - x.1) ((0,uss,E1,fun _=>False)) (⟨Nat.zero_le _,hl⟩) (fun x hx=>?_);clear F)
  obtain ⟨i,us,E2,E3⟩:=x
  obtain ⟨hi,hn⟩:=hx
  simp only at hi hn
  dsimp only
  by_cases hlt:i < rows.length
  ·obtain ⟨r,hr⟩:∃ r,rows[i]?=some r:=⟨_,List.getElem?_eq_getElem hlt⟩
   obtain ⟨u,hu⟩:∃ u,us[i]?=some u:=⟨_,List.getElem?_eq_getElem om⟩
   obtain ⟨r0,i1,rfl,g0,g1⟩:=Zfa (hok.get hr)
   have hm0:=ZqA g0
   have hc1:cntRows (rows.take (i+1))=cntRows (rows.take i)+(1+cntRows r0):=by
    rw [Zce hr,Zdl];simp only [ZcC,cntC];try omega
   have hc2:=Zcg rows (i+1)
   rw [Zcj hr,Zcj hu]
   refine pEx [1001] [1001] (Zfv rfl) ?_
   rintro ⟨⟩ hlit
   obtain ⟨u0,rfl⟩:∃ u0,u=[u0,.int .i64 i1]:=by
    match u,hlit with
    | [u0,_],⟨rfl,_⟩=>exact ⟨u0,rfl⟩
   refine pEx (f:=fun (x:(Nat->Prop) × (Nat->Nat->Prop))=>[.set x.1 (fun w=>Zat w (rows.drop (i+1)) x.1 (us.drop (i+1))),.set (x.2 0) (fun w=>Own w (.sl r0) (x.2 0) u0)]) [1001] [1001,1003] (Zg1 rfl) ?_
   rintro ⟨E4,Es⟩ -
   dsimp only
   have hkk0:0<=k+(cntRows (rows.take i):Int):=by omega
   have hkk1:k+(cntRows (rows.take i):Int)+((1+cntRows r0:Nat):Int)<=1000000000:=by omega
   generalize hkk:k+(cntRows (rows.take i):Int)=kk at hkk0 hkk1 ⊢
   have q1:((i:Int) < (rows.length:Int))=True:=eq_true om
   have q2:i < rows.length:=hlt
   have hs:∀ X:List C,((us.map Zap).set i X)[i]?=some X:=fun X=>Zgx (by rw [ZaG,hn];omega) X
   have lr:Zap [u0,.int .i64 i1]=[.lit (u0),.lit (.int .i64 i1)]:=rfl
   have w1:IntKind.i64.wrap (kk+(cntRows r0:Int)+1)=kk+(cntRows r0:Int)+1:=IntWalk.i64_in _ om
   have wi:IntKind.i64.wrap ((i:Int)+1)=(i:Int)+1:=IntWalk.i64_in _ om
   (have F:=ai @q1 (ai @hl (ai @hn (ai @hu (ai @lr (ai @ZaG (ai @ZaY (ai @hs (ai @w1 (ai @q2 @Za2)))))))));refine gG ?_;clear F)
   refine gB ?_
   (have F:=ai @q1 (ai @hl (ai @hn (ai @hu (ai @lr (ai @ZaG (ai @ZaY (ai @hs (ai @w1 (ai @q2 @Za2)))))))));refine gCP [1003] [1003] (hm0 (kk) (Es 0) u0 om om) ?_;clear F)
   rintro r pm ⟨F0,rfl,rfl⟩
   simp only [setA,retA,zipM,List.cons_append,List.nil_append]
   (have F:=ai @q1 (ai @hl (ai @hn (ai @hu (ai @lr (ai @ZaG (ai @ZaY (ai @hs (ai @w1 (ai @q2 @Za2)))))))));refine gR ?_;clear F)
   (have F:=ai @q1 (ai @hl (ai @hn (ai @hu (ai @lr (ai @ZaG (ai @ZaY (ai @hs (ai @w1 (ai @q2 @Za2)))))))));have NN:Zah 3:=trivial;refine gGn ?_;clear F NN)
   obtain ⟨E6,hre⟩:∃ E6,ZbG [.set E3 (fun w=>Zat w (Zan k (rows.take i)) E3 (us.take i)),.set F0 (fun w=>Own w (.sl (Zan (kk) r0)) F0 u0)] [.set E6 (fun w=>Zat w (Zan k (rows.take (i+1))) E6 ((us.set i [u0,.int .i64 (kk+(cntRows r0:Int))]).take (i+1)))]:=by
    have hz:=Zg2 (E:=E3) (done:=Zan k (rows.take i)) (ud:=us.take i) (cs:=[.sl (Zan (kk) r0),.lit (.int .i64 (kk+(cntRows r0:Int)))]) (us:=[u0,.int .i64 (kk+(cntRows r0:Int))]) (Es:=fun _=>F0) rfl ⟨rfl,trivial⟩
    rw [Zce hr,ZcY,hkk,ZeQ om]
    simp only [ZcU,mkC,mkV,cntC,Int.natCast_one]
    exact ⟨_,hz⟩
   refine pE [1002,1003] [1002] hre ?_
   have e1:((us.set i [u0,.int .i64 (kk+(cntRows r0:Int))]).map Zap)=(us.map Zap).set i [.lit (u0),.lit (.int .i64 (kk+(cntRows r0:Int)))]:=by rw [List.map_set];rfl
   have e2:=ZeR us i [u0,.int .i64 (kk+(cntRows r0:Int))]
   have e5:k+(cntRows (rows.take (i+1)):Int)=kk+(cntRows r0:Int)+1:=by rw [hc1];omega
   have hn2:(us.set i [u0,.int .i64 (kk+(cntRows r0:Int))]).length=rows.length:=by rw [ZaY,hn]
   generalize us.set i [u0,.int .i64 (kk+(cntRows r0:Int))]=us2 at e1 e2 hn2 ⊢
   rw [<- e1,<- e2]
   (have F:=ai @wi (ai @e5 (ai @hl (ai @w1 @hn)));refine gG ?_;exact ⟨(i+1,us2,E4,E6),⟨hlt,hn2⟩,gw,gw,by omega⟩)
  ·obtain rfl:i=rows.length:=by omega
   have q1:((rows.length:Int) < (rows.length:Int))=False:=eq_false om
   rw [List.take_length,List.take_of_length_le (Nat.le_of_eq hn)]
   (have F:=ai @q1 (ai @hl @hn);refine gG ?_;clear F)
   obtain ⟨E6,hre⟩:∃ E6,ZbG [.buf (some (a,cap)) ety 2 (us.map Zap),.set E3 (fun w=>Zat w (Zan k rows) E3 us)] [.set E6 (fun w=>Own w (.sl (Zan k rows)) E6 (.slice a uss.length cap))]:=by
    rw [hl,<- hn]
    exact ⟨_,Zdk (fun w h=>h) (Own.stable _ _ _)⟩
   refine pE [1000,1002] [1000] hre ?_
   have F:=hk
   exact gTP (R:=fun r pm=>∃ E',r=[.one (.lit (.int .i64 (k+(cntRows rows:Nat))))]∧pm=[.set E' (fun w=>Own w (.sl (Zan k rows)) E' (.slice a uss.length cap))]) [1000] ⟨E6,rfl,rfl⟩
theorem Zou {rows:List (List C)} (hok:Zam (Zab .decl) rows):Zdt 125 rows:=Zot hok
theorem Zud {k:Int} (h:0<=k):decide (k.tmod 3=0)=(k % 3==0):=by rw [Int.tmod_eq_emod_of_nonneg h,Bool.eq_iff_iff];simp
set_option maxRecDepth 100000 in
theorem ZrD {rows:List (List C)} (hok:Zam (Zab .op) rows):Zdt 69 rows:=by
 intro k E v hk hb
 refine gIP (ts:=[.slot 4]) [1000] 563 Tryz.func69 ?_
 (have F:=@e0P;refine gG ?_;clear F)
 by_cases hne:rows=[]
 ·subst hne
  refine pEx [1000] [1000] Zg0 ?_
  rintro ⟨a,cap⟩ rfl
  (have F:=@hk;refine gL (ι:=Unit) [1,5,9] [] (fun x=>[(5,.d (.one (.lit (.int .i64 0)))),(1,.d (.one (.lit (.int .i64 k))))]) (fun x=>[]) (fun x=>True) (fun x=>0) (()) (trivial) (fun x hx=>?_);clear F)
  have q1:((0:Int) < 0)=False:=eq_false (by decide)
  have q2:((0:Int) < ((0:Nat):Int))=False:=eq_false (by decide)
  (have F:=ai @q1 @q2;refine gG ?_;clear F)
  have F:=hk
  refine gTP (R:=fun r pm=>∃ E',r=[.one (.lit (.int .i64 (k+(cntRows []:Nat))))]∧pm=[.set E' (fun w=>Own w (.sl (Zan k [])) E' (.slice a 0 cap))]) [1000] ⟨E,by simp only [cntRows,Int.natCast_zero,Int.add_zero];rfl,by simp only [Zan];rfl⟩
 ·have hrl:rowsLen 5 rows:=Zam.rowsLen hok
  refine pEx [1000] [1000,1001] (Zfu hne hrl) ?_
  rintro ⟨a,cap,ety,uss,E1⟩ ⟨rfl,hl,hmx⟩
  simp only at hl ⊢
  unfold maxLen at hmx
  refine pE [] [1002] ZcI ?_
  (have F:=ai @ZcV (ai @Zen (ai @Int.add_zero @Int.natCast_zero));refine gL (ι:=Nat × List (List Value) × (Nat->Prop) × (Nat->Prop)) [1,5,9] [1000,1001,1002] (fun x=>[(5,.d (.one (.lit (.int .i64 (x.1:Int))))),(1,.d (.one (.lit (.int .i64 (k+(cntRows (rows.take x.1):Nat))))))]) (fun x=>[(1000,.buf (some (a,cap)) ety 5 (x.2.1.map Zap)),(1001,.set x.2.2.1 (fun w=>Zat w (rows.drop x.1) x.2.2.1 (x.2.1.drop x.1))),(1002,.set x.2.2.2 (fun w=>Zat w (Zan k (rows.take x.1)) x.2.2.2 (x.2.1.take x.1)))]) (fun x=>x.1<=rows.length∧x.2.1.length=rows.length) (fun x=>rows.length - x.1) ((0,uss,E1,fun _=>False)) (⟨Nat.zero_le _,hl⟩) (fun x hx=>?_);clear F)
  obtain ⟨i,us,E2,E3⟩:=x
  obtain ⟨hi,hn⟩:=hx
  simp only at hi hn
  dsimp only
  by_cases hlt:i < rows.length
  ·obtain ⟨r,hr⟩:∃ r,rows[i]?=some r:=⟨_,List.getElem?_eq_getElem hlt⟩
   obtain ⟨u,hu⟩:∃ u,us[i]?=some u:=⟨_,List.getElem?_eq_getElem om⟩
   obtain ⟨t0,r1,p2,p3,i4,rfl,g0,g1,g2,g3,g4⟩:=ZgI (hok.get hr)
   have hm1:=Zou g1
   have hc1:cntRows (rows.take (i+1))=cntRows (rows.take i)+(4+cntRows r1):=by
    rw [Zce hr,Zdl];simp only [ZcC,cntC];try omega
   have hc2:=Zcg rows (i+1)
   rw [Zcj hr,Zcj hu]
   refine pEx [1001] [1001] (Zfv rfl) ?_
   rintro ⟨⟩ hlit
   obtain ⟨u1,rfl⟩:∃ u1,u=[.string t0,u1,.bool p2,.bool p3,.int .i64 i4]:=by
    match u,hlit with
    | [_,u1,_,_,_],⟨rfl,rfl,rfl,rfl,_⟩=>exact ⟨u1,rfl⟩
   refine pEx (f:=fun (x:(Nat->Prop) × (Nat->Nat->Prop))=>[.set x.1 (fun w=>Zat w (rows.drop (i+1)) x.1 (us.drop (i+1))),.set (x.2 0) (fun w=>Own w (.sl r1) (x.2 0) u1)]) [1001] [1001,1003] (Zg1 rfl) ?_
   rintro ⟨E4,Es⟩ -
   dsimp only
   have hkk0:0<=k+(cntRows (rows.take i):Int):=by omega
   have hkk1:k+(cntRows (rows.take i):Int)+((4+cntRows r1:Nat):Int)<=1000000000:=by omega
   generalize hkk:k+(cntRows (rows.take i):Int)=kk at hkk0 hkk1 ⊢
   have q1:((i:Int) < (rows.length:Int))=True:=eq_true om
   have q2:i < rows.length:=hlt
   have hs:∀ X:List C,((us.map Zap).set i X)[i]?=some X:=fun X=>Zgx (by rw [ZaG,hn];omega) X
   have lr:Zap [.string t0,u1,.bool p2,.bool p3,.int .i64 i4]=[.lit (.string t0),.lit (u1),.lit (.bool p2),.lit (.bool p3),.lit (.int .i64 i4)]:=rfl
   have w0:IntKind.i64.wrap (kk+1)=kk+1:=IntWalk.i64_in _ om
   have w2:IntKind.i64.wrap (kk+1+(cntRows r1:Int)+1)=kk+1+(cntRows r1:Int)+1:=IntWalk.i64_in _ om
   have b2:decide (((kk+1+(cntRows r1:Int)).tmod 3)=0)=((kk+1+(cntRows r1:Int)) % 3==0):=Zud om
   have w3:IntKind.i64.wrap (kk+1+(cntRows r1:Int)+1+1)=kk+1+(cntRows r1:Int)+1+1:=IntWalk.i64_in _ om
   have b3:decide (((kk+1+(cntRows r1:Int)+1).tmod 3)=0)=((kk+1+(cntRows r1:Int)+1) % 3==0):=Zud om
   have w4:IntKind.i64.wrap (kk+1+(cntRows r1:Int)+1+1+1)=kk+1+(cntRows r1:Int)+1+1+1:=IntWalk.i64_in _ om
   have wi:IntKind.i64.wrap ((i:Int)+1)=(i:Int)+1:=IntWalk.i64_in _ om
   (have F:=ai @q1 (ai @hl (ai @hn (ai @hu (ai @lr (ai @ZaG (ai @ZaY (ai @hs (ai @w0 (ai @w2 (ai @b2 (ai @w3 (ai @b3 (ai @w4 (ai @q2 @Za2))))))))))))));refine gG ?_;clear F)
   refine gB ?_
   (have F:=ai @q1 (ai @hl (ai @hn (ai @hu (ai @lr (ai @ZaG (ai @ZaY (ai @hs (ai @w0 (ai @w2 (ai @b2 (ai @w3 (ai @b3 (ai @w4 (ai @q2 @Za2))))))))))))));refine gC (ZcB (kk) om om) ?_;clear F)
   (have F:=ai @q1 (ai @hl (ai @hn (ai @hu (ai @lr (ai @ZaG (ai @ZaY (ai @hs (ai @w0 (ai @w2 (ai @b2 (ai @w3 (ai @b3 (ai @w4 (ai @q2 @Za2))))))))))))));refine gR ?_;clear F)
   (have F:=ai @q1 (ai @hl (ai @hn (ai @hu (ai @lr (ai @ZaG (ai @ZaY (ai @hs (ai @w0 (ai @w2 (ai @b2 (ai @w3 (ai @b3 (ai @w4 (ai @q2 @Za2))))))))))))));refine gG ?_;clear F)
   refine gB ?_
   (have F:=ai @q1 (ai @hl (ai @hn (ai @hu (ai @lr (ai @ZaG (ai @ZaY (ai @hs (ai @w0 (ai @w2 (ai @b2 (ai @w3 (ai @b3 (ai @w4 (ai @q2 @Za2))))))))))))));refine gCP [1003] [1003] (hm1 (kk+1) (Es 0) u1 om om) ?_;clear F)
   rintro r pm ⟨F1,rfl,rfl⟩
   simp only [setA,retA,zipM,List.cons_append,List.nil_append]
   (have F:=ai @q1 (ai @hl (ai @hn (ai @hu (ai @lr (ai @ZaG (ai @ZaY (ai @hs (ai @w0 (ai @w2 (ai @b2 (ai @w3 (ai @b3 (ai @w4 (ai @q2 @Za2))))))))))))));refine gR ?_;clear F)
   (have F:=ai @q1 (ai @hl (ai @hn (ai @hu (ai @lr (ai @ZaG (ai @ZaY (ai @hs (ai @w0 (ai @w2 (ai @b2 (ai @w3 (ai @b3 (ai @w4 (ai @q2 @Za2))))))))))))));have NN:Zah 3:=trivial;refine gGn ?_;clear F NN)
   obtain ⟨E6,hre⟩:∃ E6,ZbG [.set E3 (fun w=>Zat w (Zan k (rows.take i)) E3 (us.take i)),.set F1 (fun w=>Own w (.sl (Zan (kk+1) r1)) F1 u1)] [.set E6 (fun w=>Zat w (Zan k (rows.take (i+1))) E6 ((us.set i [.string (txt (kk)),u1,.bool ((kk+1+(cntRows r1:Int)) % 3==0),.bool ((kk+1+(cntRows r1:Int)+1) % 3==0),.int .i64 (kk+1+(cntRows r1:Int)+1+1)]).take (i+1)))]:=by
    have hz:=Zg2 (E:=E3) (done:=Zan k (rows.take i)) (ud:=us.take i) (cs:=[.lit (.string (txt (kk))),.sl (Zan (kk+1) r1),.lit (.bool ((kk+1+(cntRows r1:Int)) % 3==0)),.lit (.bool ((kk+1+(cntRows r1:Int)+1) % 3==0)),.lit (.int .i64 (kk+1+(cntRows r1:Int)+1+1))]) (us:=[.string (txt (kk)),u1,.bool ((kk+1+(cntRows r1:Int)) % 3==0),.bool ((kk+1+(cntRows r1:Int)+1) % 3==0),.int .i64 (kk+1+(cntRows r1:Int)+1+1)]) (Es:=fun _=>F1) rfl ⟨rfl,rfl,rfl,rfl,trivial⟩
    rw [Zce hr,ZcY,hkk,ZeQ om]
    simp only [ZcU,mkC,mkV,cntC,Int.natCast_one]
    exact ⟨_,hz⟩
   refine pE [1002,1003] [1002] hre ?_
   have e1:((us.set i [.string (txt (kk)),u1,.bool ((kk+1+(cntRows r1:Int)) % 3==0),.bool ((kk+1+(cntRows r1:Int)+1) % 3==0),.int .i64 (kk+1+(cntRows r1:Int)+1+1)]).map Zap)=(us.map Zap).set i [.lit (.string (txt (kk))),.lit (u1),.lit (.bool ((kk+1+(cntRows r1:Int)) % 3==0)),.lit (.bool ((kk+1+(cntRows r1:Int)+1) % 3==0)),.lit (.int .i64 (kk+1+(cntRows r1:Int)+1+1))]:=by rw [List.map_set];rfl
   have e2:=ZeR us i [.string (txt (kk)),u1,.bool ((kk+1+(cntRows r1:Int)) % 3==0),.bool ((kk+1+(cntRows r1:Int)+1) % 3==0),.int .i64 (kk+1+(cntRows r1:Int)+1+1)]
   have e5:k+(cntRows (rows.take (i+1)):Int)=kk+1+(cntRows r1:Int)+1+1+1:=by rw [hc1];omega
   have hn2:(us.set i [.string (txt (kk)),u1,.bool ((kk+1+(cntRows r1:Int)) % 3==0),.bool ((kk+1+(cntRows r1:Int)+1) % 3==0),.int .i64 (kk+1+(cntRows r1:Int)+1+1)]).length=rows.length:=by rw [ZaY,hn]
   generalize us.set i [.string (txt (kk)),u1,.bool ((kk+1+(cntRows r1:Int)) % 3==0),.bool ((kk+1+(cntRows r1:Int)+1) % 3==0),.int .i64 (kk+1+(cntRows r1:Int)+1+1)]=us2 at e1 e2 hn2 ⊢
   rw [<- e1,<- e2]
   (have F:=ai @wi (ai @e5 (ai @hl (ai @w0 (ai @w2 (ai @b2 (ai @w3 (ai @b3 (ai @w4 @hn))))))));refine gG ?_;exact ⟨(i+1,us2,E4,E6),⟨hlt,hn2⟩,gw,gw,by omega⟩)
  ·obtain rfl:i=rows.length:=by omega
   have q1:((rows.length:Int) < (rows.length:Int))=False:=eq_false om
   rw [List.take_length,List.take_of_length_le (Nat.le_of_eq hn)]
   (have F:=ai @q1 (ai @hl @hn);refine gG ?_;clear F)
   obtain ⟨E6,hre⟩:∃ E6,ZbG [.buf (some (a,cap)) ety 5 (us.map Zap),.set E3 (fun w=>Zat w (Zan k rows) E3 us)] [.set E6 (fun w=>Own w (.sl (Zan k rows)) E6 (.slice a uss.length cap))]:=by
    rw [hl,<- hn]
    exact ⟨_,Zdk (fun w h=>h) (Own.stable _ _ _)⟩
   refine pE [1000,1002] [1000] hre ?_
   have F:=hk
   exact gTP (R:=fun r pm=>∃ E',r=[.one (.lit (.int .i64 (k+(cntRows rows:Nat))))]∧pm=[.set E' (fun w=>Own w (.sl (Zan k rows)) E' (.slice a uss.length cap))]) [1000] ⟨E6,rfl,rfl⟩
theorem ZrE {rows:List (List C)} (hok:Zam (Zab .op) rows):Zdt 69 rows:=ZrD hok
set_option maxRecDepth 100000 in
theorem Zka {row:List C} (hok:Zao (sigF) row):ZEb 26 row:=by
 obtain ⟨r0,r1,r2,rfl,g0,g1,g2⟩:=Zdd hok
 intro kk E us hl hc hk hb
 obtain ⟨u0,u1,u2,rfl⟩:=len3 hl
 have kc:Zaw (.lit u0)=true∧Zaw (.lit u1)=true∧Zaw (.lit u2)=true:=by simpa [Zap,Bool.and_eq_true,and_assoc] using hc
 obtain ⟨k0,k1,k2⟩:=kc
 simp only [cntTop,Nat.add_zero] at hb ⊢
 have lr:Zap [u0,u1,u2]=[.lit u0,.lit u1,.lit u2]:=rfl
 rw [lr]
 refine gIP (ts:=[.slot 4]) [1000] 23 Tryz.func26 ?_
 refine pEx (f:=fun (x:Nat->Nat->Prop)=>[.set (x 0) (fun w=>Own w (.sl r0) (x 0) u0),.set (x 1) (fun w=>Own w (.sl r1) (x 1) u1),.set (x 2) (fun w=>Own w (.sl r2) (x 2) u2)]) [1000] [1003,1004,1005] (Zk8 rfl) ?_
 rintro Es -
 try dsimp only
 obtain ⟨G0,hre0⟩:∃ G,ZbG [.set (Es 0) (fun w=>Own w (.sl r0) (Es 0) u0),.set (Es 1) (fun w=>Own w (.sl r1) (Es 1) u1)] [.set G (fun w=>Zad w [.sl r0,.sl r1] G [u0,u1])]:=⟨_,Zk9 (cs:=[.sl r0,.sl r1]) (us:=[u0,u1]) (Es:=fun k=>Es (k+0)) rfl trivial⟩
 refine pE [1003,1004] [1003] hre0 ?_
 have lr0:Zap [u0,u1]=[.lit u0,.lit u1]:=rfl
 have hm0:=Zos (row:=[.sl r0,.sl r1]) (Zes g0 g1) (kk) G0 [u0,u1] rfl (by rw [lr0];simp only [List.all_cons,List.all_nil,k0,k1,Bool.and_self]) om (by simp only [cntTop];omega)
 rw [lr0] at hm0
 simp only [cntTop,Zhl,Nat.add_zero,Int.natCast_add,<- Int.add_assoc] at hm0
 (have F:=ai @lr (ai @k0 (ai @k1 @k2));refine gG ?_;clear F)
 refine gB ?_
 (have F:=ai @lr (ai @k0 (ai @k1 @k2));refine gCP [1003] [1003] (hm0) ?_;clear F)
 rintro r pm ⟨G0',rfl,rfl⟩
 simp only [setA,retA,zipM,List.cons_append,List.nil_append]
 (have F:=ai @lr (ai @k0 (ai @k1 @k2));refine gR ?_;clear F)
 refine pEx (f:=fun (x:Nat->Nat->Prop)=>[.set (x 0) (fun w=>Own w (.sl (Zan (kk) r0)) (x 0) u0),.set (x 1) (fun w=>Own w (.sl (Zan (kk+(cntRows r0:Int)) r1)) (x 1) u1)]) [1003] [1003,1004] (Zk8 (r:=[.sl (Zan (kk) r0),.sl (Zan (kk+(cntRows r0:Int)) r1)]) rfl) ?_
 rintro Fs0 -
 try dsimp only
 (have F:=ai @lr (ai @k0 (ai @k1 @k2));refine gG ?_;clear F)
 refine gB ?_
 (have F:=ai @lr (ai @k0 (ai @k1 @k2));refine gCP [1005] [1005] (ZrE g2 (kk+(cntRows r0:Int)+(cntRows r1:Int)) (Es 2) u2 om om) ?_;clear F)
 rintro r pm ⟨F2,rfl,rfl⟩
 simp only [setA,retA,zipM,List.cons_append,List.nil_append]
 (have F:=ai @lr (ai @k0 (ai @k1 @k2));refine gR ?_;clear F)
 (have F:=ai @lr (ai @k0 (ai @k1 @k2));refine gG ?_;clear F)
 obtain ⟨E6,hre⟩:∃ E6,ZbG [.set (Fs0 0) (fun w=>Own w (.sl (Zan (kk) r0)) (Fs0 0) u0),.set (Fs0 1) (fun w=>Own w (.sl (Zan (kk+(cntRows r0:Int)) r1)) (Fs0 1) u1),.set F2 (fun w=>Own w (.sl (Zan (kk+(cntRows r0:Int)+(cntRows r1:Int)) r2)) F2 u2)] [.set E6 (fun w=>Zad w [.sl (Zan (kk) r0),.sl (Zan (kk+(cntRows r0:Int)) r1),.sl (Zan (kk+(cntRows r0:Int)+(cntRows r1:Int)) r2)] E6 [u0,u1,u2])]:=⟨_,Zk9 (cs:=[.sl (Zan (kk) r0),.sl (Zan (kk+(cntRows r0:Int)) r1),.sl (Zan (kk+(cntRows r0:Int)+(cntRows r1:Int)) r2)]) (us:=[u0,u1,u2]) (Es:=fun k=>match k with | 0=>Fs0 0 | 1=>Fs0 1 | _=>F2) rfl trivial⟩
 refine pE [1003,1004,1005] [1000] hre ?_
 have F:=hk
 have ee:kk+(cntRows r0:Int)+(cntRows r1:Int)+(cntRows r2:Int)=kk+((cntRows r0+(cntRows r1+(cntRows r2)):Nat):Int):=by omega
 rw [ee]
 exact gTP (R:=fun r pm=>∃ E',r=[.one (.lit (.int .i64 (kk+((cntRows r0+(cntRows r1+(cntRows r2)):Nat):Int))))]∧pm=[.set E' (fun w=>Zad w (Zhl kk [.sl r0,.sl r1,.sl r2]) E' [u0,u1,u2])]) [1000] ⟨E6,rfl,by simp only [Zhl];rfl⟩
theorem Zf6 (t:TN):(Zab t).length<=16:=by cases t <;> decide
mutual
theorem ZE4:∀ (f:F) (c:C),okC f c->cntC c<=1+16 * ZbT c
 | f,.lit v,_=>by simp only [cntC];omega
 | .sl t,.sl rows,h=>by
  have:=Zeo (Zab t) rows (Zf6 t) (by simpa [okC] using h)
  simp only [cntC,ZbT]
  omega
 | .int,.sl _,h=>by simp [okC] at h
 | .str,.sl _,h=>by simp [okC] at h
 | .bool,.sl _,h=>by simp [okC] at h
 | f,.ptr _,_=>by simp [cntC]
 | f,.fn _ _,_=>by simp [cntC]
theorem Zeo:∀ (fs:List F) (rows:List (List C)),fs.length<=16->Zam fs rows->cntRows rows<=16 * (rows.length+Zac rows)
 | fs,[],_,_=>by simp [cntRows]
 | fs,r::rs,hl,h=>by
  simp only [Zam] at h
  have h1:=Zn3 fs r h.1
  have h2:=Zeo fs rs hl h.2
  simp only [cntRows,Zac,List.length_cons]
  omega
theorem Zn3:∀ (fs:List F) (cs:List C),Zao fs cs->ZcC cs<=fs.length+16 * bulkRow cs
 | [],[],_=>by simp [ZcC]
 | f::fs,c::cs,h=>by
  simp only [Zao] at h
  have h1:=ZE4 f c h.1
  have h2:=Zn3 fs cs h.2
  simp only [ZcC,bulkRow,List.length_cons]
  omega
 | [],_::_,h=>by simp [Zao] at h
 | _::_,[],h=>by simp [Zao] at h
end
theorem Zn4:∀ (fs:List F) (cs:List C),Zao fs cs->cntTop cs<=16 * bulkRow cs
 | [],[],_=>by simp [cntTop]
 | f::fs,c::cs,h=>by
  simp only [Zao] at h
  have h2:=Zn4 fs cs h.2
  cases c with
  | lit v=>simp only [cntTop,bulkRow];omega
  | sl rows =>
   cases f with
   | sl t =>
    have:=Zeo (Zab t) rows (Zf6 t) (by simpa [okC] using h.1)
    simp only [cntTop,bulkRow,ZbT]
    omega
   | _=>simp [okC] at h
  | ptr _=>simp only [cntTop,bulkRow];omega
  | fn _ _=>simp only [cntTop,bulkRow];omega
 | [],_::_,h=>by simp [Zao] at h
 | _::_,[],h=>by simp [Zao] at h
theorem ZAW {us:List Value} {n:Nat} (h:us.length=n):(Zap us).length=n∧(Zap us).take n=Zap us∧(Zap us).drop n=[]:=by
 have hl:(Zap us).length=n:=by unfold Zap;rw [List.length_map];exact h
 exact ⟨hl,List.take_of_length_le (Nat.le_of_eq hl),List.drop_of_length_le (Nat.le_of_eq hl)⟩
theorem Zmw {row:List C} (hok:Zao (sigF) row) {left:Int} (h0:0<=left) (h1:left<=1048576):Con e0 9 [.agg row,.one (.lit (.int .i64 left))] [.one (.lit (.int .i64 (sub left (bulkRow row))))]:=by
 refine Zd8 ZeI (by kernel_rfl) fun w S vs h=>?_
 match vs,h with
 | [v,u],h =>
  obtain ⟨⟨us,rfl,hu⟩,h2,_⟩:=h
  have h2:u=.int .i64 left:=by simpa [DRel,Rep] using h2
  subst h2
  exact (ZlD row S us left w hok hu h0 h1).mono fun e w' ⟨h1,h2⟩=>⟨_,h1,h2,by simp [retA,ARel,DRel,Rep]⟩
theorem Zmx {row:List C} (hok:Zao (sigF) row) (hb:bulkRow row<=1048576):Con e0 12 [.agg row] [.agg row]:=by
 refine Zd8 ZeI (by kernel_rfl) fun w S vs h=>?_
 match vs,h with
 | [v],h =>
  obtain ⟨⟨us,rfl,hu⟩,_⟩:=h
  exact (Zhb row S us w hok hu hb).mono fun e w' ⟨us',h1,h2,h3⟩=>⟨_,h1,h3,us',rfl,Zad.rep row _ _ us' (fun x hx=>.inr hx) h2⟩
theorem Zmy {row:List C} (hok:Zao (sigF) row):Con e0 16 [.agg row,.agg row] [.one (.lit (.bool true))]:=by
 refine Zd8 ZeI (by kernel_rfl) fun w S vs h=>?_
 match vs,h with
 | [v,u],h =>
  obtain ⟨⟨us,rfl,hu⟩,⟨us',rfl,hu'⟩,_⟩:=h
  exact (ZlE row S S us us' w hok hu hu').mono fun e w' ⟨h1,h2⟩=>⟨_,h1,h2,by simp [retA,ARel,DRel,Rep]⟩
theorem ZhZ {rows:List (List C)} (hok:Zam (Zab .binding) rows) {left:Int} (h0:0<=left) (h1:left<=1048576):Con e0 19 [.one (.sl rows),.one (.lit (.int .i64 left))] [.one (.lit (.int .i64 (sub left (rows.length+Zac rows))))]:=by
 refine Zd8 ZeI (by kernel_rfl) fun w S vs h=>?_
 match vs,h with
 | [v,u],h =>
  obtain ⟨hv,h2,_⟩:=h
  have h2:u=.int .i64 left:=by simpa [DRel,Rep] using h2
  subst h2
  exact (Zm1 rows S v left w hok hv h0 h1).mono fun e w' ⟨h1,h2⟩=>⟨_,h1,h2,by simp [retA,ARel,DRel,Rep]⟩
theorem Zfx {rows:List (List C)} (hok:Zam (Zab .binding) rows):Con e0 23 [.one (.sl rows),.one (.sl rows)] [.one (.lit (.bool true))]:=by
 refine Zd8 ZeI (by kernel_rfl) fun w S vs h=>?_
 match vs,h with
 | [v,u],h =>
  obtain ⟨hv,hu,_⟩:=h
  exact (Zm2 rows S S v u w hok hv hu).mono fun e w' ⟨h1,h2⟩=>⟨_,h1,h2,by simp [retA,ARel,DRel,Rep]⟩
theorem Zh0 {rows:List (List C)} (hok:Zam (Zab .binding) rows) (hb:rows.length+Zac rows<=1048576):Con e0 21 [.one (.sl rows)] [.one (.sl rows)]:=by
 refine Zd8 ZeI (by kernel_rfl) fun w S vs h=>?_
 match vs,h with
 | [v],h =>
  obtain ⟨hv,_⟩:=h
  exact (ZhQ rows S v w hok hv hb).mono fun e w' ⟨v',h1,h2,h3⟩=>⟨_,h1,h3,(Own.rep _ _ v' h2).mono fun b hb=>.inr hb⟩
end Go.Proofs.YtffmjghcpgpfpaaGreatDoor
