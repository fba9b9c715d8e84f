/-
  Part of a proof.
-/
import Derived.Test.YteiljfkknokfjaaGreatDoorBPathOrderCardSaid0
import Derived.Test.YteiljfkknokfjaaGreatDoorBPathOrderCardSaid1
import Derived.Test.YteiljfkknokfjaaGreatDoorBPathOrderCardSaid2
import Derived.Test.YteiljfkknokfjaaGreatDoorRows
set_option linter.unusedSimpArgs false
set_option linter.unusedVariables false
set_option maxHeartbeats 400000000
set_option maxRecDepth 100000
namespace Go.Proofs.YteiljfkknokfjaaGreatDoor
open Go.RowKit
def bs (l:List UInt8):ByteArray:=⟨l.toArray⟩
theorem Zk0 (l m:List UInt8):bs l++bs m=bs (l++m):=by
 apply ByteArray.ext;rw [ByteArray.data_append];simp [bs]
theorem Zi2 (l:List UInt8):(bs l).size=l.length:=by show (List.toArray l).size=_;simp
theorem Zmn (s:ByteArray):bs s.toList=s:=by
 rw [ByteArray.toList_eq];unfold bs;simp
theorem Zrm {i:Int} (h1:i < 100):(decB i).length<=3:=by
 unfold decB decN;split <;> split <;> simp
mutual
theorem Zhz {g:Sgn} (hg:SgnOk g):∀ (t:Tm),Zau g t->(Zcd t).length<=22 * sizeTm t
 | .mk op nm so args,h=>by
  have h1:=Zmo hg args (by simp only [Zau] at h;exact h.2.1);have hk:=Zds hg _ h;simp only [ZdZ] at hk;obtain ⟨k0,k1,k2,k3,_⟩:=hk;have d1:=Zrm (i:=op) om;simp only [Zcd,sizeTm,Tae,Tag,Tak];split
  ·have d2:=Zrm (i:=so) (by have:=(k2 om).2.2;omega);have hn:Za0 nm=true:=by
    rcases h.node with hv | ⟨o,d,hA⟩
    ·exact hv.2.1
    ·have:=hA.lo;have:(Tm.mk op nm so args).op=op:=rfl;omega
   have h4:¬ 12 < nm.size:=fun h=>by rw [Zcp (.inr (.inl h))] at hn;cases hn
   have h5:nm.toList.length=nm.size:=by rw [ByteArray.toList_eq];exact Array.length_toList
   simp only [Tag,Tae];omega
  ·simp only [Tak];omega
theorem Zmo {g:Sgn} (hg:SgnOk g):∀ (ts:List Tm),ZcN g ts->(Za1 ts).length<=22 * sizeTms ts
 | [],_=>by simp [Za1,sizeTms]
 | t::ts,h=>by
  simp only [ZcN] at h;have h1:=Zhz hg t h.1;have h2:=Zmo hg ts h.2;simp only [Za1,sizeTms,Tae];omega
end
theorem Zpt {l:List Tm} {i:Nat} {t:Tm} (h:l[i]?=some t):Za1 (l.take (i+1))=Za1 (l.take i)++Zcd t:=by
 rw [show l.take (i+1)=l.take i++[t] by simp [List.take_add_one,h],Zsd];simp [Za1]
theorem Zmp:∀ (l:List Tm) (i:Nat),(Za1 (l.take i)).length<=(Za1 l).length
 | [],i=>by simp [Za1]
 | x::xs,0=>by simp [Za1]
 | x::xs,i+1=>by have:=Zmp xs i;simp only [Tbc,Za1,Tae];omega
theorem Zk1:∀ {ts:List Tm},Zd9 ts->∀ t∈ts,ZdZ t
 | _::_,h,t,ht=>by
  simp only [Zd9] at h;rcases Tbg.1 ht with rfl | ht
  ·exact h.1
  ·exact Zk1 h.2 t ht
def keyP (op:Int) (nm:ByteArray) (so:Int):List UInt8:=decB op++(if op < 0 then 58::(nm.toList++58::decB so) else [])
theorem ZzM (op:Int) (nm:ByteArray) (so:Int) (args:List Tm):Zcd (.mk op nm so args)=keyP op nm so++[40]++Za1 args++[41]:=by
 simp [Zcd,keyP,Tbf]
theorem Zse:ZaX Tryz.prog 114=some .one:=by kernel_rfl
theorem Zzf:Za9 Tryz.prog 114=some 1:=by kernel_rfl
theorem ZAM:ZaR Tryz.prog 114=some [.lit .nilFunc]:=by kernel_rfl
theorem ZAq:Zay (.lit .nilFunc)=true:=rfl
theorem ZAr {f:FuncId} {cs:List C}:Zay (.fn f cs)=true:=rfl
def ptrB (b:Nat):Value:=.pointer (some ⟨b,0,none⟩)
def RKey (bo bv:Nat) (f:FuncId) (s:ByteArray) (r:List D) (pm:List Bk):Prop:=∃ a cap,r=[]∧pm=[.var (some bo) [.lit (.slice a (byR s).length cap)],.buf (some (a,cap)) 5 1 (byR s),.var (some bv) [.fn f [.lit (ptrB bo),.lit (ptrB bv)]]]
theorem gTPk {X:Prop} {P:Program} {ts:List RS} {R:List D->List Bk->Prop} {σ:St} {r:List D} {pm:List Bk} (ks:List Nat) (hR:R r pm) (hx:Zm0 P ts R .normal σ->X:=by first | exact fun h=>h | exact fun h=>⟨_,Wk.refl _,h⟩) (hr:resD P σ ts=some r:=by exact sfy) (hg:getM σ.m ks=some pm:=by exact sny) (hn:ks.Nodup:=by decide) (hp:pm.all pinned=true:=by exact sny):X :=
 hx ⟨r,ks,pm,hg,hn,hp,hR,ZfW hr⟩
theorem Zpu (t:Tm) (hk:ZdZ t) (hsz:sizeTm t<=60) (l:List UInt8) (a:Option Addr) (cap bo bv:Nat) (hne:bo≠bv) (hl:l.length+(Zcd t).length<=90000)
  (h:∀ x∈t.args,∀ (l:List UInt8) (a:Option Addr) (cap:Nat),l.length+(Zcd x).length<=90000->ConP e0 87 [.agg (Zab x),.one (.lit (ptrB bo)),.one (.lit (ptrB bv))] [.var (some bo) [.lit (.slice a (byR (bs l)).length cap)],.buf (some (a,cap)) 5 1 (byR (bs l)),.var (some bv) [.fn 87 [.lit (ptrB bo),.lit (ptrB bv)]]] (RKey bo bv 87 (bs (l++Zcd x)))) :
  ConP e0 87 [.agg (Zab t),.one (.lit (ptrB bo)),.one (.lit (ptrB bv))] [.var (some bo) [.lit (.slice a (byR (bs l)).length cap)],.buf (some (a,cap)) 5 1 (byR (bs l)),.var (some bv) [.fn 87 [.lit (ptrB bo),.lit (ptrB bv)]]] (RKey bo bv 87 (bs (l++Zcd t))):=by
 obtain ⟨op,nm,so,args⟩:=t;have hc:Zab (.mk op nm so args)=[.lit (.int .i64 op),.lit (.string nm),.lit (.int .i64 so),.sl (Zaa args)]:=by simp only [Zab]
 have hn1:(bo=bv)=False:=eq_false hne;have hn2:(bv=bo)=False:=eq_false (fun e=>hne e.symm);simp only [Tm.args] at h;have hsl:=Zbe args;simp only [sizeTm] at hsz;simp only [ptrB] at h ⊢;simp only [ZdZ] at hk;obtain ⟨k0,k1,k2,k3,k4⟩:=hk;rw [ZzM] at hl ⊢;simp only [Tae,Tag,Tak] at hl;have rb:=fun l=>Zze (bs l);have e0':bs l++decS op=bs (l++decB op):=Zk0 _ _;have c1:=Zjz k0 k1 (bs l) (by rw [Zi2];omega) a cap
 rw [e0'] at c1;have hP:keyP op nm so=decB op++(if op < 0 then 58::(nm.toList++58::decB so) else []):=rfl;have ap:=fun (l:List UInt8) (b:UInt8) (b':Int) (hb:b'=b.toNat)=>show byR (bs l)++[[.lit (.int .u8 b')]]=byR (bs (l++[b])) by rw [<- Zk0,<- Zi1,hb];rfl
 have ml:=fun (l:List UInt8) (hl:l.length<=90000)=>show ((byR (bs l)).length+1<=maxApp)=True from eq_true (by rw [Zdy,Zi2];unfold maxApp;omega)
 refine gIP (ts:=[]) [1001,1000,1002] 32212258863 Tryz.func87 ?_;refine fN 1 @tmz ?_;refine gB ?_;have F:=aj4 @hc @hn1 @hn2 @tmz;refine gCP [1000] [1000] (c1) ?_;clear F;rintro r pm ⟨a1,cap1,rfl,rfl⟩;simp only [setA,retA,zipM,Taf,Tah];refine fR (aj4 @hc @hn1 @hn2 @tmz) ?_;refine fG (ai @hc @tmz) ?_;refine gM (ι:=Option Addr × Nat) [] [1000,1001] (fun x=>[]) (fun x=>[(1001,.var (some bo) [.lit (.slice x.1 (byR (bs (l++keyP op nm so))).length x.2)]),(1000,.buf (some (x.1,x.2)) 5 1 (byR (bs (l++keyP op nm so))))]) (fun x=>True) ?_ (fun x hx=>Exists.intro _ (ai (Wk.refl _) ?_))
 ·by_cases ho:op < 0
  ·have q1:(op < 0)=True:=eq_true ho;rw [if_pos ho] at hP;obtain ⟨_,s0,s8⟩:=k2 om;have hnm:(bs (l++decB op++[58]))++nm=bs (l++decB op++[58]++nm.toList):=by rw [<- Zmn nm,Zk0,Zmn]
   have e2:bs (l++decB op++[58]++nm.toList++[58])++decS so=bs (l++keyP op nm so):=by
    rw [hP];refine (Zk0 _ _).trans ?_;simp [Tbf]
   have hpl:=congrArg List.length hP;simp only [Tae,Tag] at hpl;have c2:=fun a cap=>Zjz (i:=so) om om (bs (l++decB op++[58]++nm.toList++[58])) (by rw [Zi2];simp only [Tae,Tag,Tak];omega) a cap;rw [e2] at c2;have m1:=ml (l++decB op) (by simp only [Tae];omega);have m2:=ml (l++decB op++[58]++nm.toList) (by simp only [Tae,Tag,Tak];omega);have m3:(byR (bs (l++decB op++[58]))).length+(byR nm).length<=maxApp:=by
    rw [Zdy,Zdy,Zi2];have:nm.size=nm.toList.length:=by rw [ByteArray.toList_eq];exact Array.length_toList.symm
    simp only [Tae,Tag,Tak];unfold maxApp;omega
   have b1:=rb (l++decB op);have b2:=rb (l++decB op++[58]++nm.toList);have p1:=ap (l++decB op) 58 58 rfl;have p2:=ap (l++decB op++[58]++nm.toList) 58 58 rfl;clear hP hpl ap ml rb;rw [decide_eq_true ho];refine fN 3 (ai @hc @tmz) ?_;refine gB ?_;have F:=aj6 @m1 @b1 @p1 @hn1 @hn2 @tmz;refine gP 3 ?_;clear F;refine gS 15 fun a2 cap2=>?_;refine fR (aj3 @hn1 @hn2 @tmz) ?_;refine fN 4 @tmz ?_;refine gB ?_
   have F:=aj4 @hc @hn1 @hn2 @tmz;refine gP 3 ?_;clear F;refine gK 16 ?_;refine (have F:=tmz;gSt m3 Zrl ?_);rw [Zi1,hnm];refine gS 19 fun a3 cap3=>?_;refine fR (aj3 @hn1 @hn2 @tmz) ?_;refine fN 5 @tmz ?_;refine gB ?_;have F:=aj6 @m2 @b2 @p2 @hn1 @hn2 @tmz;refine gP 3 ?_;clear F;refine gS 22 fun a4 cap4=>?_;refine fR (aj3 @hn1 @hn2 @tmz) ?_;refine fN 6 @tmz ?_;refine gB ?_;have F:=aj4 @hc @hn1 @hn2 @tmz;refine gCP [22] [1000] (c2 a4 cap4) ?_;clear F
   rintro r pm ⟨a5,cap5,rfl,rfl⟩;simp only [setA,retA,zipM,Taf,Tah];refine fR (aj3 @hn1 @hn2 @tmz) ?_;exact (have F:=tmz;⟨(a5,cap5),trivial,gw,gw⟩)
  ·have q1:(op < 0)=False:=eq_false ho;rw [if_neg ho,List.append_nil] at hP;rw [hP,decide_eq_false ho];have F:=ai @hc @tmz;refine gG ?_;exact ⟨(a1,cap1),trivial,gw,gw⟩
 obtain ⟨a2,cap2⟩:=x;dsimp only;have m1:=ml (l++keyP op nm so) (by simp only [Tae];omega);have b1:=rb (l++keyP op nm so);have p1:=ap (l++keyP op nm so) 40 40 rfl;have e3:l++(keyP op nm so++[40]++Za1 args++[41])=l++keyP op nm so++[40]++Za1 args++[41]:=by simp [Tbf]
 rw [e3];have hP2:(l++keyP op nm so++[40]).length=l.length+(keyP op nm so).length+1:=by simp only [Tae,Tag,Tak]
 have hal:=Zmp args;refine fN 7 @tmz ?_;refine gB ?_;have F:=aj6 @m1 @b1 @p1 @hn1 @hn2 @tmz;refine gP 3 ?_;clear F;refine gS 29 fun a3 cap3=>?_;refine fR (aj3 @hn1 @hn2 @tmz) ?_;clear m1 b1 p1 e3 hP c1 e0';generalize l++keyP op nm so++[40]=q at hP2 ⊢;have hq0:q++Za1 []=q:=by simp [Za1]
 refine fG (ai @hc @tmz) ?_;have F:=@hq0;refine gL (ι:=Nat × Option Addr × Nat) [5,33,34] [29,1001,1002] (fun x=>[(33,.d (.one (.lit (.int .i64 (x.1:Int)))))]) (fun x=>[(1001,.var (some bo) [.lit (.slice x.2.1 (byR (bs (q++Za1 (args.take x.1)))).length x.2.2)]),(29,.buf (some (x.2.1,x.2.2)) 5 1 (byR (bs (q++Za1 (args.take x.1))))),(1002,.var (some bv) [.fn 87 [.lit (.pointer (some ⟨bo,0,none⟩)),.lit (.pointer (some ⟨bv,0,none⟩))]])]) (fun x=>x.1<=args.length) (fun x=>args.length - x.1) ((0,a3,cap3)) (Taj _) (fun x hx=>?_);clear F
 obtain ⟨i,a4,cap4⟩:=x;simp only at hx;dsimp only;by_cases hlt:i < args.length
 ·obtain ⟨b,hg⟩:∃ b,args[i]?=some b:=⟨_,Taa hlt⟩;have q2:=lT i args.length;have q4:IntKind.i64.wrap ((i:Int)+1)=(i:Int)+1:=IntWalk.i64_in _ om;have hvt:=Zpt hg;have hle:=hal (i+1);rw [hvt,Tae] at hle;have hcon:=h b (Tac hg) (q++Za1 (args.take i)) a4 cap4 (by rw [Tae];omega);rw [Tbf,<- hvt] at hcon;refine fB (aj6 @q2 @hc @Zaj @Zbx @hg @tmz) ?_;have F:=aj4 @Zse @hn1 @hn2 @tmz;refine gCP [1001,29,1002] [1001,29,1002] (hcon) ?_;clear F
  rintro r pm ⟨a5,cap5,rfl,rfl⟩;simp only [ptrB,setA,retA,zipM,Taf,Tah];refine fR @tmz ?_;have F:=@q4;refine gG ?_;exact ⟨(i+1,a5,cap5),hlt,gw,gw,om⟩
 ·obtain rfl:i=args.length:=by omega
  have q2:=lF args.length args.length;rw [Tap];have m1:=ml (q++Za1 args) (by rw [Tae];omega);have b1:=rb (q++Za1 args);have p1:=ap (q++Za1 args) 41 41 rfl;refine fN 13 @q2 ?_;refine gB ?_;have F:=aj6 @m1 @b1 @p1 @hn1 @hn2 @tmz;refine gP 3 ?_;clear F;refine gS 43 fun a5 cap5=>?_;refine fR (aj3 @hn1 @hn2 @tmz) ?_;exact (have F:=tmz;gTPk (R:=RKey bo bv 87 (bs (q++Za1 args++[41]))) [1001,43,1002] ⟨a5,cap5,rfl,rfl⟩)
theorem Zsf (bo bv:Nat) (hne:bo≠bv) (n:Nat):∀ (t:Tm),sizeTm t < n->ZdZ t->sizeTm t<=60->∀ (l:List UInt8) (a:Option Addr) (cap:Nat),l.length+(Zcd t).length<=90000->ConP e0 87 [.agg (Zab t),.one (.lit (ptrB bo)),.one (.lit (ptrB bv))] [.var (some bo) [.lit (.slice a (byR (bs l)).length cap)],.buf (some (a,cap)) 5 1 (byR (bs l)),.var (some bv) [.fn 87 [.lit (ptrB bo),.lit (ptrB bv)]]] (RKey bo bv 87 (bs (l++Zcd t))):=by
 induction n with
 | zero=>exact fun _ h=>om
 | succ n ih =>
  intro t hn hk hsz l a cap hl;refine Zpu t hk hsz l a cap bo bv hne hl fun x hx l a cap hl2=>ih x ?_ ?_ ?_ l a cap hl2
  ·have:=Zbd hx;rw [ZaD] at hn;omega
  ·obtain ⟨op,nm,so,args⟩:=t;simp only [ZdZ] at hk;exact Zk1 hk.2.2.2.2 x hx
  ·have:=Zbd hx;rw [ZaD] at hsz;omega
theorem Zxp:Zi0 e0.P 22 9=true:=by kernel_rfl
theorem Zmq {g:Sgn} (hg:SgnOk g) {t:Tm} (hf:Zau g t) (hsz:sizeTm t<=60):Con e0 45 [.agg (Zab t)] [.one (.lit (.string (keyS t)))]:=by
 have hks:=Zhz hg t hf;have hby0:byR (bs [])=[]:=rfl;refine gI (ts:=[.slot 2]) 31 Tryz.func45 ?_;refine fN 1 @tmz ?_;refine gB ?_;have F:=@tmz;refine gP 1 ?_;clear F;refine gO 5 5 1 ?_;refine gS 5 fun a cap=>?_;refine fR @tmz ?_;refine fN 3 (aj3 @ZAM @Zzf @tmz) ?_;refine pV 3 fun b3 hb3=>?_;refine pV 4 fun b4 hb4=>?_;have hne:b3≠b4:=fun e=>hb4 3 b3 _ (by decide) rfl e.symm;clear hb3 hb4;have hn1:(b3=b4)=False:=eq_false hne
 have hn2:(b4=b3)=False:=eq_false (fun e=>hne e.symm);refine fN 4 (aj7 @Zse @Zzf @ZAq @ZAr @hn1 @hn2 @tmz) ?_;refine gB ?_;have hcon:=Zsf b3 b4 hne _ t (Tan _) (Zds hg t hf) hsz [] a cap (by simp only [Tak];omega);simp only [ptrB,hby0,Tak,Tah] at hcon;have F:=aj4 @Zse @hn1 @hn2 @tmz;refine gCP [3,5,4] [3,5,4] (hcon) ?_;clear F;rintro r pm ⟨a2,cap2,rfl,rfl⟩;simp only [ptrB,setA,retA,zipM,Taf,Tah];refine fR @tmz ?_
 refine ZfV ?_;refine gB ?_;have F:=aj3 @hn1 @hn2 @tmz;refine gP 1 ?_;clear F;refine gK 10 ?_;refine (have F:=tmz;gTx (k:=5) (bs (Zcd t)) Zxp ?_);refine fR @tmz ?_;exact fD @tmz
end Go.Proofs.YteiljfkknokfjaaGreatDoor
namespace Go.Proofs.YteiljfkknokfjaaGreatDoor
open Go.RowKit Go.MapKept Go.ChangeMaps
theorem ZfA {l:List (ByteArray × Value)} {k s:ByteArray} {v:Value}:Zbn (l++[(k,v)]) s=(Zbn l s).or (if s.toList=k.toList then some v else none):=by
 unfold Zbn;rw [List.find?_append]
 cases h:l.find? fun p=>s.toList==p.1.toList with
 | some p=>simp
 | none =>
  by_cases e:s.toList=k.toList
  ·simp [List.find?,e]
  ·have e2:(s.toList==k.toList)=false:=beq_eq_false_iff_ne.2 e;simp only [List.find?,e2,Option.or,if_neg e,Option.map_none]
def Memo (g:Sgn) (l:List (ByteArray × Value)):Prop:=∀ u,Zau g u->∀ v,Zbn l (keyS u)=some v->v=.int .i64 (sortsTm g u:Nat)
def Grew (g:Sgn) (n:Nat) (l l':List (ByteArray × Value)):Prop:=∀ u,Zau g u->n < sizeTm u->Zbn l (keyS u)=none->Zbn l' (keyS u)=none
theorem Grew.refl {g:Sgn} {n:Nat} {l:List (ByteArray × Value)}:Grew g n l l:=fun _ _ _ h=>h
theorem Grew.trans {g:Sgn} {n:Nat} {l l' l'':List (ByteArray × Value)} (h:Grew g n l l') (h':Grew g n l' l''):Grew g n l l'':=fun u hu hs h0=>h' u hu hs (h u hu hs h0)
theorem Grew.mono {g:Sgn} {n m:Nat} {l l':List (ByteArray × Value)} (h:Grew g n l l') (hn:n<=m):Grew g m l l':=fun u hu hs h0=>h u hu om h0
theorem Memo.nil {g:Sgn}:Memo g []:=fun u _ v h=>by simp [Zbn] at h
theorem Memo.snoc {g:Sgn} (hg:SgnOk g) {l:List (ByteArray × Value)} (h:Memo g l) {t:Tm} (ht:Zau g t):Memo g (l++[(keyS t,.int .i64 (sortsTm g t:Nat))]):=by
 intro u hu v hv;rw [ZfA] at hv
 cases hl:Zbn l (keyS u) with
 | some x =>
  rw [hl] at hv;simp only [Option.some_or,Taq] at hv;subst hv;exact h u hu _ hl
 | none =>
  rw [hl,Option.none_or] at hv;by_cases e:(keyS u).toList=(keyS t).toList
  ·rw [if_pos e] at hv;obtain rfl:=Zoh hg hu ht e;simpa using hv.symm
  ·rw [if_neg e] at hv;cases hv
theorem Grew.snoc {g:Sgn} (hg:SgnOk g) {l:List (ByteArray × Value)} {t:Tm} (ht:Zau g t) {v:Value}:Grew g (sizeTm t) l (l++[(keyS t,v)]):=by
 intro u hu hs h0;rw [ZfA,h0,Option.none_or,if_neg];intro e;obtain rfl:=Zoh hg hu ht e;omega
section
variable {e:Env} {K:St->Prop} {ds:List (Option Nat)} {os:List Oper} {s:List (Nat × A)} {m:List (Nat × Bk)}
theorem gLo {d t ty:Nat} {p:String} {ed:Array Edge} {x y:Operand} {b:Nat} {l:List (ByteArray × Value)} {k:ByteArray} {kt el:TypeId} {z v:Value} {f:Bool} (κ:Nat) (ht:e.P.underlying t=some (.map kt el)) (hk:e.P.underlying kt=some .string) (hz:∀ w,(zeroValue el).run e.P w=.ok z w) (hv:(Zbn l k).getD z=v) (hf:(Zbn l k).isSome=f)
  (hK:Runs e ds 0 os ⟨(d,.tup [.one (.lit v),.one (.lit (.bool f))])::s,m⟩ K) (hx:evA s x=.d (.one (.lit (.map (some b)))):=by exact sfx) (hy:evA s y=.d (.one (.lit (.string k))):=by exact sfx) (hm:gm m κ=some (mapB b l):=by exact snx):Runs e ds 0 (⟨some d,.lookup t x y true,ty,p,ed,none⟩::os) ⟨s,m⟩ K :=
 ZeD rfl (Zl5 rfl ht hk hz hx hy hm (α:=.tup [.one (.lit v),.one (.lit (.bool f))]) (fun w S L=>by
  rw [hv,hf];exact ⟨[v,.bool f],rfl,by simp [Zaq,DRel,Rep]⟩) hK)
end
end Go.Proofs.YteiljfkknokfjaaGreatDoor
namespace Go.Proofs.YteiljfkknokfjaaGreatDoor
open Go.RowKit
theorem Ziw {e:Env} {f:FuncId} {a b:D} {rows:List (List C)} {r:List D} (h:Con e f [a,b,.one (.sl rows)] r):Con e f [a,b,.clip rows] r :=
 ⟨h.1,fun w S vs hS hE hG hv=>h.2 w S vs hS hE hG (by
  match vs,hv with
  | [x,y,z],hv=>exact ⟨hv.1,hv.2.1,hv.2.2.1.1,trivial⟩)⟩
def FitN (d:Dcl) (sets:List Nat) (n:Nat):Prop:=∀ (i:Nat) k s,i < n->d.args[i]?=some k->sets[i]?=some s->s.testBit k.toNat=true
theorem FitN.zero {d:Dcl} {sets:List Nat}:FitN d sets 0:=fun i k s h=>absurd h (Nat.not_lt_zero i)
theorem FitN.succ {d:Dcl} {sets:List Nat} {n:Nat} {k:Int} {s:Nat} (hk:d.args[n]?=some k) (hs:sets[n]?=some s):FitN d sets (n+1) ↔ FitN d sets n∧s.testBit k.toNat=true:=by
 constructor
 ·exact fun h=>⟨fun i k s hi=>h i k s om,h n k s om hk hs⟩
 ·rintro ⟨h1,h2⟩ i k' s' hi hk' hs';by_cases e:i=n
  ·subst e;rw [hk] at hk';rw [hs] at hs';injection hk' with hk'
   injection hs' with hs'
   subst hk' hs';exact h2
  ·exact h1 i k' s' om hk' hs'
theorem FitN.full {d:Dcl} {sets:List Nat}:FitN d sets d.args.length ↔ ∀ (i:Nat) k s,d.args[i]?=some k->sets[i]?=some s->s.testBit k.toNat=true :=
 ⟨fun h i k s hk hs=>h i k s (Tad.1 hk).1 hk hs,fun h i k s _ hk hs=>h i k s hk hs⟩
theorem ZcH {v N:Nat} (h:v < 2 ^ N) (hN:N<=8):v < 4611686018427387904:=by
 have:2 ^ N<=2 ^ 8:=Tbs om hN;omega
section
variable {g:Sgn} {mc:C}
def ClB (g:Sgn) (v n b:Nat):Prop:=∃ k,k < n∧v.testBit k=true∧((up g.sorts).getD k 0).testBit b=true
theorem ZzN {v n N:Nat} (h:tbit v n=true) (hu:(up g.sorts).getD n 0 < 2 ^ N):ofB (ClB g v (n+1)) N=ofB (ClB g v n) N ||| (up g.sorts).getD n 0:=by
 rw [<- Zht hu,Zir];refine ZbE fun b _=>?_;constructor
 ·rintro ⟨k,h1,h2,h3⟩;by_cases e:k=n
  ·subst e;exact .inr h3
  ·exact .inl ⟨k,om,h2,h3⟩
 ·rintro (⟨k,h1,h2,h3⟩ | h3)
  ·exact ⟨k,om,h2,h3⟩
  ·exact ⟨n,om,h,h3⟩
theorem ZzO {v n N:Nat} (h:tbit v n=false):ofB (ClB g v (n+1)) N=ofB (ClB g v n) N:=by
 refine ZbE fun b _=>?_;constructor
 ·rintro ⟨k,h1,h2,h3⟩;by_cases e:k=n
  ·subst e;rw [show v.testBit k=false from h] at h2
   cases h2
  ·exact ⟨k,om,h2,h3⟩
 ·rintro ⟨k,h1,h2,h3⟩;exact ⟨k,om,h2,h3⟩
theorem ZzP {v N:Nat}:ofB (ClB g v 0) N=0:=Zhs fun b _ h=>by
 obtain ⟨k,h1,_⟩:=h;omega
theorem Zpv (hg:SgnOk g) {v:Nat} (hv:v < 2 ^ g.sorts.names.length):Con e0 128 [.one (.sl (nR (up g.sorts))),.one (.lit (.int .i64 (v:Int)))] [.one (.lit (.int .i64 ((ofB (ClB g v g.sorts.names.length) g.sorts.names.length:Nat):Int)))]:=by
 have hN:=hg.sorts.n8;have hv62:=ZcH hv hN;have hUl:(nR (up g.sorts)).length=g.sorts.names.length:=by rw [Za4,Zvt hg.sorts]
 have z0:ofB (ClB g v 0) g.sorts.names.length=0:=ZzP;have rr:=ZaW (l:=up g.sorts);refine gI (ts:=[.slot 4]) 33907 Tryz.func128 ?_;refine fG @tmz ?_;have F:=@tmz;refine gL (ι:=Nat × Nat) [5,6,10,15] [] (fun x=>[(6,A.d (.one (.lit (.int .i64 x.1)))),(5,A.d (.one (.lit (.int .i64 x.2))))]) (fun x=>[]) (fun x=>x.1<=g.sorts.names.length∧x.2=ofB (ClB g v x.1) g.sorts.names.length) (fun x=>g.sorts.names.length - x.1) ((0,0)) (⟨Taj _,z0.symm⟩) (fun x hx=>?_);clear F
 obtain ⟨i,out⟩:=x;obtain ⟨hi,hout⟩:=hx;simp only at hi hout;subst hout;dsimp only;by_cases hlt:i < g.sorts.names.length;rotate_left
 ·obtain rfl:i=g.sorts.names.length:=by omega
  have q1:=lF g.sorts.names.length g.sorts.names.length;exact fD (aj3 @q1 @hUl @tmz)
 have q1:=lT i g.sorts.names.length;have hw1:=Zao (k:=i) om;have hu:=(Zfv (SortsOk.subsIn hg.sorts.subs)).get hlt;have ru:=Za8 hu.1;have ho2:=Zep (ZcH (ZcK (ClB g v i) g.sorts.names.length) hN) (ZcH hu.2 hN);refine fN 5 (aj3 @q1 @hUl @tmz) ?_;refine gB ?_;refine fC @tmz (Zeq (a:=v) (k:=i) hv62 om) ?_
 cases ht:tbit v i with
 | false =>
  have e:=ZzO (g:=g) (N:=g.sorts.names.length) ht;rw [<- e];refine fR @tmz ?_;have F:=ai @hw1 @tmz;refine gG ?_;exact ⟨(i+1,ofB (ClB g v (i+1)) g.sorts.names.length),⟨hlt,rfl⟩,gw,gw,om⟩
 | true =>
  have e:=ZzN ht hu.2;rw [<- e] at ho2;refine fR @tmz ?_;have F:=aj8 @ru @rr @hUl @hlt @ho2 @hw1 @Zax @tmz;refine gG ?_;exact ⟨(i+1,ofB (ClB g v (i+1)) g.sorts.names.length),⟨hlt,rfl⟩,gw,gw,om⟩
def RsB (P:Dcl->Prop) (ds:List Dcl) (b:Nat):Prop:=∃ d∈ds,P d∧d.res.toNat=b
theorem ZzQ {P:Dcl->Prop} {N:Nat}:ofB (RsB P []) N=0:=Zhs fun b _ h=>by
 obtain ⟨d,hd,_⟩:=h
 cases hd
theorem ZAs {P:Dcl->Prop} {N:Nat} {ds:List Dcl} {d:Dcl} (h:P d) (hu:d.res.toNat < N):ofB (RsB P (ds++[d])) N=ofB (RsB P ds) N ||| 2 ^ d.res.toNat:=by
 have h2:2 ^ d.res.toNat < 2 ^ N:=Nat.pow_lt_pow_right om hu;rw [<- Zht h2,Zir];refine ZbE fun b _=>?_;rw [Zre];constructor
 ·rintro ⟨x,hx,h1,h2⟩;rcases Tbh.1 hx with hx | hx
  ·exact .inl ⟨x,hx,h1,h2⟩
  ·rw [Tbj.1 hx] at h2;exact .inr h2
 ·rintro (⟨x,hx,h1,h2⟩ | h2)
  ·exact ⟨x,List.mem_append_left _ hx,h1,h2⟩
  ·exact ⟨d,List.mem_append_right _ (Tbj.2 rfl),h,h2⟩
theorem ZAN {P:Dcl->Prop} {N:Nat} {ds:List Dcl} {d:Dcl} (h:¬ P d):ofB (RsB P (ds++[d])) N=ofB (RsB P ds) N:=by
 refine ZbE fun b _=>?_;constructor
 ·rintro ⟨x,hx,h1,h2⟩;rcases Tbh.1 hx with hx | hx
  ·exact ⟨x,hx,h1,h2⟩
  ·rw [Tbj.1 hx] at h1;exact absurd h1 h
 ·rintro ⟨x,hx,h1,h2⟩;exact ⟨x,List.mem_append_left _ hx,h1,h2⟩
theorem ZzR (hg:SgnOk g) {o:Opr} (hD:∀ d∈o.decls,0<=d.res∧d.res < g.sorts.names.length) (sets:List Nat):ofB (ClB g (ofB (RsB (fun d=>FitN d sets d.args.length) o.decls) g.sorts.names.length) g.sorts.names.length) g.sorts.names.length=ofB (Zdb g o sets) g.sorts.names.length:=by
 refine ZbE fun b _=>?_;unfold ClB Zdb;constructor
 ·rintro ⟨k,h1,h2,h3⟩;obtain ⟨h4,d,hd,h5,h6⟩:=(ZcO _ _ _).1 h2;refine ⟨d,hd,FitN.full.1 h5,?_⟩;unfold upk;rw [h6];exact h3
 ·rintro ⟨d,hd,h1,h2⟩;have hr:=hD d hd;exact ⟨d.res.toNat,om,(ZcO _ _ _).2 ⟨om,d,hd,FitN.full.2 h1,rfl⟩,h2⟩
open Classical in
theorem ZhA (hg:SgnOk g) {o:Opr} (hm:o∈g.ops) (sets:List Nat) (hlen:∀ d∈o.decls,d.args.length=sets.length) (hsl:sets.length<=3) (hs:∀ s∈sets,s < 2 ^ g.sorts.names.length):Con e0 122 [.one (.sl (nR (up g.sorts))),.one (.sl (o.decls.map Zfd)),.one (.sl (nR sets))] [.one (.lit (.int .i64 ((ofB (Zdb g o sets) g.sorts.names.length:Nat):Int)))]:=by
 have hN:=hg.sorts.n8;have hD:=hg.decls o hm;have hdl:o.decls.length<=4:=hD.len4;obtain ⟨f,hf⟩:∃ f,o.decls[0]?=some f:=⟨_,Taa (by have:=hD.len1;omega)⟩;have hres:=fun d hd=>(hD.all f hf d hd).res;rw [<- ZzR hg hres sets];generalize hPd:(fun d=>FitN d sets d.args.length)=P;have z0:ofB (RsB P []) g.sorts.names.length=0:=ZzQ;have cC:=Zpv hg (ZcK (RsB P o.decls) g.sorts.names.length);refine gI (ts:=[.slot 6]) 549756880839 Tryz.func122 ?_
 refine fG @tmz ?_;have F:=@tmz;refine gL (ι:=Nat × Nat) [7,8,9,10,14,20,39] [] (fun x=>[(8,A.d (.one (.lit (.int .i64 x.1)))),(7,A.d (.one (.lit (.int .i64 x.2))))]) (fun x=>[]) (fun x=>x.1<=o.decls.length∧x.2=ofB (RsB P (o.decls.take x.1)) g.sorts.names.length) (fun x=>o.decls.length - x.1) ((0,0)) (⟨Taj _,z0.symm⟩) (fun x hx=>?_);clear F;obtain ⟨i,out⟩:=x;obtain ⟨hi,hout⟩:=hx;simp only at hi hout
 subst hout;dsimp only;by_cases hlt:i < o.decls.length;rotate_left
 ·obtain rfl:i=o.decls.length:=by omega
  have q1:=lF o.decls.length o.decls.length;rw [Tap];refine fN 12 (ai @q1 @tmz) ?_;refine gB ?_;refine fC @tmz (cC) ?_;refine fR @tmz ?_;exact fD @tmz
 obtain ⟨d,hdi⟩:∃ d,o.decls[i]?=some d:=⟨_,Taa hlt⟩;have hdm:=Tac hdi;have hdl2:=hlen d hdm;have hdo:=hD.all f hf d hdm;have q1:=lT i o.decls.length;have hw1:=Zao (k:=i) om;have hsnoc:o.decls.take (i+1)=o.decls.take i++[d]:=by simp [List.take_add_one,hdi]
 have rl:=Za4 (l:=sets);have rr:=ZaW (l:=sets);refine fG (ai @q1 @tmz) ?_;have F:=@tmz;refine gL (ι:=Nat × Bool) [9,10,20] [] (fun y=>[(10,A.d (.one (.lit (.int .i64 y.1)))),(9,A.d (.one (.lit (.bool y.2))))]) (fun y=>[]) (fun y=>y.1<=sets.length∧y.2=decide (FitN d sets y.1)) (fun y=>sets.length - y.1) ((0,true)) (⟨Taj _,(decide_eq_true FitN.zero).symm⟩) (fun y hy=>?_);clear F;obtain ⟨j,b1⟩:=y;obtain ⟨hj,hb1⟩:=hy
 simp only at hj hb1;dsimp only;by_cases hjl:j < sets.length
 ·obtain ⟨k,hk⟩:∃ k,d.args[j]?=some k:=⟨_,Taa om⟩;have hkr:=hdo.args k (Tac hk);obtain ⟨kn,rfl⟩:∃ kn:Nat,k=kn:=⟨k.toNat,om⟩;obtain ⟨s,hsj⟩:∃ s,sets[j]?=some s:=⟨_,Taa om⟩;have b62:=ZcH (hs s (Tac hsj)) hN;have q2:=lT j sets.length;have hwj:=Zao (k:=j) om;have r1:=Za8 hsj;have i1:(j < sets.length)=True:=eq_true om;have i3:(j < d.args.length)=True:=eq_true om;have hf1:=FitN.succ (n:=j) hk hsj;rw [show (kn:Int).toNat=kn from rfl] at hf1
  refine fN 9 (aj3 @q2 @rl @tmz) ?_;refine gM (ι:=Bool) [9] [] (fun b=>[(9,A.d (.one (.lit (.bool b))))]) (fun b=>[]) (fun b=>b=decide (FitN d sets (j+1))) ?_ (fun b hb=>Exists.intro _ (ai (Wk.refl _) ?_))
  ·cases b1 with
   | false =>
    have e:false=decide (FitN d sets (j+1)):=(decide_eq_false fun h=>by
     have:=hf1.1 h;rw [decide_eq_true this.1] at hb1
     cases hb1).symm
    have F:=@tmz;refine gG ?_;exact ⟨false,e,gw,gw⟩
   | true =>
    have hb1':=of_decide_eq_true hb1.symm;have e:tbit s kn=decide (FitN d sets (j+1)):=by
     cases ht:tbit s kn with
     | false=>exact (decide_eq_false fun h=>by
       have:=(hf1.1 h).2;rw [show s.testBit kn=false from ht] at this
       cases this).symm
     | true=>exact (decide_eq_true (hf1.2 ⟨hb1',ht⟩)).symm
    refine gB ?_;refine fC (aj11 @r1 @rl @rr @i1 @i3 @hdi @hk @ZaI @ZaG @Zax @tmz) (Zeq (a:=s) (k:=kn) b62 om) ?_;refine fR @tmz ?_;have F:=@tmz;refine gG ?_;exact ⟨tbit s kn,e,gw,gw⟩
  have F:=ai @hwj @tmz;refine gG ?_;exact ⟨(j+1,b),⟨hjl,hb⟩,gw,gw,om⟩
 ·obtain rfl:j=sets.length:=by omega
  have q2:=lF sets.length sets.length;have hPi:P d ↔ FitN d sets sets.length:=by rw [<- hPd,<- hdl2]
  have hr0:=hdo.res.1;have hr1:=hdo.res.2;obtain ⟨rn,hrn⟩:∃ rn:Nat,d.res=rn:=⟨d.res.toNat,om⟩;have cB:=Zgj (k:=rn) om;rw [<- hrn] at cB;have ho2:=Zep (ZcH (ZcK (RsB P (o.decls.take i)) g.sorts.names.length) hN) (ZcH (v:=2 ^ rn) (N:=g.sorts.names.length) (Nat.pow_lt_pow_right om om) hN)
  cases b1 with
  | true =>
   have hp:P d:=hPi.2 (of_decide_eq_true hb1.symm);have e:=ZAs (N:=g.sorts.names.length) (ds:=o.decls.take i) hp om;rw [<- hsnoc,show d.res.toNat=rn by omega] at e;rw [<- e] at ho2;refine fN 11 (aj3 @q2 @rl @tmz) ?_;refine gB ?_;refine fC (aj3 @hdi @ZaI @tmz) (cB) ?_;refine fR (ai @ho2 @tmz) ?_;have F:=ai @hw1 @tmz;refine gG ?_;exact ⟨(i+1,ofB (RsB P (o.decls.take (i+1))) g.sorts.names.length),⟨hlt,rfl⟩,gw,gw,om⟩
  | false =>
   have hp:¬ P d:=fun h=>by rw [decide_eq_true (hPi.1 h)] at hb1;cases hb1
   have e:=ZAN (N:=g.sorts.names.length) (ds:=o.decls.take i) hp;rw [<- hsnoc] at e;rw [<- e];have F:=aj4 @q2 @rl @hw1 @tmz;refine gG ?_;exact ⟨(i+1,ofB (RsB P (o.decls.take (i+1))) g.sorts.names.length),⟨hlt,rfl⟩,gw,gw,om⟩
theorem ZjA (hg:SgnOk g) {op:Int} {o:Opr} (h0:0<=op) (ho:g.ops[op.toNat]?=some o) (sets:List Nat) (hlen:∀ d∈o.decls,d.args.length=sets.length) (hsl:sets.length<=3) (hs:∀ s∈sets,s < 2 ^ g.sorts.names.length):Con e0 117 [.agg (Zaf g),.one (.lit (.int .i64 op)),.one (.sl (nR sets))] [.one (.lit (.int .i64 ((ofB (Zdb g o sets) g.sorts.names.length:Nat):Int)))]:=by
 have cU:=Zf2 hg.sorts.n8 hg.sorts.m16 (SortsOk.subsIn hg.sorts.subs);have cG:=ZhA hg (Tac ho) sets hlen hsl hs;rw [ZaZ] at cU;rw [Zaf];refine gI (ts:=[.slot 6]) 79 Tryz.func117 ?_;refine fN 1 @tmz ?_;refine gB ?_;refine fC @tmz (cU) ?_;refine fC (aj4 @h0 @ho @Zag @tmz) (cG) ?_;refine fR @tmz ?_;exact fD @tmz
end
theorem Zxq {a b:Nat} (ha:a < 4611686018427387904) (hb:b < 4611686018427387904):bits .xor .i64 (a:Int) (b:Int)=((a ^^^ b:Nat):Int):=by
 have h:a ^^^ b < 2 ^ 62:=Nat.xor_lt_two_pow om om;have e:(BitVec.ofInt IntKind.i64.bits (a:Int) ^^^ BitVec.ofInt IntKind.i64.bits (b:Int)).toNat=a ^^^ b:=by
  rw [BitVec.toNat_xor];show (BitVec.ofInt 64 (a:Int)).toNat ^^^ (BitVec.ofInt 64 (b:Int)).toNat=_;rw [ZgT om,ZgT om]
 unfold bits;show IntKind.i64.wrap _=_;rw [e];exact Zhf om om
noncomputable def bvN (g:Sgn) (R:Nat->Nat->Nat->Prop) (sets:List Nat) (m:Nat):Nat:=ofB (BagB R sets m) g.sorts.names.length
def BagT (g:Sgn) (R:Nat->Nat->Nat->Prop) (sets:List Nat) (M:Nat) (T:List Nat):Prop:=T.length=2 ^ sets.length∧∀ m,1<=m->m < 2 ^ sets.length->(m < M->T[m]?=some (bvN g R sets m))∧(M<=m->T[m]?=some 0)
section
variable {g:Sgn} {R:Nat->Nat->Nat->Prop} {sets:List Nat}
theorem BagT.start:BagT g R sets 1 (List.replicate (2 ^ sets.length) 0):=⟨by simp,fun m h1 h2=>⟨fun h=>om,fun _=>by rw [Tbr,if_pos h2]⟩⟩
theorem BagT.next {M:Nat} {T:List Nat} (h:BagT g R sets M T) (hM:M < 2 ^ sets.length):BagT g R sets (M+1) (T.set M (bvN g R sets M)):=by
 refine ⟨by rw [Taz,h.1],fun m h1 h2=>?_⟩;by_cases e:m=M
 ·subst e;exact ⟨fun _=>Tbn (by rw [h.1];exact h2),fun q=>om⟩
 ·rw [Tbo (Ne.symm e)];exact ⟨fun q=>(h.2 m h1 h2).1 om,fun q=>(h.2 m h1 h2).2 om⟩
theorem BagT.zero {M:Nat} {T:List Nat} (h:BagT g R sets M T) (h1:1<=M) (hM:M < 2 ^ sets.length):T.set M 0=T:=by
 have h2:=(h.2 M h1 hM).2 (Tai _);refine List.ext_getElem? fun q=>?_;by_cases e:q=M
 ·subst e;rw [Tbn (by rw [h.1];exact hM),h2]
 ·rw [Tbo (Ne.symm e)]
theorem ZzS:∀ (q:Nat),(2 ^ q - 1) &&& 2 ^ q=0:=fun q=>by
 refine Nat.eq_of_testBit_eq fun i=>?_;rw [Nat.testBit_and,Nat.testBit_two_pow_sub_one,Nat.testBit_two_pow,Nat.zero_testBit];by_cases h:i < q
 ·simp [h];omega
 ·simp [h]
theorem ZzT {m:Nat} (hm:m≠0) (h:(m - 1) &&& m=0):∃ q,m=2 ^ q:=by
 refine ⟨Nat.log2 m,?_⟩;have h1:=Nat.log2_self_le hm;have h2:m < 2 ^ (Nat.log2 m+1):=(Nat.log2_lt hm).1 (Tan _);refine Classical.byContradiction fun hne=>?_;have h3:(m - 1).testBit (Nat.log2 m)=true:=by
  have:=Tbt (x:=m - 1) (i:=Nat.log2 m)
  cases ht:(m - 1).testBit (Nat.log2 m) with
  | true=>rfl
  | false =>
   have h4:m - 1 < 2 ^ Nat.log2 m:=Nat.lt_pow_two_of_testBit _ fun i hi=>by
    rcases Nat.lt_or_eq_of_le hi with hi | hi
    ·exact Tbt (Tbd (by omega:m - 1 < 2 ^ (Nat.log2 m+1)) (Tbs om hi))
    ·rw [<- hi];exact ht
   omega
 have h5:m.testBit (Nat.log2 m)=true:=by
  cases ht:m.testBit (Nat.log2 m) with
  | true=>rfl
  | false =>
   have h4:m < 2 ^ Nat.log2 m:=Nat.lt_pow_two_of_testBit _ fun i hi=>by
    rcases Nat.lt_or_eq_of_le hi with hi | hi
    ·exact Tbt (Tbd h2 (Tbs om hi))
    ·rw [<- hi];exact ht
   omega
 have h6:=Nat.testBit_and (m - 1) m (Nat.log2 m);rw [h,h3,h5] at h6;simp at h6
end
section
variable {w:World} {S:Nat->Prop} {a:Option Addr} {n cap:Nat} {rows:List (List C)}
end
section
variable {e:Env} {σ:St} {mask:Nat} {Q:PX->St->Prop}
end
section
variable {g:Sgn} {mc:C}
noncomputable def cvN (g:Sgn) (o:Opr) (sets:List Nat) (i j:Nat):Nat:=ofB (ChB (Rel2 g o) sets i j) g.sorts.names.length
noncomputable def chL (g:Sgn) (o:Opr) (sets:List Nat) (r:Nat):List Nat:=(List.range sets.length).map fun k=>if k < r then 0 else cvN g o sets r (k+1)
theorem ZzU {o:Opr} {sets:List Nat} {r:Nat}:(chL g o sets r).length=sets.length:=by simp [chL]
def FilB (g:Sgn) (o:Opr) (sets:List Nat) (p k:Nat) (L:List Nat):Prop:=L.length=sets.length∧∀ j,j < sets.length->L[j]?=some (if j < p then 0 else if j < k then cvN g o sets p (j+1) else 0)
theorem FilB.all {o:Opr} {sets:List Nat} {p:Nat} {L:List Nat} (h:FilB g o sets p sets.length L):L=chL g o sets p:=by
 refine List.ext_getElem? fun j=>?_;by_cases hj:j < sets.length
 ·rw [h.2 j hj];unfold chL;rw [Tba,List.getElem?_range hj,Option.map_some];by_cases h1:j < p
  ·rw [if_pos h1,if_pos h1]
  ·rw [if_neg h1,if_neg h1,if_pos hj]
 ·rw [List.getElem?_eq_none (by rw [h.1];omega),List.getElem?_eq_none (by rw [ZzU];omega)]
theorem FilB.next {o:Opr} {sets:List Nat} {p k:Nat} {L:List Nat} (h:FilB g o sets p k L) (hp:p<=k) (hk:k < sets.length):FilB g o sets p (k+1) (L.set k (cvN g o sets p (k+1))):=by
 refine ⟨by rw [Taz,h.1],fun j hj=>?_⟩;by_cases e:j=k
 ·subst e;rw [Tbn (by rw [h.1];exact hj),if_neg om,if_pos om]
 ·rw [Tbo (Ne.symm e),h.2 j hj];by_cases h1:j < p
  ·rw [if_pos h1,if_pos h1]
  ·rw [if_neg h1,if_neg h1];by_cases h2:j < k
   ·rw [if_pos h2,if_pos om]
   ·rw [if_neg h2,if_neg om]
theorem FilB.zero {o:Opr} {sets:List Nat} {p k:Nat} {L:List Nat} (h:FilB g o sets p k L) (hp:p<=k) (hk:k < sets.length):L.set k 0=L:=by
 have h1:=h.2 k hk;rw [if_neg om,if_neg om] at h1;refine List.ext_getElem? fun j=>?_;by_cases e:j=k
 ·subst e;rw [Tbn (by rw [h.1];exact hk),h1]
 ·rw [Tbo (Ne.symm e)]
theorem FilB.start {o:Opr} {sets:List Nat} {p s:Nat} (hs:sets[p]?=some s) (h:s < 2 ^ g.sorts.names.length):FilB g o sets p (p+1) ((List.replicate sets.length 0).set p s):=by
 have hp:=(Tad.1 hs).1;refine ⟨by simp,fun j hj=>?_⟩;by_cases e:j=p
 ·subst e;rw [Tbn (by simpa using hj),if_neg om,if_pos om];unfold cvN;rw [ZvE hs h]
 ·rw [Tbo (Ne.symm e),Tbr,if_pos hj];by_cases h1:j < p
  ·rw [if_pos h1]
  ·rw [if_neg h1,if_neg om]
end
theorem Zrn {n i j i' j':Nat} (hj:j < n) (hj':j' < n) (h:i * n+j=i' * n+j'):i=i'∧j=j':=by
 have h1:(i * n+j) / n=i:=by rw [Nat.mul_comm,Nat.mul_add_div om,Nat.div_eq_of_lt hj,Nat.add_zero]
 have h2:(i' * n+j') / n=i':=by rw [Nat.mul_comm,Nat.mul_add_div om,Nat.div_eq_of_lt hj',Nat.add_zero]
 rw [h] at h1;have e:i=i':=by rw [<- h1,h2]
 subst e;exact ⟨rfl,om⟩
theorem ZeI {n i j:Nat} (hi:i < n) (hj:j < n):i * n+j < n * n:=by
 have:(i+1) * n<=n * n:=Nat.mul_le_mul_right n hi;rw [Nat.succ_mul] at this;omega
section
variable {g:Sgn}
def TabB (g:Sgn) (o:Opr) (sets:List Nat) (P:Nat->Nat->Prop) (T:List Nat):Prop:=T.length=sets.length * sets.length∧∀ i j,i<=j->j < sets.length->(P i j->T[i * sets.length+j]?=some (cvN g o sets i (j+1)))∧(¬ P i j->T[i * sets.length+j]?=some 0)
theorem TabB.start {o:Opr} {sets:List Nat} {P:Nat->Nat->Prop} (h:∀ i j,i<=j->¬ P i j):TabB g o sets P (List.replicate (sets.length * sets.length) 0):=⟨by simp,fun i j h1 h2=>⟨fun hp=>absurd hp (h i j h1),fun _=>by
 rw [Tbr,if_pos (ZeI om h2)]⟩⟩
theorem TabB.next {o:Opr} {sets:List Nat} {P P':Nat->Nat->Prop} {T:List Nat} (h:TabB g o sets P T) {i j:Nat} (hij:i<=j) (hj:j < sets.length) (h1:∀ i' j',i'<=j'->j' < sets.length->(P' i' j' ↔ P i' j'∨(i'=i∧j'=j))):TabB g o sets P' (T.set (i * sets.length+j) (cvN g o sets i (j+1))):=by
 refine ⟨by rw [Taz,h.1],fun i' j' q1 q2=>?_⟩;have hl:=ZeI (n:=sets.length) (i:=i) (j:=j) om hj;by_cases e:i'=i∧j'=j
 ·obtain ⟨rfl,rfl⟩:=e;exact ⟨fun _=>Tbn (by rw [h.1];exact hl),fun hn=>absurd ((h1 _ _ q1 q2).2 (.inr ⟨rfl,rfl⟩)) hn⟩
 ·have hne:i * sets.length+j≠i' * sets.length+j':=fun q=>e (by have:=Zrn hj q2 q;exact ⟨this.1.symm,this.2.symm⟩);rw [Tbo hne];have h2:=h.2 i' j' q1 q2;exact ⟨fun hp=>h2.1 (((h1 _ _ q1 q2).1 hp).resolve_right e),fun hn=>h2.2 fun hp=>hn ((h1 _ _ q1 q2).2 (.inl hp))⟩
theorem TabB.mono {o:Opr} {sets:List Nat} {P P':Nat->Nat->Prop} {T:List Nat} (h:TabB g o sets P T) (h1:∀ i j,i<=j->j < sets.length->(P' i j ↔ P i j)):TabB g o sets P' T:=⟨h.1,fun i j q1 q2=>by
 have h2:=h.2 i j q1 q2;rw [h1 i j q1 q2];exact h2⟩
theorem TabB.zero {o:Opr} {sets:List Nat} {P:Nat->Nat->Prop} {T:List Nat} (h:TabB g o sets P T) {i j:Nat} (hij:i<=j) (hj:j < sets.length) (hn:¬ P i j):T.set (i * sets.length+j) 0=T:=by
 have h1:=(h.2 i j hij hj).2 hn;have hl:=ZeI (n:=sets.length) (i:=i) (j:=j) om hj;refine List.ext_getElem? fun q=>?_;by_cases e:q=i * sets.length+j
 ·subst e;rw [Tbn (by rw [h.1];exact hl),h1]
 ·rw [Tbo (Ne.symm e)]
def szP (size i0:Nat) (i j:Nat):Prop:=j+1 < i+size∨(j+1=i+size∧i < i0)
theorem wmul {i n:Nat} (hi:i<=10) (hn:n<=10):IntKind.i64.wrap ((i:Int) * (n:Int))=((i * n:Nat):Int):=by
 have:i * n<=10 * 10:=Nat.mul_le_mul hi hn;exact ZbM (by simp) om om
theorem wadd {i n:Nat} (hi:i<=1000) (hn:n<=1000):IntKind.i64.wrap ((i:Int)+(n:Int))=((i+n:Nat):Int):=ZbM (by simp) om om
theorem Zpw (hg:SgnOk g) {op:Int} {o:Opr} (h0:0<=op) (ho:g.ops[op.toNat]?=some o) (ha:o.assoc=true) (sets:List Nat) (hn1:1<=sets.length) (hn7:sets.length<=7) (hs:∀ s∈sets,s < 2 ^ g.sorts.names.length):Con e0 116 [.agg (Zaf g),.one (.lit (.int .i64 op)),.one (.sl (nR sets))] [.one (.lit (.int .i64 ((cvN g o sets 0 sets.length:Nat):Int)))]:=by
 have hN:=hg.sorts.n8;have rl:=Za4 (l:=sets);have rr:=ZaW (l:=sets);have hnn:sets.length * sets.length<=7 * 7:=Nat.mul_le_mul hn7 hn7;have hmx:(((sets.length * sets.length:Nat):Int)<=(maxApp:Int))=True:=eq_true (by unfold maxApp;omega);have hdeg:=Opr.deg2 hg ho (.inl ha);have hcv:∀ i j,cvN g o sets i j < 2 ^ g.sorts.names.length:=fun i j=>ZcK _ _;have hRlt:=fun a c b (h:Rel2 g o a c b)=>Rel2.lt hg (Tac ho) h
 have wnn:=wmul (i:=sets.length) (n:=sets.length) om om;have cU:=Zf2 hg.sorts.n8 hg.sorts.m16 (SortsOk.subsIn hg.sorts.subs);have hT0:=TabB.start (g:=g) (o:=o) (sets:=sets) (P:=szP 1 0) fun i j h q=>by unfold szP at q;omega
 rw [ZaZ] at cU;rw [Zaf];refine gI (ts:=[.slot 6]) 36028870066978767 Tryz.func116 ?_;refine fN 2 (ai @rl @tmz) ?_;refine gB ?_;refine fC @tmz (cU) ?_;refine fR @tmz ?_;refine fG (aj6 @rl @wnn @hmx @Tbw @nR_0 @tmz) ?_;generalize List.replicate (sets.length * sets.length) 0=T0 at hT0 ⊢;have F:=@tmz;refine gL (ι:=Nat × List Nat) [9,10,11,12,13,25,32,36,55] [9] (fun x=>[(10,A.d (.one (.lit (.int .i64 x.1)))),(9,.buf 9)]) (fun x=>[(9,.buf none 3 1 (nR x.2))]) (fun x=>1<=x.1∧x.1<=sets.length+1∧TabB g o sets (szP x.1 0) x.2) (fun x=>sets.length+1 - x.1) ((1,T0)) (⟨Tai _,om,hT0⟩) (fun x hx=>?_);clear F
 clear hT0 T0;obtain ⟨size,T⟩:=x;obtain ⟨hz1,hz2,hT⟩:=hx;simp only at hz1 hz2 hT;dsimp only;have nl:=Za4 (l:=T);rw [hT.1] at nl;have nr:=ZaW (l:=T);by_cases hzl:size<=sets.length;rotate_left
 ·obtain rfl:size=sets.length+1:=by omega
  have q1:(((sets.length+1:Nat):Int)<=(sets.length:Int))=False:=eq_false om;have hg1:=((hT.2 0 (sets.length - 1) om om).1 (.inl om));rw [show 0 * sets.length+(sets.length - 1)=sets.length - 1 by omega,show sets.length - 1+1=sets.length by omega] at hg1;have hg2:=Za8 hg1;have w1:IntKind.i64.wrap ((sets.length:Int) - 1)=((sets.length - 1:Nat):Int):=ZbM om om om;have hle:sets.length * 1<=sets.length * sets.length:=Nat.mul_le_mul_left _ hn1
  have i1:(sets.length - 1 < sets.length * sets.length)=True:=eq_true om;exact fD (aj8 @q1 @nl @nr @hg2 @w1 @i1 @Zax @tmz)
 have q1:((size:Int)<=(sets.length:Int))=True:=eq_true om;have hws:=Zao (k:=size) om;clear nl nr;refine fG (ai @q1 @tmz) ?_;have F:=@tmz;refine gL (ι:=Nat × List Nat) [9,11,12,13,32,36,55] [9] (fun y=>[(11,A.d (.one (.lit (.int .i64 y.1)))),(9,.buf 9)]) (fun y=>[(9,.buf none 3 1 (nR y.2))]) (fun y=>y.1+size<=sets.length+1∧TabB g o sets (szP size y.1) y.2) (fun y=>sets.length+1 - y.1) ((0,T)) (⟨om,hT⟩) (fun y hy=>?_);clear F
 clear hT T;obtain ⟨i,T⟩:=y;obtain ⟨hi,hT⟩:=hy;simp only at hi hT;dsimp only;have nl:=Za4 (l:=T);rw [hT.1] at nl;have nr:=ZaW (l:=T);have wis:=wadd (i:=i) (n:=size) om om;by_cases hil:i+size<=sets.length;rotate_left
 ·have q2:(((i+size:Nat):Int)<=(sets.length:Int))=False:=eq_false om;have hT2:TabB g o sets (szP (size+1) 0) T:=hT.mono fun i' j' h1 h2=>by
   unfold szP;omega
  have F:=aj4 @q2 @wis @hws @tmz;refine gG ?_;exact ⟨(size+1,T),⟨om,om,hT2⟩,gw,gw,om⟩
 have q2:(((i+size:Nat):Int)<=(sets.length:Int))=True:=eq_true om;have hwi:=Zao (k:=i) om;have wii:=wmul (i:=i) (n:=sets.length) om om;have hlt:=ZeI (n:=sets.length) (i:=i) (j:=i+size - 1) om om;by_cases hs1:size=1
 ·subst hs1;have q3:(((1:Nat):Int)=1)=True:=eq_true rfl;obtain ⟨s,hsi⟩:∃ s,sets[i]?=some s:=⟨_,Taa om⟩;have r1:=Za8 hsi;have e:cvN g o sets i (i+1)=s:=by unfold cvN;exact ZvE hsi (hs s (Tac hsi))
  have hT2:TabB g o sets (szP 1 (i+1)) (T.set (i * sets.length+i) (cvN g o sets i (i+1))):=hT.next (Tai _) om fun i' j' h1 h2=>by
   unfold szP;omega
  rw [e] at hT2;have wa:=wadd (i:=i * sets.length) (n:=i) om om;have ns:=Zdg (l:=T) (i * sets.length+i) s;obtain ⟨z,hz⟩:∃ z,T[i * sets.length+i]?=some z:=⟨_,Taa (by rw [hT.1];exact ZeI om om)⟩;have ng:=Za8 hz;have i1:(i < sets.length)=True:=eq_true om;have i2:(i * sets.length+i < sets.length * sets.length)=True:=eq_true (ZeI om om);have F:=aj15 @q2 @wis @q3 @wii @wa @r1 @rl @rr @nl @nr @ns @ng @i1 @i2 (aj3 @hwi @Zax @tmz);refine gG ?_;exact ⟨(i+1,T.set (i * sets.length+i) s),⟨om,hT2⟩,gw,gw,om⟩
 have q3:((size:Int)=1)=False:=eq_false om;obtain ⟨j,hj⟩:∃ j,j+1=i+size:=⟨i+size - 1,om⟩;have wj:IntKind.i64.wrap (((i+size:Nat):Int) - 1)=(j:Int):=ZbM om om om;have hij:i < j:=om;have hjn:j < sets.length:=om;have hij2:i<=j:=om;have hlt:=ZeI (n:=sets.length) (i:=i) (j:=j) om hjn;have waj:=wadd (i:=i * sets.length) (n:=j) om om;have hz0:=hT.zero hij2 hjn (by unfold szP;omega);have hzz:nR (T.set (i * sets.length+j) 0)=nR T:=by rw [hz0]
 have hnx:TabB g o sets (szP size (i+1)) (T.set (i * sets.length+j) (cvN g o sets i (j+1))):=hT.next hij2 hjn fun i' j' h1 h2=>by
  unfold szP;omega
 refine fN 13 (aj5 @q2 @wis @q3 @wj @tmz) ?_;refine fG @tmz ?_;have F:=ai @hzz @tmz;refine gL (ι:=Nat × Nat) [9,13,55] [9] (fun z=>[(13,A.d (.one (.lit (.int .i64 z.1)))),(9,.buf 9)]) (fun z=>[(9,.buf none 3 1 (nR (T.set (i * sets.length+j) z.2)))]) (fun z=>i<=z.1∧z.1<=j∧z.2=ofB (CutB (Rel2 g o) sets g.sorts.names.length i (j+1) (z.1+1)) g.sorts.names.length) (fun z=>j - z.1) ((i,0)) (⟨Tai _,om,ZvD.symm⟩) (fun z hz=>?_);clear F
 obtain ⟨k,v⟩:=z;obtain ⟨hk1,hk2,hv⟩:=hz;simp only at hk1 hk2 hv;subst hv;dsimp only;by_cases hkj:k < j;rotate_left
 ·obtain rfl:k=j:=by omega
  have q4:=lF k k;have e:ofB (CutB (Rel2 g o) sets g.sorts.names.length i (k+1) (k+1)) g.sorts.names.length=cvN g o sets i (k+1):=ZzG hs hRlt om;rw [e];have F:=aj3 @q4 @hwi @tmz;refine gG ?_;exact ⟨(i+1,T.set (i * sets.length+k) (cvN g o sets i (k+1))),⟨om,hnx⟩,gw,gw,om⟩
 have q4:=lT k j;have hwk:=Zao (k:=k) om;have hTk:=(hT.2 i k hk1 om).1 (by unfold szP;omega);have hTj:=(hT.2 (k+1) j om hjn).1 (by unfold szP;omega);have hltk:=ZeI (n:=sets.length) (i:=i) (j:=k) om om;have hltj:=ZeI (n:=sets.length) (i:=k+1) (j:=j) om hjn;have wak:=wadd (i:=i * sets.length) (n:=k) om om;have wm2:=wmul (i:=k+1) (n:=sets.length) om om;have wa2:=wadd (i:=(k+1) * sets.length) (n:=j) om om
 have e:=fun b=>Zxj (R:=Rel2 g o) (sets:=sets) (N:=g.sorts.names.length) (i:=i) (j:=j+1) (k:=k+1) (b:=b) om om;have e:ofB (CutB (Rel2 g o) sets g.sorts.names.length i (j+1) (k+1)) g.sorts.names.length ||| ofB (fun b=>Two (Rel2 g o) (cvN g o sets i (k+1)) (cvN g o sets (k+1) (j+1)) b) g.sorts.names.length=ofB (CutB (Rel2 g o) sets g.sorts.names.length i (j+1) (k+1+1)) g.sorts.names.length:=by
  rw [Zir];exact ZbE fun b _=>(e b).symm
 have cR:=ZhA hg (Tac ho) [cvN g o sets i (k+1),cvN g o sets (k+1) (j+1)] (fun d hd=>hdeg d hd) (by simp) (fun s hs=>by
  simp only [Tbg,List.not_mem_nil,or_false] at hs;rcases hs with rfl | rfl <;> exact hcv _ _)
 rw [show ofB (Zdb g o [cvN g o sets i (k+1),cvN g o sets (k+1) (j+1)]) g.sorts.names.length=ofB (fun b=>Two (Rel2 g o) (cvN g o sets i (k+1)) (cvN g o sets (k+1) (j+1)) b) g.sorts.names.length from ZbE fun b _=>Zob hdeg] at cR;have cR:=Ziw cR;have hor:=Zep (ZcH (ZcK (CutB (Rel2 g o) sets g.sorts.names.length i (j+1) (k+1)) g.sorts.names.length) hN) (ZcH (ZcK (fun b=>Two (Rel2 g o) (cvN g o sets i (k+1)) (cvN g o sets (k+1) (j+1)) b) g.sorts.names.length) hN)
 rw [e] at hor;clear e;generalize ofB (fun b=>Two (Rel2 g o) (cvN g o sets i (k+1)) (cvN g o sets (k+1) (j+1)) b) g.sorts.names.length=tw at cR hor;generalize ofB (CutB (Rel2 g o) sets g.sorts.names.length i (j+1) (k+1)) g.sorts.names.length=v at hor ⊢;have nl2:=Za4 (l:=T.set (i * sets.length+j) v);rw [Taz,hT.1] at nl2;have nr2:=ZaW (l:=T.set (i * sets.length+j) v);have ne1:i * sets.length+j≠i * sets.length+k:=om
 have ne2:i * sets.length+j≠(k+1) * sets.length+j:=fun q=>by have:=Zrn hjn hjn q;omega
 have g1:(nR (T.set (i * sets.length+j) v))[i * sets.length+j]?=some [.lit (.int .i64 v)]:=Za8 (Tbn (by rw [hT.1];exact hlt));have g2:(nR (T.set (i * sets.length+j) v))[i * sets.length+k]?=some [.lit (.int .i64 (cvN g o sets i (k+1)))]:=Za8 (by rw [Tbo ne1];exact hTk);have g3:(nR (T.set (i * sets.length+j) v))[(k+1) * sets.length+j]?=some [.lit (.int .i64 (cvN g o sets (k+1) (j+1)))]:=Za8 (by rw [Tbo ne2];exact hTj)
 have ns:=fun x=>Zdg (l:=T.set (i * sets.length+j) v) (i * sets.length+j) x;simp only [List.set_set] at ns;have i1:(i * sets.length+j < sets.length * sets.length)=True:=eq_true hlt;have i2:(i * sets.length+k < sets.length * sets.length)=True:=eq_true hltk;have i3:((k+1) * sets.length+j < sets.length * sets.length)=True:=eq_true hltj;clear nl nr;refine fN 16 (ai @q4 @tmz) ?_;refine gB ?_;refine fC (aj16 @wii @waj @wak @hwk @wm2 @wa2 @nl2 @nr2 @g1 @g2 @g3 @i1 @i2 @i3 @h0 (aj4 @ho @Zag @Zax @tmz)) (cR) ?_
 refine fR (aj8 @nl2 @nr2 @g1 @hor @ns @i1 @Zax @tmz) ?_;have F:=ai @hwk @tmz;refine gG ?_;exact ⟨(k+1,ofB (CutB (Rel2 g o) sets g.sorts.names.length i (j+1) (k+1+1)) g.sorts.names.length),⟨om,hkj,rfl⟩,gw,gw,om⟩
end
def Env.plus (e:Env) (E2:Nat->Prop) (G2:World->Prop):Env:=⟨e.P,fun b=>e.E b∨E2 b,fun w=>e.G w∧G2 w,e.D⟩
structure Fits (e:Env) (E2:Nat->Prop) (G2:World->Prop):Prop where
 st:Zc0 E2 G2
 dj:∀ w,G2 w->∀ b,E2 b->¬ e.E b
section
variable {e:Env} {E2:Nat->Prop} {G2:World->Prop}
theorem Fits.ok (h:Fits e E2 G2) (he:e.Ok):(e.plus E2 G2).Ok:=⟨fun w w' hz hb ⟨h1,h2⟩=>⟨he.keep w w' hz (fun b hb'=>hb b (.inl hb')) h1,h.st w w' hz (fun b hb'=>hb b (.inr hb')) h2⟩,he.mixed⟩
theorem Kept.up {D:Prop} {E E':Nat->Prop} {B:Nat} {w w':World} (h:Kept D E B w w') (hE:∀ b,E b->E' b):Kept D E' B w w':=⟨h.os,h.tape,h.output,h.drawn,h.size,fun k hk hn=>h.block k hk fun q=>hn (hE k q)⟩
theorem Fits.keep (h:Fits e E2 G2) {E:Nat->Prop} {w w':World} (hk:Kept e.D E w.heap.size w w') (hE:∀ b,(e.plus E2 G2).E b->b < w.heap.size) (hG:G2 w) (hn:∀ b,E2 b->¬ E b):G2 w':=h.st w w' hk.size (fun b hb=>hk.block b (hE b (.inr hb)) (hn b hb)) hG
theorem Con.up (h2:Fits e E2 G2) {f:FuncId} {args r:List D} (h:Con e f args r):Con (e.plus E2 G2) f args r :=
 ⟨h.1,fun w S vs hS hE hG hvs=>(h.2 w S vs (fun b hb=>⟨(hS b hb).1,fun q=>(hS b hb).2 (.inl q)⟩) (fun b hb=>hE b (.inl hb)) hG.1 hvs).mono fun en w' ⟨v,h1,hk,hg,ha⟩=>⟨v,h1,hk.up fun _=>.inl,⟨hg,h2.keep hk hE hG.2 (h2.dj w hG.2)⟩,ha⟩⟩
theorem ConE.up (h2:Fits e E2 G2) {f:FuncId} {args:List D} {R:List D->Prop} (h:ConE e f args R):ConE (e.plus E2 G2) f args R :=
 ⟨h.1,fun w S vs hS hE hG hvs=>(h.2 w S vs (fun b hb=>⟨(hS b hb).1,fun q=>(hS b hb).2 (.inl q)⟩) (fun b hb=>hE b (.inl hb)) hG.1 hvs).mono fun en w' ⟨v,r,h1,hr,hk,hg,ha⟩=>⟨v,r,h1,hr,hk.up fun _=>.inl,⟨hg,h2.keep hk hE hG.2 (h2.dj w hG.2)⟩,ha⟩⟩
theorem ConR.up (h2:Fits e E2 G2) {f:FuncId} {args:List D} {ty sz:Nat} {rows:List (List C)} (h:ConR e f args ty sz rows):ConR (e.plus E2 G2) f args ty sz rows :=
 ⟨h.1,fun w S vs hS hE hG hvs=>(h.2 w S vs (fun b hb=>⟨(hS b hb).1,fun q=>(hS b hb).2 (.inl q)⟩) (fun b hb=>hE b (.inl hb)) hG.1 hvs).mono fun en w' ⟨v,h1,hk,hg,ha⟩=>⟨v,h1,hk.up fun _=>.inl,⟨hg,h2.keep hk hE hG.2 (h2.dj w hG.2)⟩,ha⟩⟩
theorem ConI.up (h2:Fits e E2 G2) {f:FuncId} {ty sz:Nat} {rows rows':List (List C)} {args r:List D} (h:ConI e f ty sz rows args rows' r):ConI (e.plus E2 G2) f ty sz rows args rows' r :=
 ⟨h.1,fun w S v0 vs hS hE h0 hG hb hvs=>(h.2 w S v0 vs (fun b hb=>⟨(hS b hb).1,fun q=>(hS b hb).2 (.inl q)⟩) (fun b hb=>hE b (.inl hb)) (fun g hg q=>h0 g hg (.inl q)) hG.1 hb hvs).mono fun en w' ⟨v,h1,hk,hg,ha⟩=>⟨v,h1,hk.up fun _ q=>q.elim (fun q=>.inl (.inl q)) .inr,⟨hg,h2.keep hk hE hG.2 fun b hb q=>q.elim (h2.dj w hG.2 b hb) fun q=>h0 b q (.inr hb)⟩,ha⟩⟩
theorem ConT.up (h2:Fits e E2 G2) {f:FuncId} {ty sz:Nat} {rows rows':List (List C)} {args:List D} (h:ConT e f ty sz rows args rows'):ConT (e.plus E2 G2) f ty sz rows args rows' :=
 ⟨h.1,fun w S v0 vs hS hE h0 hG hb hvs=>(h.2 w S v0 vs (fun b hb=>⟨(hS b hb).1,fun q=>(hS b hb).2 (.inl q)⟩) (fun b hb=>hE b (.inl hb)) (fun g hg q=>h0 g hg (.inl q)) hG.1 hb hvs).mono fun en w' ⟨v,h1,hk,hg,ha⟩=>⟨v,h1,hk.up fun _ q=>q.elim (fun q=>.inl (.inl q)) .inr,⟨hg,h2.keep hk hE hG.2 fun b hb q=>q.elim (h2.dj w hG.2 b hb) fun q=>h0 b q (.inr hb)⟩,ha⟩⟩
theorem ConP.up (h2:Fits e E2 G2) {f:FuncId} {args:List D} {pm:List Bk} {R:List D->List Bk->Prop} (h:ConP e f args pm R):ConP (e.plus E2 G2) f args pm R :=
 ⟨h.1,fun w S vs hS hE hG hpm hap hvs=>(h.2 w S vs (fun b hb=>⟨(hS b hb).1,fun q=>(hS b hb).2 (.inl q)⟩) (fun b hb=>hE b (.inl hb)) hG.1 (fun x hx=>⟨(hpm x hx).1,fun g hg q=>(hpm x hx).2 g hg (.inl q)⟩) hap hvs).mono fun en w' ⟨v,r,pm',h1,hr,hk,hg,ha⟩=>⟨v,r,pm',h1,hr,hk.up fun _ q=>q.elim (fun q=>.inl (.inl q)) .inr,⟨hg,h2.keep hk hE hG.2 fun b hb q=>q.elim (h2.dj w hG.2 b hb) fun ⟨x,hx,hxg⟩=>(hpm x hx).2 b hxg (.inr hb)⟩,ha⟩⟩
theorem Zxt {ι:Type} {G:ι->World->Prop} {ok:ι->Prop} (h2:Fits e E2 G2) (hst:∀ i,Zc0 E2 (G i)) (ho:∀ w,G2 w->∃ i,ok i∧G i w) (hi:∀ w i,(∀ b,E2 b->¬ e.E b)->ok i->G i w->G2 w) {f:FuncId} {xs r:List D} (hb:Zcf e.P f=true)
  (h:∀ i,ok i->ConP e f xs [.set E2 (G i)] (fun r' pm=>r'=r∧∃ i',ok i'∧pm=[.set E2 (G i')])):Con (e.plus E2 G2) f xs r:=by
 refine ⟨hb,fun w S vs hS hE hG hvs=>?_⟩;obtain ⟨i,hi1,hi2⟩:=ho w hG.2;have hdj:=h2.dj w hG.2;refine ((h i hi1).2 w S vs (fun b hb=>⟨(hS b hb).1,fun q=>(hS b hb).2 (.inl q)⟩) (fun b hb=>hE b (.inl hb)) hG.1 (fun x hx=>?_) ⟨fun y hy=>(by cases hy),trivial⟩ hvs).mono fun en w' ⟨v,r',pm,h1,⟨hr,i',hi1',hpm⟩,hk,hg,hp,_,ha⟩=>?_
 ·obtain rfl:=Tbj.1 hx;exact ⟨⟨fun b hb=>⟨hE b (.inr hb),fun q=>(hS b q).2 (.inr hb)⟩,hi2,hst i⟩,fun g hg=>hdj g hg⟩
 ·subst hr hpm;have hpb:∀ (G:World->Prop) (b:Nat),ZaU [.set E2 G] b ↔ E2 b:=fun G b=>⟨fun ⟨x,hx,hg⟩=>by obtain rfl:=Tbj.1 hx;exact hg,fun q=>⟨_,Tbj.2 rfl,q⟩⟩;refine ⟨v,h1,hk.up fun b q=>q.elim .inl fun q=>.inr ((hpb _ b).1 q),⟨hg,hi w' i' hdj hi1' (hp _ (Tbj.2 rfl)).1.2.1⟩,ha.keep (Tai _) (fun _ _ _=>rfl) fun b hb=>?_⟩;rcases hb.1 with q | q | q
  ·exact .inl q
  ·exact absurd ((hpb _ b).2 ((hpb _ b).1 q)) hb.2
  ·exact .inr q
theorem ZzW {mask:Nat} {c:Code} {s:List (Nat × A)} {m:List (Nat × Bk)} {Q:PX->St->Prop} {G1:World->Prop} (k:Nat) (hst:Zc0 E2 G2) (hm:gm m k=some (.set E2 G1)) (h2:(∀ b,E2 b->¬ e.E b)->Fits e E2 G2∧∀ w,G1 w->G2 w) (h:Fits e E2 G2->pwp (e.plus E2 G2) mask c ⟨s,remM k m⟩ Q):pwp e mask c ⟨s,m⟩ Q:=by
 intro he U w0 S0 nt a w hok ⟨S,L,hs⟩;have hc:=hs.cls;have ho:=hc.own k _ hm;obtain ⟨hF,hG⟩:=h2 fun b hb=>hc.notE hm (show Zas L k (.set E2 G1) b from hb);have hlt:∀ b,e.E b∨E2 b->b < w.heap.size:=fun b hb=>hb.elim (fun q=>Tbd (hc.ein b q) hc.bsz) fun q=>(ho.1 b q).1;have hsub:∀ k' bk,gm (remM k m) k'=some bk->k'≠k∧gm m k'=some bk:=fun k' bk hk'=>by
  rw [ZaA] at hk';by_cases e:k'=k
  ·rw [if_pos e] at hk';cases hk'
  ·rw [if_neg e] at hk';exact ⟨e,hk'⟩
 have hs2:SimE (e.plus E2 G2) (fun g=>∃ k' bk,gm (remM k m) k'=some bk∧Zas L k' bk g) w S nt ⟨s,remM k m⟩ a w:=by
  refine ⟨S,L,⟨fun b hb=>⟨(hc.sin b hb).1,fun q=>q.elim (hc.sin b hb).2 fun q=>(ho.1 b q).2 hb⟩,fun b hb=>.inl hb,hlt,?_,Tai _,fun k' bk g h1 h2=>.inr ⟨k',bk,h1,h2⟩,fun k' bk hk'=>hc.own k' bk (hsub k' bk hk').2,fun k1 k2 x1 x2 g h1 h2=>hc.inj k1 k2 x1 x2 g (hsub k1 x1 h1).2 (hsub k2 x2 h2).2,⟨hc.g,hG w ho.2.1⟩⟩,hs.rel,hs.size,hs.defers,Kept.refl _ _ _ _⟩;rintro b ⟨k',bk,h1,h3⟩ q;obtain ⟨hne,h1⟩:=hsub k' bk h1
  rcases q with q | q
  ·exact hc.notE h1 h3 q
  ·exact hne (hc.inj k' k bk _ b h1 hm h3 q)
 refine wp_mono (h hF (hF.ok he) _ _ _ _ _ w hok hs2) fun ex a' w' hq=>?_;have back:∀ σ',SimE (e.plus E2 G2) (fun g=>∃ k' bk,gm (remM k m) k'=some bk∧Zas L k' bk g) w S nt σ' a' w'->SimE e U w0 S0 nt σ' a' w':=fun σ' ⟨S1,L1,h1⟩=>by
  have c1:=h1.cls;have hU:∀ b,(∃ k' bk,gm (remM k m) k'=some bk∧Zas L k' bk b)->w0.heap.size<=b∨U b:=fun b ⟨k',bk,q1,q2⟩=>hc.mine k' bk b (hsub k' bk q1).2 q2;refine ⟨S1,L1,⟨fun b hb=>⟨(c1.sin b hb).1,fun q=>(c1.sin b hb).2 (.inl q)⟩,fun b hb=>?_,hc.ein,hc.uin,Tbe hc.bsz c1.bsz,fun k' bk g q1 q2=>?_,c1.own,c1.inj,c1.g.1⟩,h1.rel,h1.size,h1.defers,⟨h1.kept.os.trans hs.kept.os,h1.kept.tape.trans hs.kept.tape,h1.kept.output.trans hs.kept.output,fun d=>Tbe (hs.kept.drawn d) (h1.kept.drawn d),Tbe hs.kept.size h1.kept.size,fun b hb hn=>?_⟩⟩
  ·rcases c1.sfr b hb with q | q | q
   ·exact hc.sfr b q
   ·exact .inr (.inl (Tbe hc.bsz q))
   ·exact .inr (hU b q)
  ·rcases c1.mine k' bk g q1 q2 with q | q
   ·exact .inl (Tbe hc.bsz q)
   ·exact hU g q
  ·refine (h1.kept.block b (Tbd hb hs.kept.size) fun q=>?_).trans (hs.kept.block b hb hn);rcases q with (q | q) | q
   ·exact hn (.inl q)
   ·rcases hc.mine k _ b hm (show Zas L k (.set E2 G1) b from q) with q | q
    ·omega
    ·exact hn (.inr q)
   ·rcases hU b q with q | q
    ·omega
    ·exact hn (.inr q)
 cases ex with
 | normal=>exact hq.elim fun σ' hq=>⟨σ',hq.1,back σ' hq.2⟩
 | exit id=>exact hq.elim fun σ' hq=>⟨σ',hq.1,back σ' hq.2⟩
 | ret=>exact hq.elim fun σ' hq=>⟨σ',hq.1,back σ' hq.2⟩
 | goto l=>exact hq
 | panic ch=>exact hq
 | outgrown=>exact hq
end
mutual
theorem Zmr:∀ t:Tm,sizeTm t<=Zal (Zab t)+1
 | .mk _ _ _ args=>by
  have:=Zk3 args;simp only [sizeTm,Zab,Zal,Zdl];omega
theorem Zk3:∀ ts:List Tm,sizeTms ts<=(Zaa ts).length+Zar (Zaa ts)
 | []=>by simp [sizeTms]
 | t::ts=>by
  have h1:=Zmr t;have h2:=Zk3 ts;simp only [sizeTms,Zaa,Tag,Zar];omega
end
theorem Zc7 {t:Tm} (h:Zal (Zab t)<=1048576):sizeTm t<=big:=by
 have:=Zmr t;unfold big;omega
theorem Zxu (a b:List C):Zal (a++b)=Zal a+Zal b:=by
 induction a with
 | nil=>simp [Zal]
 | cons x xs ih=>simp only [Taf,Zal,ih];omega
theorem Zix {r:List C}:∀ {rows:List (List C)},r∈rows->Zal r<=Zar rows
 | x::rs,h=>by
  simp only [Zar];rcases Tbg.1 h with rfl | h
  ·omega
  ·have:=Zix h;omega
end Go.Proofs.YteiljfkknokfjaaGreatDoor
namespace Go.Proofs.YteiljfkknokfjaaGreatDoor
open Go.RowKit
open Classical in
noncomputable def cntT (x:Tm):List Tm->Nat
 | []=>0
 | y::l=>(if y=x then 1 else 0)+cntT x l
theorem ZbT {x:Tm}:∀ {l:List Tm},0 < cntT x l ↔ x∈l
 | []=>by simp [cntT]
 | y::l=>by
  simp only [cntT,Tbg];by_cases h:y=x
  ·subst h;simp only [if_true];exact ⟨fun _=>.inl trivial,fun _=>om⟩
  ·simp only [if_neg h,Nat.zero_add,ZbT (l:=l)];exact ⟨.inr,fun h'=>h'.resolve_left fun e=>h e.symm⟩
section
variable (rk:Int->Int) (cm:Int->Bool)
inductive Gr:Tm->Tm->Prop
 | same {a t:Tm} (h:t∈a.args):Gr a t
 | sub {a b t:Tm} (h:t∈a.args) (hg:Gr t b):Gr a b
 | rank {a b:Tm} (ha:a.op≠-1) (hb:b.op≠-1) (hall:∀ u,u∈b.args->Gr a u) (hr:rk b.op < rk a.op):Gr a b
 | bag {a b:Tm} (ha:a.op≠-1) (he:a.op=b.op) (hc:cm a.op=true) (hall:∀ u,u∈b.args->Gr a u) (f:Tm->Tm) (hf:∀ y,cntT y a.args < cntT y b.args->cntT (f y) b.args < cntT (f y) a.args) (hg:∀ y,cntT y a.args < cntT y b.args->Gr (f y) y) (x:Tm) (hx:cntT x b.args < cntT x a.args):Gr a b
 | lex {a b:Tm} (ha:a.op≠-1) (he:a.op=b.op) (hc:cm a.op=false) (hall:∀ u,u∈b.args->Gr a u) (i:Nat) (x y:Tm) (hx:a.args[i]?=some x) (hy:b.args[i]?=some y) (hj:∀ j,j < i->a.args[j]?=b.args[j]?) (hg:Gr x y):Gr a b
variable {rk:Int->Int} {cm:Int->Bool}
def BagG (rk:Int->Int) (cm:Int->Bool) (l m:List Tm):Prop:=(∀ y,cntT y l < cntT y m->∃ x,cntT x m < cntT x l∧Gr rk cm x y)∧∃ x,cntT x m < cntT x l
def LexG (rk:Int->Int) (cm:Int->Bool) (l m:List Tm):Prop:=∃ (i:Nat) (x y:Tm),l[i]?=some x∧m[i]?=some y∧(∀ j,j < i->l[j]?=m[j]?)∧Gr rk cm x y
def ZAO (rk:Int->Int) (cm:Int->Bool) (a b:Tm):Prop:=a.op≠-1∧b.op≠-1∧(∀ u,u∈b.args->Gr rk cm a u)∧(rk b.op < rk a.op∨(a.op=b.op∧cm a.op=true∧BagG rk cm a.args b.args)∨(a.op=b.op∧cm a.op=false∧LexG rk cm a.args b.args))
theorem ZdM {a b:Tm}:Gr rk cm a b ↔ (∃ t,t∈a.args∧(t=b∨Gr rk cm t b))∨ZAO rk cm a b:=by
 constructor
 ·intro h
  cases h with
  | same h=>exact .inl ⟨_,h,.inl rfl⟩
  | sub h hg=>exact .inl ⟨_,h,.inr hg⟩
  | rank ha hb hall hr=>exact .inr ⟨ha,hb,hall,.inl hr⟩
  | bag ha he hc hall f hf hg x hx=>exact .inr ⟨ha,he ▸ ha,hall,.inr (.inl ⟨he,hc,fun y hy=>⟨f y,hf y hy,hg y hy⟩,x,hx⟩)⟩
  | lex ha he hc hall i x y hx hy hj hg=>exact .inr ⟨ha,he ▸ ha,hall,.inr (.inr ⟨he,hc,i,x,y,hx,hy,hj,hg⟩)⟩
 ·rintro (⟨t,ht,rfl | hg⟩ | ⟨ha,hb,hall,hr | ⟨he,hc,hf,x,hx⟩ | ⟨he,hc,i,x,y,hx,hy,hj,hg⟩⟩)
  ·exact .same ht
  ·exact .sub ht hg
  ·exact .rank ha hb hall hr
  ·refine .bag ha he hc hall (fun y=>if h:cntT y a.args < cntT y b.args then Classical.choose (hf y h) else y) (fun y h=>?_) (fun y h=>?_) x hx
   ·simp only [h,dite_true];exact (Classical.choose_spec (hf y h)).1
   ·simp only [h,dite_true];exact (Classical.choose_spec (hf y h)).2
  ·exact .lex ha he hc hall i x y hx hy hj hg
theorem ZaT {t a:Tm} (h:t∈a.args):sizeTm t < sizeTm a:=by
 have:=Zbd h;rw [ZaD a];omega
theorem Zk4 {p q:Tm->Bool}:∀ {E:List Tm},(∀ x,x∈E->p x=true->q x=true)->(∃ z,z∈E∧q z=true∧p z=false)->E.countP p < E.countP q
 | [],_,⟨z,hz,_⟩=>by cases hz
 | e::E,h1,⟨z,hz,hq,hp⟩=>by
  have hle:E.countP p<=E.countP q:=List.countP_mono_left fun x hx=>h1 x (Tal _ hx);rw [List.countP_cons,List.countP_cons];rcases Tbg.1 hz with rfl | hz
  ·rw [hq,hp];simp;omega
  ·have ih:=Zk4 (p:=p) (q:=q) (E:=E) (fun x hx=>h1 x (Tal _ hx)) ⟨z,hz,hq,hp⟩;have:=h1 e Tas
   cases h3:p e
   ·cases h4:q e <;> simp <;> omega
   ·rw [this h3];simp;omega
open Classical in
theorem Zok {R:Tm->Tm->Prop} {Q:Tm->Prop} {E:List Tm} (hE:∀ x,Q x->x∈E) (hir:∀ x,Q x->¬ R x x) (htr:∀ x y z,Q x->Q y->Q z->R x y->R y z->R x z):∀ (n:Nat) (x0:Tm),Q x0->E.countP (fun z=>decide (Q z∧R z x0)) < n->∃ x,Q x∧(x=x0∨R x x0)∧∀ z,Q z->¬ R z x
 | 0,x0,_,h=>om
 | n+1,x0,hq,h=>by
  by_cases hz:∃ z,Q z∧R z x0
  ·obtain ⟨z,hz1,hz2⟩:=hz;have hlt:E.countP (fun y=>decide (Q y∧R y z)) < E.countP (fun y=>decide (Q y∧R y x0)):=by
    refine Zk4 (fun x _ hx=>?_) ⟨z,hE z hz1,by simp [hz1,hz2],by simp [hir z hz1]⟩;simp only [decide_eq_true_eq] at hx ⊢;exact ⟨hx.1,htr x z x0 hx.1 hz1 hq hx.2 hz2⟩
   obtain ⟨x,h1,h2,h3⟩:=Zok hE hir htr n z hz1 om;refine ⟨x,h1,.inr ?_,h3⟩;rcases h2 with rfl | h2
   ·exact hz2
   ·exact htr x z x0 h1 hz1 hq h2 hz2
  ·exact ⟨x0,hq,.inl rfl,fun z h1 h2=>hz ⟨z,h1,h2⟩⟩
theorem ZvU {l m p:List Tm} (hir:∀ x,(x∈l∨x∈m∨x∈p)->¬ Gr rk cm x x) (htr:∀ x y z,(x∈l∨x∈m∨x∈p)->(y∈l∨y∈m∨y∈p)->(z∈l∨z∈m∨z∈p)->Gr rk cm x y->Gr rk cm y z->Gr rk cm x z) (h1:BagG rk cm l m) (h2:BagG rk cm m p):BagG rk cm l p:=by
 have hin:∀ x,(cntT x m < cntT x l∨cntT x p < cntT x m)->x∈l∨x∈m∨x∈p:=fun x hx=>by
  rcases hx with h | h
  ·exact .inl (ZbT.1 om)
  ·exact .inr (.inl (ZbT.1 om))
 have key:∀ x0,(cntT x0 m < cntT x0 l∨cntT x0 p < cntT x0 m)->∃ x,(cntT x p < cntT x l)∧(x=x0∨Gr rk cm x x0):=fun x0 hx0=>by
  obtain ⟨x,q1,q2,q3⟩:=Zok (R:=Gr rk cm) (Q:=fun x=>cntT x m < cntT x l∨cntT x p < cntT x m) (E:=l++(m++p)) (fun x hx=>by simpa using hin x hx) (fun x hx=>hir x (hin x hx)) (fun x y z hx hy hz=>htr x y z (hin x hx) (hin y hy) (hin z hz)) _ x0 hx0 (Tan _)
  ·refine ⟨x,?_,q2⟩;rcases q1 with q1 | q1
   ·by_cases h:cntT x m < cntT x p
    ·obtain ⟨z,h3,h4⟩:=h2.1 x h;exact absurd h4 (q3 z (.inr h3))
    ·omega
   ·by_cases h:cntT x l < cntT x m
    ·obtain ⟨z,h3,h4⟩:=h1.1 x h;exact absurd h4 (q3 z (.inl h3))
    ·omega
 refine ⟨fun y hy=>?_,?_⟩
 ·have step:∃ x0,(cntT x0 m < cntT x0 l∨cntT x0 p < cntT x0 m)∧Gr rk cm x0 y:=by
   by_cases h:cntT y m < cntT y p
   ·obtain ⟨x0,h3,h4⟩:=h2.1 y h;exact ⟨x0,.inr h3,h4⟩
   ·obtain ⟨x0,h3,h4⟩:=h1.1 y om;exact ⟨x0,.inl h3,h4⟩
  obtain ⟨x0,hx0,hg⟩:=step;obtain ⟨x,hx,hxx⟩:=key x0 hx0;refine ⟨x,hx,?_⟩;rcases hxx with rfl | hxx
  ·exact hg
  ·exact htr x x0 y (.inl (ZbT.1 om)) (hin x0 hx0) (.inr (.inr (ZbT.1 om))) hxx hg
 ·obtain ⟨x0,hx0⟩:=h1.2;obtain ⟨x,hx,_⟩:=key x0 (.inl hx0);exact ⟨x,hx⟩
theorem ZvV {l m p:List Tm} (htr:∀ x y z,x∈l->y∈m->z∈p->Gr rk cm x y->Gr rk cm y z->Gr rk cm x z) (h1:LexG rk cm l m) (h2:LexG rk cm m p):LexG rk cm l p:=by
 obtain ⟨i,x,y,hx,hy,hj,hg⟩:=h1;obtain ⟨k,u,v,hu,hv,hk,hh⟩:=h2;rcases Nat.lt_trichotomy i k with h | h | h
 ·exact ⟨i,x,y,hx,by rw [<- hk i h];exact hy,fun j hji=>(hj j hji).trans (hk j om),hg⟩
 ·subst h;obtain rfl:y=u:=by rw [hy] at hu;injection hu
  exact ⟨i,x,v,hx,hv,fun j hji=>(hj j hji).trans (hk j hji),htr x y v (Tac hx) (Tac hy) (Tac hv) hg hh⟩
 ·exact ⟨k,u,v,by rw [hj k h];exact hu,hv,fun j hji=>(hj j om).trans (hk j hji),hh⟩
def TrOn (rk:Int->Int) (cm:Int->Bool) (k:Nat):Prop:=∀ a b c,sizeTm a<=k->sizeTm b<=k->sizeTm c<=k->Gr rk cm a b->Gr rk cm b c->Gr rk cm a c
def IrOn (rk:Int->Int) (cm:Int->Bool) (k:Nat):Prop:=∀ a,sizeTm a<=k->¬ Gr rk cm a a
theorem Zrp {k:Nat} (hI:IrOn rk cm k) (hT:TrOn rk cm k):∀ (n:Nat) (a b c:Tm),sizeTm a+sizeTm b+sizeTm c < n->sizeTm a<=k+1->sizeTm b<=k+1->sizeTm c<=k+1->Gr rk cm a b->Gr rk cm b c->Gr rk cm a c
 | 0,_,_,_,h,_,_,_,_,_=>om
 | n+1,a,b,c,hn,ka,kb,kc,hab,hbc=>by
  have ih:=Zrp hI hT n;rcases ZdM.1 hab with ⟨t,ht,rfl | hg⟩ | ⟨ha,hb,hall,hr⟩
  ·exact .sub ht hbc
  ·have:=ZaT ht;exact .sub ht (ih t b c om om kb kc hg hbc)
  ·rcases ZdM.1 hbc with ⟨u,hu,rfl | hg⟩ | ⟨_,hc,hall2,hr2⟩
   ·exact hall u hu
   ·have:=ZaT hu;exact ih a u c om ka om kc (hall u hu) hg
   ·refine ZdM.2 (.inr ⟨ha,hc,fun v hv=>by
     have:=ZaT hv;exact ih a b v om ka kb om hab (hall2 v hv),?_⟩)
    have el:∀ x,(x∈a.args∨x∈b.args∨x∈c.args)->sizeTm x<=k:=fun x hx=>by
     rcases hx with h | h | h <;> (have:=ZaT h;omega)
    rcases hr with hr | ⟨e1,c1,hr⟩ | ⟨e1,c1,hr⟩
    ·rcases hr2 with hr2 | ⟨e2,_⟩ | ⟨e2,_⟩
     ·exact .inl om
     ·exact .inl (by rw [<- e2];exact hr)
     ·exact .inl (by rw [<- e2];exact hr)
    ·rcases hr2 with hr2 | ⟨e2,c2,hr2⟩ | ⟨e2,c2,hr2⟩
     ·exact .inl (by rw [e1];exact hr2)
     ·refine .inr (.inl ⟨e1.trans e2,c1,ZvU (fun x hx=>hI x (el x hx)) (fun x y z hx hy hz=>hT x y z (el x hx) (el y hy) (el z hz)) hr hr2⟩)
     ·rw [e1,c2] at c1;cases c1
    ·rcases hr2 with hr2 | ⟨e2,c2,hr2⟩ | ⟨e2,c2,hr2⟩
     ·exact .inl (by rw [e1];exact hr2)
     ·rw [e1,c2] at c1;cases c1
     ·refine .inr (.inr ⟨e1.trans e2,c1,ZvV (fun x y z hx hy hz=>?_) hr hr2⟩);exact hT x y z (el x (.inl hx)) (el y (.inr (.inl hy))) (el z (.inr (.inr hz)))
theorem Zol:∀ (k:Nat),IrOn rk cm k∧TrOn rk cm k
 | 0=>⟨fun a h=>by rw [ZaD] at h;omega,fun a _ _ h=>by rw [ZaD] at h;omega⟩
 | k+1=>by
  obtain ⟨hI,hT⟩:=Zol k;have hT1:TrOn rk cm (k+1):=fun a b c ha hb hc=>Zrp hI hT _ a b c (Tan _) ha hb hc;refine ⟨fun a ha h=>?_,hT1⟩;rcases ZdM.1 h with ⟨t,ht,rfl | hg⟩ | ⟨_,_,hall,hr⟩
  ·have:=ZaT ht;omega
  ·have:=ZaT ht;exact hI t om (hT1 t a t om ha om hg (.same ht))
  ·rcases hr with hr | ⟨_,_,_,x,hx⟩ | ⟨_,_,i,x,y,hx,hy,_,hg⟩
   ·omega
   ·omega
   ·obtain rfl:x=y:=by rw [hx] at hy;injection hy
    have:=ZaT (Tac hx);exact hI x om hg
theorem Gr.irr {a:Tm}:¬ Gr rk cm a a:=(Zol (sizeTm a)).1 a (Tai _)
theorem Gr.trans {a b c:Tm} (h:Gr rk cm a b) (h':Gr rk cm b c):Gr rk cm a c:=(Zol (sizeTm a+sizeTm b+sizeTm c)).2 a b c om om om h h'
theorem Gr.asym {a b:Tm} (h:Gr rk cm a b) (h':Gr rk cm b a):False:=Gr.irr (h.trans h')
end
end Go.Proofs.YteiljfkknokfjaaGreatDoor
namespace Go.Proofs.YteiljfkknokfjaaGreatDoor
open Go.RowKit
def rkF (rank:List Int) (op:Int):Int:=rank.getD op.toNat 0
def cmF (g:Sgn) (op:Int):Bool:=(g.ops[op.toNat]?.map (·.comm)).getD false
open Classical in
noncomputable def grB (g:Sgn) (rank:List Int) (a b:Tm):Bool:=decide (Gr (rkF rank) (cmF g) a b)
theorem ZbY {g:Sgn} {rank:List Int} {a b:Tm}:grB g rank a b=true ↔ Gr (rkF rank) (cmF g) a b:=by simp [grB]
theorem Zcy {g:Sgn} {rank:List Int} {a b:Tm} (h:Gr (rkF rank) (cmF g) a b):grB g rank a b=true:=ZbY.2 h
theorem ZcE {g:Sgn} {rank:List Int} {a b:Tm} (h:¬ Gr (rkF rank) (cmF g) a b):grB g rank a b=false:=by simpa [grB] using h
mutual
def occT (x:Tm):Tm->Bool
 | .mk op nm so args=>decide (Zah x (.mk op nm so args)=0) || Zna x args
def Zna (x:Tm):List Tm->Bool
 | []=>false
 | t::ts=>occT x t || Zna x ts
end
theorem Zmt (x:Tm):∀ (l:List Tm),Zna x l=l.any (occT x)
 | []=>rfl
 | t::ts=>by simp only [Zna,List.any_cons,Zmt x ts]
theorem ZlF (x t:Tm):occT x t=(decide (Zah x t=0) || t.args.any (occT x)):=by
 obtain ⟨op,nm,so,args⟩:=t;simp only [occT,Zmt,Tm.args]
theorem ZhB {x t:Tm}:occT x t=true ↔ x=t∨∃ a∈t.args,occT x a=true:=by
 rw [ZlF,Bool.or_eq_true,decide_eq_true_eq,ZbD,List.any_eq_true]
section
variable {rk:Int->Int} {cm:Int->Bool}
theorem Gr.no_var {a b:Tm} (h:a.args=[]) (hv:a.op=-1):¬ Gr rk cm a b:=fun hg=>by
 rcases ZdM.1 hg with ⟨t,ht,_⟩ | ⟨h1,_⟩
 ·rw [h] at ht;cases ht
 ·exact h1 hv
theorem Zom {b:Tm} (hb:b.op=-1):∀ (n:Nat) (a:Tm),sizeTm a < n->((∃ t∈a.args,occT b t=true) ↔ Gr rk cm a b)
 | 0,a,h=>om
 | n+1,a,h=>by
  rw [ZdM];constructor
  ·rintro ⟨t,ht,ho⟩;refine .inl ⟨t,ht,?_⟩;rcases ZhB.1 ho with rfl | h2
   ·exact .inl rfl
   ·have:=ZaT ht;exact .inr ((Zom hb n t om).1 h2)
  ·rintro (⟨t,ht,rfl | hg⟩ | ⟨_,h2,_⟩)
   ·exact ⟨t,ht,ZhB.2 (.inl rfl)⟩
   ·have:=ZaT ht;exact ⟨t,ht,ZhB.2 (.inr ((Zom hb n t om).2 hg))⟩
   ·exact absurd hb h2
end
theorem ZvW {rk:Int->Int} {cm:Int->Bool} {a b:Tm} (ha:a.op≠-1) (hb:b.op=-1):occT b a=true ↔ Gr rk cm a b:=by
 rw [<- Zom hb _ a (Tan _),ZhB];constructor
 ·rintro (rfl | h)
  ·exact absurd hb ha
  ·exact h
 ·exact .inr
def ersT (y:Tm):List Tm->List Tm
 | []=>[]
 | x::l=>if Zah x y=0 then l else x::ersT y l
open Classical in
theorem Zrq (y z:Tm):∀ (l:List Tm),cntT z (ersT y l)=cntT z l - (if y=z then 1 else 0)
 | []=>by simp [ersT,cntT]
 | x::l=>by
  simp only [ersT];by_cases h:Zah x y=0
  ·rw [if_pos h];obtain rfl:=ZbD.1 h;simp only [cntT];omega
  ·rw [if_neg h];have hne:x≠y:=fun e=>h (ZbD.2 e);simp only [cntT,Zrq y z l];by_cases e:y=z
   ·subst e;rw [if_neg hne,if_pos rfl];omega
   ·rw [if_neg e];omega
def Zbv (l m:List Tm):List Tm:=m.foldl (fun l y=>ersT y l) l
theorem ZhC (z:Tm):∀ (m l:List Tm),cntT z (Zbv l m)=cntT z l - cntT z m
 | [],l=>by simp [Zbv,cntT]
 | y::m,l=>by
  have:=ZhC z m (ersT y l);simp only [Zbv,List.foldl_cons] at this ⊢;rw [this,Zrq];simp only [cntT];omega
theorem ZeS {z:Tm} {l m:List Tm}:z∈Zbv l m ↔ cntT z m < cntT z l:=by
 rw [<- ZbT,ZhC];omega
theorem Zrr (y:Tm):∀ (l:List Tm),(ersT y l).length<=l.length
 | []=>Tai _
 | x::l=>by
  simp only [ersT];split
  ·simp
  ·have:=Zrr y l;simp only [Tag];omega
theorem ZhD:∀ (m l:List Tm),(Zbv l m).length<=l.length
 | [],l=>Tai _
 | y::m,l=>Tbe (ZhD m (ersT y l)) (Zrr y l)
theorem Zrs {y z:Tm}:∀ {l:List Tm},z∈ersT y l->z∈l
 | x::l,h=>by
  simp only [ersT] at h;split at h
  ·exact Tal _ h
  ·rcases Tbg.1 h with rfl | h
   ·exact Tas
   ·exact Tal _ (Zrs h)
theorem ZeT {z:Tm}:∀ {m l:List Tm},z∈Zbv l m->z∈l
 | [],l,h=>h
 | y::m,l,h=>Zrs (ZeT (m:=m) (l:=ersT y l) h)
theorem ZvX {y x:Tm}:∀ {l:List Tm} {k:Nat},l[k]?=some x->Zah x y=0->(∀ (j:Nat) u,j < k->l[j]?=some u->Zah u y≠0)->ersT y l=l.take k++l.drop (k+1)
 | w::l,0,h,hx,_=>by
  simp only [Tat,Taq] at h;subst h;simp [ersT,hx]
 | w::l,k+1,h,hx,hj=>by
  have h0:=hj 0 w om rfl;rw [ersT,if_neg h0,ZvX (l:=l) (k:=k) (by simpa using h) hx fun j u hjk hu=>hj (j+1) u om (by simpa using hu)];simp
theorem ZvY {y:Tm}:∀ {l:List Tm},(∀ (j:Nat) u,l[j]?=some u->Zah u y≠0)->ersT y l=l
 | [],_=>rfl
 | w::l,h=>by
  rw [ersT,if_neg (h 0 w rfl),ZvY (l:=l) fun j u hu=>h (j+1) u (by simpa using hu)]
theorem ZvZ {l m:List Tm} {i:Nat} {y:Tm} (h:m[i]?=some y):Zbv l (m.take (i+1))=ersT y (Zbv l (m.take i)):=by
 rw [List.take_add_one,h];simp [Zbv,List.foldl_append]
theorem Zon {rk:Int->Int} {cm:Int->Bool} {l m:List Tm}:BagG rk cm l m ↔ (∀ u∈Zbv m l,∃ t∈Zbv l m,Gr rk cm t u)∧0 < (Zbv l m).length:=by
 unfold BagG;constructor
 ·rintro ⟨h1,x,hx⟩;refine ⟨fun u hu=>?_,List.length_pos_of_mem (ZeS.2 hx)⟩;obtain ⟨t,h2,h3⟩:=h1 u (ZeS.1 hu);exact ⟨t,ZeS.2 h2,h3⟩
 ·rintro ⟨h1,h2⟩;obtain ⟨x,hx⟩:=List.exists_mem_of_length_pos h2;refine ⟨fun y hy=>?_,x,ZeS.1 hx⟩;obtain ⟨t,h3,h4⟩:=h1 y (ZeS.2 hy);exact ⟨t,ZeS.1 h3,h4⟩
def ZfB (o:Opr):Bool:=!o.assoc && decide (o.unit=0)
noncomputable def Zce (g:Sgn):Bool:=g.ops.all ZfB && Zby g
theorem Zmu {g:Sgn} (h:∀ o∈g.ops,o.assoc=false∧o.unit<=0):Zce g=Zby g:=by
 cases hs:Zby g with
 | false=>rw [Zce,hs,Bool.and_false]
 | true =>
  have hg:=Zdk.1 hs;have:g.ops.all ZfB=true:=List.all_eq_true.2 fun o ho=>by
   have h1:=(hg.axs o ho).lo;obtain ⟨h2,h3⟩:=h o ho;simp only [ZfB,h2,Bool.not_false,Bool.true_and,decide_eq_true_eq];omega
  rw [Zce,this,hs];rfl
theorem ZfC {g:Sgn} {o:Opr} (ho:o∈g.ops) (h:o.assoc=true∨o.unit≠0):Zce g=false:=by
 have:g.ops.all ZfB=false:=(fun (h:ZfB o=false)=>List.all_eq_false.2 ⟨o,ho,by rw [h];exact Bool.false_ne_true⟩) (by
  rcases h with h | h
  ·simp [ZfB,h]
  ·simp [ZfB,h])
 rw [Zce,this,Bool.false_and]
theorem Zmv {l:List Opr} {i:Nat} {o:Opr} (ho:l[i]?=some o) (h:∀ o∈l.take i,o.assoc=false∧o.unit<=0) (h2:o.assoc=false∧o.unit<=0):∀ o∈l.take (i+1),o.assoc=false∧o.unit<=0:=fun o' ho'=>by
 rw [Zb3 ho] at ho';rcases Tbh.1 ho' with h3 | h3
 ·exact h o' h3
 ·rw [Tbj.1 h3];exact h2
section
variable {g:Sgn}
theorem Zoo (hg:ZbL g) (hl:g.ops.length<=1048576):Con e0 20 [.agg (Zaf g)] [.one (.lit (.bool (Zce g)))]:=by
 have cS:=Zgz hg;rw [Zaf] at cS ⊢;refine gI 263127 Tryz.func20 ?_;refine fG @e0P ?_;have F:=@e0P;refine gL (ι:=Nat) [2,4,8,9,18] [] (fun i=>[(8,A.d (.one (.lit (.int .i64 i))))]) (fun i=>[]) (fun i=>i<=g.ops.length∧∀ o∈g.ops.take i,o.assoc=false∧o.unit<=0) (fun i=>g.ops.length - i) (0) (⟨Taj _,fun o h=>by simp at h⟩) (fun i hi=>?_);clear F;obtain ⟨hil,hall⟩:=hi;by_cases hlt:i < g.ops.length;rotate_left
 ·obtain rfl:i=g.ops.length:=by omega
  rw [Tap] at hall;have q1:¬ ((g.ops.length:Int) < (g.ops.length:Int)):=om;have ht:=Zmu hall;refine fB @q1 ?_;refine fC @e0P (cS) ?_;refine fR @e0P ?_;exact fT @ht
 have q1:(i:Int) < (g.ops.length:Int):=om;obtain ⟨o,ho⟩:∃ o,g.ops[i]?=some o:=⟨_,Taa hlt⟩;have hom:=Tac ho;have hw:=Zao (k:=i) om
 cases ha:o.assoc with
 | true =>
  have hf:=ZfC hom (.inl ha);exact fT (aj5 @q1 @ho @Zag @ha @hf)
 | false =>
 by_cases hu:o.unit=0
 ·have z:(o.unit=0)=True:=eq_true hu;have F:=aj6 @q1 @ho @Zag @ha @z @hw;refine gG ?_;exact ⟨i+1,⟨hlt,Zmv ho hall ⟨ha,om⟩⟩,gw,gw,om⟩
 ·have z:(o.unit=0)=False:=eq_false hu;have hf:=ZfC hom (.inr hu);exact fT (aj6 @q1 @ho @Zag @ha @z @hf)
theorem Ziy (hg:ZbL g) (hl:g.ops.length<=1048576):Con e0 10 [.agg (Zaf g)] [.one (.lit (.bool (Zce g)))]:=by
 have cS:=ZgA hg;rw [Zaf] at cS ⊢;refine gI 33554703 Tryz.func10 ?_;refine fG @e0P ?_;have F:=@e0P;refine gL (ι:=Nat) [2,3,8,25] [] (fun i=>[(3,A.d (.one (.lit (.int .i64 i))))]) (fun i=>[]) (fun i=>i<=g.ops.length∧∀ o∈g.ops.take i,o.assoc=false∧o.unit<=0) (fun i=>g.ops.length - i) (0) (⟨Taj _,fun o h=>by simp at h⟩) (fun i hi=>?_);clear F;obtain ⟨hil,hall⟩:=hi;by_cases hlt:i < g.ops.length;rotate_left
 ·obtain rfl:i=g.ops.length:=by omega
  rw [Tap] at hall;have q1:¬ ((g.ops.length:Int) < (g.ops.length:Int)):=om;have ht:=Zmu hall;refine fB @q1 ?_;refine fC @e0P (cS) ?_;refine fR @e0P ?_;exact fT @ht
 have q1:(i:Int) < (g.ops.length:Int):=om;obtain ⟨o,ho⟩:∃ o,g.ops[i]?=some o:=⟨_,Taa hlt⟩;have hom:=Tac ho;have hw:=Zao (k:=i) om
 cases ha:o.assoc with
 | true =>
  have hf:=ZfC hom (.inl ha);exact fT (aj5 @q1 @ho @Zag @ha @hf)
 | false =>
 by_cases hu:0 < o.unit
 ·have z:(0 < o.unit)=True:=eq_true hu;have hf:=ZfC hom (.inr om);exact fT (aj6 @q1 @ho @Zag @ha @z @hf)
 ·have z:(0 < o.unit)=False:=eq_false hu;have F:=aj6 @q1 @ho @Zag @ha @z @hw;refine gG ?_;exact ⟨i+1,⟨hlt,Zmv ho hall ⟨ha,om⟩⟩,gw,gw,om⟩
end
end Go.Proofs.YteiljfkknokfjaaGreatDoor
namespace Go.Proofs.YteiljfkknokfjaaGreatDoor
open Go.RowKit
open Classical in
theorem Zd0 (x:Tm):∀ l:List Tm,cntT x l=l.countP (fun y=>decide (y=x))
 | []=>rfl
 | y::l=>by
  simp only [cntT,List.countP_cons,Zd0 x l];by_cases h:y=x
  ·simp [h];omega
  ·simp [h]
theorem Zf8 (x:Tm) (l m:List Tm):cntT x (l++m)=cntT x l+cntT x m:=by
 rw [Zd0,Zd0,Zd0,List.countP_append]
theorem ZdN {l m:List Tm} (h:l.Perm m) (x:Tm):cntT x l=cntT x m:=by
 rw [Zd0,Zd0,h.countP_eq]
theorem Zv0 {x:Tm} {m:List Tm} (h:x∈m):∃ m1 m2,m=m1++x::m2:=List.append_of_mem h
theorem Zop:∀ {l m:List Tm},(∀ x,cntT x l=cntT x m)->l.Perm m
 | [],m,h=>by
  cases m with
  | nil=>exact List.Perm.refl _
  | cons y m =>
   have h0:=h y;have:=(ZbT (x:=y) (l:=y::m)).2 Tas;simp only [cntT] at h0 this;omega
 | x::l,m,h=>by
  have hx:x∈m:=ZbT.1 (by rw [<- h x];exact ZbT.2 Tas);obtain ⟨m1,m2,rfl⟩:=Zv0 hx;have ih:l.Perm (m1++m2):=Zop fun y=>by
   have:=h y;rw [Zf8] at this ⊢;simp only [cntT] at this;omega
  exact (List.Perm.cons x ih).trans List.perm_middle.symm
section
variable {rk:Int->Int} {cm:Int->Bool}
theorem ZzY {X Y:List Tm} (h0:X≠[]) (hd:∀ y∈Y,∃ x∈X,Gr rk cm x y) {l m:List Tm} (he:∀ z,cntT z X+cntT z m=cntT z Y+cntT z l):BagG rk cm l m:=by
 have top:∀ x0∈X,∃ x∈X,(x=x0∨Gr rk cm x x0)∧∀ z∈X,¬ Gr rk cm z x:=fun x0 hx0=>by
  obtain ⟨x,h1,h2,h3⟩:=Zok (R:=Gr rk cm) (Q:=fun x=>x∈X) (E:=X) (fun x h=>h) (fun x _=>Gr.irr) (fun x y z _ _ _=>Gr.trans) _ x0 hx0 (Tan _);exact ⟨x,h1,h2,h3⟩
 have big:∀ x∈X,(∀ z∈X,¬ Gr rk cm z x)->cntT x m < cntT x l:=fun x hx hn=>by
  have h1:cntT x Y=0:=by
   cases hc:cntT x Y with
   | zero=>rfl
   | succ k =>
    obtain ⟨z,hz,hg⟩:=hd x (ZbT.1 om);exact absurd hg (hn z hz)
  have h2:=he x;have h3:=ZbT.2 hx;omega
 refine ⟨fun y hy=>?_,?_⟩
 ·have h1:=he y;obtain ⟨x0,hx0,hg⟩:=hd y (ZbT.1 om);obtain ⟨x,hx,hor,hn⟩:=top x0 hx0;exact ⟨x,big x hx hn,hor.elim (fun e=>e ▸ hg) fun h=>h.trans hg⟩
 ·obtain ⟨x0,hx0⟩:=List.exists_mem_of_ne_nil X h0;obtain ⟨x,hx,_,hn⟩:=top x0 hx0;exact ⟨x,big x hx hn⟩
theorem ZzZ {l m:List Tm} (s:Tm->Tm) (h:BagG rk cm l m) (hs:∀ x∈l,∀ y∈m,Gr rk cm x y->Gr rk cm (s x) (s y)):BagG rk cm (l.map s) (m.map s):=by
 obtain ⟨h1,h2⟩:=Zon.1 h;have hp:(Zbv l m++m).Perm (Zbv m l++l):=Zop fun z=>by
  rw [Zf8,Zf8,ZhC,ZhC];omega
 refine ZzY (X:=(Zbv l m).map s) (Y:=(Zbv m l).map s) (fun e=>?_) (fun y hy=>?_) fun z=>?_
 ·rw [List.map_eq_nil_iff] at e;rw [e] at h2;simp at h2
 ·obtain ⟨u,hu,rfl⟩:=Tbi.1 hy;obtain ⟨t,ht,hg⟩:=h1 u hu;exact ⟨s t,List.mem_map_of_mem ht,hs t (ZeT ht) u (ZeT hu) hg⟩
 ·have:=ZdN (hp.map s) z
  rwa [Tbv,Tbv,Zf8,Zf8] at this
theorem Zxv {l m l' m':List Tm} (hl:l.Perm l') (hm:m.Perm m') (h:BagG rk cm l m):BagG rk cm l' m':=by
 obtain ⟨h1,x,h2⟩:=h;refine ⟨fun y hy=>?_,x,by rw [<- ZdN hl,<- ZdN hm];exact h2⟩;obtain ⟨z,h3,h4⟩:=h1 y (by rw [ZdN hl,ZdN hm];exact hy);exact ⟨z,by rw [<- ZdN hl,<- ZdN hm];exact h3,h4⟩
theorem Zz0 {l m:List Tm} (s:Tm->Tm) (h:LexG rk cm l m) (hs:∀ x∈l,∀ y∈m,Gr rk cm x y->Gr rk cm (s x) (s y)):LexG rk cm (l.map s) (m.map s):=by
 obtain ⟨i,x,y,hx,hy,hj,hg⟩:=h;exact ⟨i,s x,s y,by rw [Tba,hx];rfl,by rw [Tba,hy];rfl,fun j h=>by rw [Tba,Tba,hj j h],hs x (Tac hx) y (Tac hy) hg⟩
end
section
variable {g:Sgn} {l:List Bd}
theorem Zj0:∀ {ts us:List Tm},apTs g l ts=some us->us=ts.map fun t=>(apT g l t).getD zTm
 | [],us,h=>by simp only [apTs,Taq] at h;subst h;rfl
 | t::ts,us,h=>by
  simp only [apTs] at h
  cases h1:apT g l t with
  | none=>rw [h1] at h;cases h
  | some v =>
   rw [h1] at h
   cases h2:apTs g l ts with
   | none=>rw [h2] at h;cases h
   | some vs =>
    rw [h2] at h;simp only [Option.bind_some,Option.map_some,Taq] at h;subst h;rw [Tbu,h1,<- Zj0 h2];rfl
theorem Zgq:∀ {ts us:List Tm},apTs g l ts=some us->∀ t∈ts,∃ u,apT g l t=some u
 | [],_,_,t,ht=>by cases ht
 | x::ts,us,h,t,ht=>by
  simp only [apTs] at h
  cases h1:apT g l x with
  | none=>rw [h1] at h;cases h
  | some v =>
   rw [h1] at h
   cases h2:apTs g l ts with
   | none=>rw [h2] at h;cases h
   | some vs =>
    rcases Tbg.1 ht with rfl | ht
    ·exact ⟨v,h1⟩
    ·exact Zgq h2 t ht
theorem Zrt {o:Opr} (ha:o.assoc=false) (hu:o.unit=0) (op:Int):∀ xs:List Tm,Zap o op xs=xs
 | []=>rfl
 | x::xs=>by
  have ih:=Zrt ha hu op xs;unfold Zap at ih ⊢;rw [List.flatMap_cons,ih];unfold ZbA;rw [if_neg (by rw [ha];simp),if_neg (by rw [hu];simp)];rfl
theorem Zru (hf:∀ o∈g.ops,o.assoc=false∧o.unit=0) {t u:Tm} (ho:t.op≠-1) (h:apT g l t=some u):∃ o us,g.ops[t.op.toNat]?=some o∧apTs g l t.args=some us∧u=appT t.op (srtO o us):=by
 rw [ZgU ho] at h
 cases h1:apTs g l t.args with
 | none=>rw [h1] at h;cases h
 | some us =>
  rw [h1] at h;simp only [Option.bind_some,mkT] at h;split at h
  ·cases h
  ·next o hoo =>
   obtain ⟨h2,h3⟩:=hf o (Tac hoo);split at h
   ·cases h
   ·next d hd =>
    unfold mkO at h;split at h
    ·cases h
    ·split at h
     ·rw [Zrt h2 h3] at h;unfold mkL at h;rw [if_neg (fun q=>q.1 h3)] at h;split at h
      ·cases h
      ·injection h with h
       exact ⟨o,us,hoo,rfl,h.symm⟩
     ·cases h
theorem Zev (op:Int) (xs:List Tm):(appT op xs).args=xs:=rfl
theorem ZhE {rk:Int->Int} (hf:∀ o∈g.ops,o.assoc=false∧o.unit=0):∀ (n:Nat) {a b u v:Tm},sizeTm a+sizeTm b < n->Zau g a->Zau g b->Gr rk (cmF g) a b->apT g l a=some u->apT g l b=some v->Gr rk (cmF g) u v
 | 0,a,b,u,v,hn,_,_,_,_,_=>om
 | n+1,a,b,u,v,hn,ha,hb,hg,hu,hv=>by
  have hao:a.op≠-1:=fun e=>by
   have h0:a.args=[]:=by
    rcases ha.node with q | ⟨o,d,q⟩
    ·exact q.2.2.2.2
    ·have:=q.lo;omega
   exact Gr.no_var h0 e hg
  obtain ⟨o,us,hoo,hus,rfl⟩:=Zru hf hao hu;have hpu:=Zer o us;have hmu:=Zj0 hus;rcases ZdM.1 hg with ⟨t,ht,hor⟩ | ⟨_,hbo,hall,hcase⟩
  ·obtain ⟨s,hs⟩:=Zgq hus t ht;have hsm:s∈(appT a.op (srtO o us)).args:=by
    rw [Zev,hpu.mem_iff,hmu];exact Tbi.2 ⟨t,ht,by rw [hs];rfl⟩
   rcases hor with rfl | hg2
   ·rw [hs] at hv;injection hv with hv
    subst hv;exact .same hsm
   ·have:=ZaT ht;exact .sub hsm (ZhE hf n om ((ZaP.1 ha).2.1 t ht) hb hg2 hs hv)
  ·obtain ⟨o2,vs,hoo2,hvs,rfl⟩:=Zru hf hbo hv;have hpv:=Zer o2 vs;have hmv:=Zj0 hvs;have hau:apT g l a=some (appT a.op (srtO o us)):=hu;have hall':∀ y,y∈(appT b.op (srtO o2 vs)).args->Gr rk (cmF g) (appT a.op (srtO o us)) y:=fun y hy=>by
    rw [Zev,hpv.mem_iff] at hy;obtain ⟨t,ht,hte⟩:=Zhv hvs y hy;have:=ZaT ht;exact ZhE hf n om ha ((ZaP.1 hb).2.1 t ht) (hall t ht) hu hte
   have hmon:∀ x∈a.args,∀ y∈b.args,Gr rk (cmF g) x y->Gr rk (cmF g) ((apT g l x).getD zTm) ((apT g l y).getD zTm):=fun x hx y hy hxy=>by
    obtain ⟨p,hp⟩:=Zgq hus x hx;obtain ⟨q,hq⟩:=Zgq hvs y hy;rw [hp,hq];have h1:=ZaT hx;have h2:=ZaT hy;exact ZhE hf n om ((ZaP.1 ha).2.1 x hx) ((ZaP.1 hb).2.1 y hy) hxy hp hq
   refine ZdM.2 (.inr ⟨hao,hbo,hall',?_⟩);rcases hcase with hr | ⟨he,hc,hbag⟩ | ⟨he,hc,hlex⟩
   ·exact .inl hr
   ·refine .inr (.inl ⟨he,hc,?_⟩);rw [Zev,Zev];refine Zxv hpu.symm hpv.symm ?_;rw [hmu,hmv];exact ZzZ _ hbag hmon
   ·refine .inr (.inr ⟨he,hc,?_⟩);have hco:o.comm=false:=by
     have hc':cmF g a.op=false:=hc;unfold cmF at hc';rw [hoo] at hc';simpa using hc'
    have hoe:o2=o:=by
     have he':a.op=b.op:=he;rw [<- he',hoo] at hoo2;injection hoo2 with h;exact h.symm
    subst hoe;rw [Zev,Zev];unfold srtO;rw [if_neg (by rw [hco];simp),if_neg (by rw [hco];simp),hmu,hmv];exact Zz0 _ hlex hmon
end
end Go.Proofs.YteiljfkknokfjaaGreatDoor
namespace Go.Proofs.YteiljfkknokfjaaGreatDoor
open Go.RowKit
theorem ZlG (ts:List Tm) (i:Nat) (hi:i < ts.length) (hl:ts.length<=1048576):Con e0 112 [.one (.sl (Zaa ts)),.one (.lit (.int .i64 i))] [.one (.sl (Zaa (ts.take i++ts.drop (i+1))))]:=by
 rw [Zbz,<- Zc5,<- Zc6];have hxl:((i:Int)<=(ts.length:Int))=True:=eq_true om;have hxl2:(((i+1:Nat):Int)<=(ts.length:Int))=True:=eq_true om;have hw:=Zao (k:=i) om;have r1:ZaE 4 ((Zaa ts).take i)=true:=by rw [Zc5];exact ZbN _
 have r2:ZaE 4 ((Zaa ts).drop (i+1))=true:=by rw [Zc6];exact ZbN _
 have n1:((Zaa ts).take i).length<=1048576:=by rw [Taw,Zaj];omega
 have n2:((Zaa ts).drop (i+1)).length<=1048576:=by rw [Tax,Zaj];omega
 have n3:((Zaa ts).take i).length+((Zaa ts).drop (i+1)).length<=maxApp:=by unfold maxApp;omega
 have tkA:(Zaa ts).take ts.length=Zaa ts:=by rw [<- Zaj ts,Tap]
 have hll:((ts.length:Int)<=(ts.length:Int))=True:=eq_true (Int.le_refl _);refine gI (ts:=[.slot 4]) 19 Tryz.func112 ?_;refine fN 1 @tmz ?_;have F:=aj10 r1 r2 hxl hxl2 hw n3 tkA hll @Zax tmz;refine gA 9 4 ?_ (.inl rfl) ?_
 ·show 0+_<=maxApp;unfold maxApp;omega
 clear F;refine fR (aj10 @r1 @r2 @hxl @hxl2 @hw @n3 @tkA @hll @Zax @tmz) ?_;have F:=aj4 @r1 @r2 @n3 @tmz;refine gG ?_;exact gTz [4]
theorem okA {t a:Tm} (h:okTm t) (ha:a∈t.args):okTm a:=by
 obtain ⟨op,nm,so,args⟩:=t;simp only [okTm] at h;exact h.2.2.2.mem ha
theorem Zpz {x:Tm} (hx:okTm x):∀ (n:Nat) {t:Tm},sizeTm t < n->okTm t->sizeTm t<=1000->Con e0 48 [.agg (Zab x),.agg (Zab t)] [.one (.lit (.bool (occT x t)))]:=by
 intro n
 induction n with
 | zero=>exact fun {t} h _ _=>absurd h om
 | succ n IH =>
 intro t hn ht hs;have cS:=Zcr hx ht;rw [ZlF];refine gI (ts:=[.slot 4]) 4202815 Tryz.func48 ?_;refine fN 1 @tmz ?_;refine gB ?_;refine fC @tmz (cS) ?_;by_cases h0:Zah x t=0
 ·rw [decide_eq_true h0];refine fR @tmz ?_;exact fD (ai @Bool.true_or @tmz)
 rw [decide_eq_false h0,Bool.false_or];have hal:t.args.length<=1000:=by
  have h1:=ZaD t;have h2:t.args.length<=sizeTms t.args:=by
   generalize t.args=l
   induction l with
   | nil=>simp
   | cons a l ih=>simp only [Tag,sizeTms];have:=ZaD a;omega
  omega
 refine fR @tmz ?_;refine fG @tmz ?_;have F:=@tmz;refine gL (ι:=Nat) [4,5,13,22] [] (fun i=>[(5,A.d (.one (.lit (.int .i64 i))))]) (fun i=>[]) (fun i=>i<=t.args.length∧(t.args.take i).any (occT x)=false) (fun i=>t.args.length - i) (0) (⟨Taj _,rfl⟩) (fun i hi=>?_);clear F;obtain ⟨hi,hall⟩:=hi;by_cases hlt:i < t.args.length;rotate_left
 ·obtain rfl:i=t.args.length:=by omega
  have q1:=lF t.args.length t.args.length;rw [Tap] at hall;rw [hall];exact fD (ai @q1 @tmz)
 have q1:=lT i t.args.length;obtain ⟨a,ha⟩:∃ a,t.args[i]?=some a:=⟨_,Taa hlt⟩;have ham:=Tac ha;have hw1:=Zao (k:=i) om;have hsa:=ZaT ham;have cO:=IH (t:=a) om (okA ht ham) om;refine fN 6 (ai @q1 @tmz) ?_;refine gB ?_;refine fC (aj4 @ha @hlt @Zax @tmz) (cO) ?_
 cases hh:occT x a with
 | true =>
  have hf:t.args.any (occT x)=true:=List.any_eq_true.2 ⟨a,ham,hh⟩;rw [hf];refine fR @tmz ?_;exact fD @tmz
 | false =>
  have hq:i+1<=t.args.length∧(t.args.take (i+1)).any (occT x)=false:=⟨hlt,by rw [List.take_add_one,ha,List.any_append,hall];simp [hh]⟩;refine fR @tmz ?_;have F:=ai @hw1 @tmz;refine gG ?_;exact ⟨i+1,hq,gw,gw,om⟩
theorem Zfk {ts:List Tm}:Zat ts ↔ ∀ t∈ts,okTm t:=by
 induction ts with
 | nil=>simp [Zat]
 | cons t ts ih=>simp [Zat,ih]
theorem Zxw {l m:List Tm} (h:Zat l):Zat (Zbv l m):=Zfk.2 fun t ht=>h.mem (ZeT ht)
theorem ZjC {l m:List Tm} (hl:Zat l) (hm:Zat m) (hll:l.length<=1000) (hml:m.length<=1000):Con e0 90 [.one (.sl (Zaa l)),.one (.sl (Zaa m))] [.one (.sl (Zaa (Zbv l m)))]:=by
 have l1:=Zaj l;have l2:=Zaj m;have r1:=ZbN l;have r2:=ZbN m;have hmx:(l.length<=maxApp)=True:=eq_true (by unfold maxApp;omega);have z0:Zbv l []=l:=rfl;refine gI (ts:=[.slot 4]) 2148548851 Tryz.func90 ?_;refine fN 2 (aj4 @l1 @r1 @hmx @tmz) ?_;refine Zcm (Zdh [5] (by simp only [pz,↓reduceIte,Nat.reduceEqDiff,Nat.reduceAdd,Nat.reduceSub,Nat.reduceMul,Nat.reduceLeDiff,Nat.reduceBEq,Tam,decide_true,decide_false,Int.reduceLE,Int.reduceToNat,Int.reduceLT,Int.reduceEq,eq_self,Nat.reduceShiftRight,Nat.reduceAnd,Nat.reduceBneDiff,tmz];exact rfl)) fun σ' hσ=>?_
 subst hσ;refine fG @tmz ?_;have F:=@tmz;refine gL (ι:=Nat × List Tm) [5,6,7,14,20,31] [] (fun x=>[(6,A.d (.one (.lit (.int .i64 x.1)))),(5,.d (.one (.sl (Zaa x.2))))]) (fun x=>[]) (fun x=>x.1<=m.length∧x.2=Zbv l (m.take x.1)) (fun x=>m.length - x.1) ((0,l)) (⟨Taj _,rfl⟩) (fun x hx=>?_);clear F;obtain ⟨i,V⟩:=x;obtain ⟨hi,hV⟩:=hx;simp only at hi hV;subst hV;dsimp only;by_cases hlt:i < m.length;rotate_left
 ·obtain rfl:i=m.length:=by omega
  have q1:=lF m.length m.length;rw [Tap];exact fD (aj3 @q1 @l2 @tmz)
 have q1:=lT i m.length;have hw1:=Zao (k:=i) om;obtain ⟨y,hy⟩:∃ y,m[i]?=some y:=⟨_,Taa hlt⟩;have hym:=hm.mem (Tac hy);have hst:=ZvZ (l:=l) hy;have hVk:Zat (Zbv l (m.take i)):=Zxw hl;have hVl:(Zbv l (m.take i)).length<=1000:=Tbe (ZhD _ _) hll;generalize Zbv l (m.take i)=V at *;have v1:=Zaj V;have vr:=ZbN V;refine fG (aj3 @q1 @l2 @tmz) ?_;have F:=@tmz;refine gL (ι:=Nat) [5,7,20,31] [] (fun k=>[(7,A.d (.one (.lit (.int .i64 k)))),(5,.d (.one (.sl (Zaa V))))]) (fun k=>[]) (fun k=>k<=V.length∧∀ (j:Nat) u,j < k->V[j]?=some u->Zah u y≠0) (fun k=>V.length - k) (0) (⟨Taj _,fun j u h=>absurd h om⟩) (fun k hk=>?_);clear F
 obtain ⟨hk,hall⟩:=hk;by_cases hkl:k < V.length;rotate_left
 ·obtain rfl:k=V.length:=by omega
  have q2:=lF V.length V.length;have e:V=Zbv l (m.take (i+1)):=by rw [hst,ZvY fun j u hu=>hall j u (Tad.1 hu).1 hu]
  have F:=aj4 @q2 @v1 @hw1 @tmz;refine gG ?_;exact ⟨(i+1,V),⟨hlt,e⟩,gw,gw,om⟩
 have q2:=lT k V.length;have hw2:=Zao (k:=k) om;obtain ⟨u,hu⟩:∃ u,V[k]?=some u:=⟨_,Taa hkl⟩;have cS:=Zcr (hVk.mem (Tac hu)) hym;refine fN 8 (aj3 @q2 @v1 @tmz) ?_;refine gB ?_;refine fC (aj10 @hu @hkl @v1 @vr @hy @hlt @l2 @r2 @Zax @tmz) (cS) ?_;by_cases h0:Zah u y=0
 ·rw [decide_eq_true h0];have cW:=ZlG V k hkl om;have e:V.take k++V.drop (k+1)=Zbv l (m.take (i+1)):=by rw [hst,ZvX hu h0 hall]
  rw [e] at cW;refine fR @tmz ?_;refine fN 9 @tmz ?_;refine gB ?_;refine fC @tmz (cW) ?_;refine fR @tmz ?_;have F:=ai @hw1 @tmz;refine gG ?_;exact ⟨(i+1,Zbv l (m.take (i+1))),⟨hlt,rfl⟩,gw,gw,om⟩
 ·rw [decide_eq_false h0];have hq:k+1<=V.length∧∀ (j:Nat) u,j < k+1->V[j]?=some u->Zah u y≠0:=⟨hkl,fun j u' hj hu'=>by
   by_cases e:j=k
   ·subst e;rw [hu] at hu';injection hu' with hu';subst hu';exact h0
   ·exact hall j u' om hu'⟩
  refine fR @tmz ?_;have F:=ai @hw2 @tmz;refine gG ?_;exact ⟨k+1,hq,gw,gw,om⟩
section
variable {g:Sgn} {rank:List Int}
open Classical in
noncomputable def lexB (g:Sgn) (rank:List Int) (a b:List Tm):Bool:=decide (LexG (rkF rank) (cmF g) a b)
open Classical in
noncomputable def bagB (g:Sgn) (rank:List Int) (a b:List Tm):Bool:=decide (BagG (rkF rank) (cmF g) a b)
theorem ZhF {a b:List Tm}:lexB g rank a b=true ↔ LexG (rkF rank) (cmF g) a b:=by simp [lexB]
theorem ZhG {a b:List Tm}:bagB g rank a b=true ↔ BagG (rkF rank) (cmF g) a b:=by simp [bagB]
theorem Zrv {a b:List Tm} {i:Nat} {x y:Tm} (hx:a[i]?=some x) (hy:b[i]?=some y) (hne:x≠y) (hj:∀ (j:Nat) u v,j < i->a[j]?=some u->b[j]?=some v->u=v):lexB g rank a b=grB g rank x y:=by
 have hlx:=(Tad.1 hx).1;have hly:=(Tad.1 hy).1;have hjj:∀ j,j < i->a[j]?=b[j]?:=fun j h=>by
  have h1:=Taa (show j < a.length by omega);have h2:=Taa (show j < b.length by omega);rw [h1,h2,hj j _ _ h h1 h2]
 rw [Bool.eq_iff_iff,ZhF,ZbY];constructor
 ·rintro ⟨k,u,v,hu,hv,hk,hg⟩;rcases Nat.lt_trichotomy i k with h | h | h
  ·have:=hk i h;rw [hx,hy] at this;injection this with this
   exact absurd this hne
  ·subst h;rw [hx] at hu;rw [hy] at hv;injection hu with hu;injection hv with hv
   subst hu hv;exact hg
  ·have:=hj k u v h hu hv;subst this;exact absurd hg Gr.irr
 ·exact fun h=>⟨i,x,y,hx,hy,hjj,h⟩
theorem Zrw {a b:List Tm} (hj:∀ (j:Nat) u v,a[j]?=some u->b[j]?=some v->u=v):lexB g rank a b=false:=by
 cases h:lexB g rank a b with
 | false=>rfl
 | true =>
  obtain ⟨k,u,v,hu,hv,hk,hg⟩:=ZhF.1 h;have:=hj k u v hu hv;subst this;exact absurd hg Gr.irr
def GrC (g:Sgn) (rank:List Int) (x y:Tm):Prop:=Con e0 24 [.agg (Zaf g),.one (.sl (rank.map Zaw)),.agg (Zab x),.agg (Zab y)] [.one (.lit (.bool (grB g rank x y)))]
theorem Zoq {a b:List Tm} (ha:Zat a) (hb:Zat b) (hl:a.length=b.length) (h7:a.length<=1000) (h:∀ x∈a,∀ y∈b,GrC g rank x y):Con e0 50 [.agg (Zaf g),.one (.sl (rank.map Zaw)),.one (.sl (Zaa a)),.one (.sl (Zaa b))] [.one (.lit (.bool (lexB g rank a b)))]:=by
 have l1:=Zaj a;have l2:=Zaj b;rw [<- hl] at l2;have r1:=ZbN a;have r2:=ZbN b;unfold GrC at h;rw [Zaf] at *;refine gI (ts:=[.slot 8]) 33563423 Tryz.func50 ?_;refine fG @tmz ?_;have F:=@tmz;refine gL (ι:=Nat) [8,9,13,25] [] (fun i=>[(9,A.d (.one (.lit (.int .i64 i))))]) (fun i=>[]) (fun i=>i<=a.length∧∀ (j:Nat) u v,j < i->a[j]?=some u->b[j]?=some v->u=v) (fun i=>a.length - i) (0) (⟨Taj _,fun j u v h=>absurd h om⟩) (fun i hi=>?_);clear F
 obtain ⟨hi,hall⟩:=hi;by_cases hlt:i < a.length;rotate_left
 ·obtain rfl:i=a.length:=by omega
  have q1:=lF a.length a.length;rw [Zrw fun j u v hu hv=>hall j u v (Tad.1 hu).1 hu hv];exact fD (aj3 @q1 @l1 @tmz)
 have q1:=lT i a.length;have hw1:=Zao (k:=i) om;obtain ⟨x,hx⟩:∃ x,a[i]?=some x:=⟨_,Taa hlt⟩;obtain ⟨y,hy⟩:∃ y,b[i]?=some y:=⟨_,Taa om⟩;have hxm:=Tac hx;have hym:=Tac hy;have cS:=Zcr (ha.mem hxm) (hb.mem hym);have cG:=h x hxm y hym;refine fN 4 (aj3 @q1 @l1 @tmz) ?_;refine gB ?_;refine fC (aj9 @hx @hy @hlt @l1 @l2 @r1 @r2 @Zax @tmz) (cS) ?_;by_cases h0:Zah x y=0
 ·rw [decide_eq_true h0];have hq:i+1<=a.length∧∀ (j:Nat) u v,j < i+1->a[j]?=some u->b[j]?=some v->u=v:=⟨hlt,fun j u v hj hu hv=>by
   by_cases e:j=i
   ·subst e;rw [hx] at hu;rw [hy] at hv;injection hu with hu;injection hv with hv;subst hu hv;exact ZbD.1 h0
   ·exact hall j u v om hu hv⟩
  refine fR @tmz ?_;have F:=ai @hw1 @tmz;refine gG ?_;exact ⟨i+1,hq,gw,gw,om⟩
 ·rw [decide_eq_false h0,Zrv hx hy (fun e=>h0 (ZbD.2 e)) hall];refine fR @tmz ?_;refine fN 5 @tmz ?_;refine gB ?_;refine fC (aj9 @hx @hy @hlt @l1 @l2 @r1 @r2 @Zax @tmz) (cG) ?_;refine fR @tmz ?_;exact fD @tmz
theorem ZpA {a b:List Tm} (ha:Zat a) (hb:Zat b) (h7:a.length<=1000) (hb7:b.length<=1000) (h:∀ x∈a,∀ y∈b,GrC g rank x y):Con e0 49 [.agg (Zaf g),.one (.sl (rank.map Zaw)),.one (.sl (Zaa a)),.one (.sl (Zaa b))] [.one (.lit (.bool (bagB g rank a b)))]:=by
 have cA:=ZjC ha hb h7 hb7;have cB:=ZjC hb ha hb7 h7;have hX:∀ x∈Zbv a b,x∈a:=fun x=>ZeT;have hY:∀ y∈Zbv b a,y∈b:=fun y=>ZeT;have hXl:(Zbv a b).length<=1000:=Tbe (ZhD _ _) h7;have hYl:(Zbv b a).length<=1000:=Tbe (ZhD _ _) hb7;have hBag:bagB g rank a b=true ↔ (∀ u∈Zbv b a,∃ t∈Zbv a b,grB g rank t u=true)∧0 < (Zbv a b).length:=by
  rw [ZhG,Zon];simp only [ZbY]
 generalize Zbv a b=X at *;generalize Zbv b a=Y at *;have l1:=Zaj X;have l2:=Zaj Y;have r1:=ZbN X;have r2:=ZbN Y;unfold GrC at h;rw [Zaf] at *;refine gI (ts:=[.slot 8]) 140738033631007 Tryz.func49 ?_;refine fN 1 @tmz ?_;refine gB ?_;refine fC @tmz (cA) ?_;refine fR @tmz ?_;refine fN 2 @tmz ?_;refine gB ?_;refine fC @tmz (cB) ?_;refine fR @tmz ?_;refine fG @tmz ?_;have F:=@tmz;refine gL (ι:=Nat) [8,11,12,13,23,29,47] [] (fun i=>[(11,A.d (.one (.lit (.int .i64 i))))]) (fun i=>[]) (fun i=>i<=Y.length∧∀ (j:Nat) u,j < i->Y[j]?=some u->X.any (fun t=>grB g rank t u)=true) (fun i=>Y.length - i) (0) (⟨Taj _,fun j u h=>absurd h om⟩) (fun i hi=>?_);clear F
 obtain ⟨hi,hall⟩:=hi;by_cases hlt:i < Y.length;rotate_left
 ·obtain rfl:i=Y.length:=by omega
  have q1:=lF Y.length Y.length;have hA:∀ u∈Y,∃ t∈X,grB g rank t u=true:=fun u hu=>by
   obtain ⟨j,hj⟩:=Tbk hu;exact List.any_eq_true.1 (hall j u (Tad.1 hj).1 hj)
  by_cases hp:0 < X.length
  ·have q2:=lT 0 X.length;rw [hBag.2 ⟨hA,hp⟩];exact fD (aj5 @q1 @q2 @l1 @l2 @tmz)
  ·have q2:=lF 0 X.length;have hf:bagB g rank a b=false:=by
    cases hb:bagB g rank a b with
    | false=>rfl
    | true=>exact absurd (hBag.1 hb).2 hp
   rw [hf];exact fD (aj5 @q1 @q2 @l1 @l2 @tmz)
 have q1:=lT i Y.length;have hw1:=Zao (k:=i) om;obtain ⟨u,hu⟩:∃ u,Y[i]?=some u:=⟨_,Taa hlt⟩;have hum:=hY u (Tac hu);refine fG (aj3 @q1 @l2 @tmz) ?_;have F:=@tmz;refine gL (ι:=Nat) [12,13,29] [] (fun k=>[(13,A.d (.one (.lit (.int .i64 k)))),(12,.d (.one (.lit (.bool ((X.take k).any fun t=>grB g rank t u)))))]) (fun k=>[]) (fun k=>k<=X.length) (fun k=>X.length - k) (0) (Taj _) (fun k hk=>?_);clear F
 by_cases hkl:k < X.length;rotate_left
 ·obtain rfl:k=X.length:=by omega
  have q2:=lF X.length X.length;rw [Tap]
  cases hh:X.any (fun t=>grB g rank t u) with
  | true =>
   have hq:i+1<=Y.length∧∀ (j:Nat) u,j < i+1->Y[j]?=some u->X.any (fun t=>grB g rank t u)=true:=⟨hlt,fun j u' hj hu'=>by
    by_cases e:j=i
    ·subst e;rw [hu] at hu';injection hu' with hu';subst hu';exact hh
    ·exact hall j u' om hu'⟩
   have F:=aj4 @q2 @l1 @hw1 @tmz;refine gG ?_;exact ⟨i+1,hq,gw,gw,om⟩
  | false =>
   have hf:bagB g rank a b=false:=by
    cases hb:bagB g rank a b with
    | false=>rfl
    | true =>
     have:=List.any_eq_true.2 ((hBag.1 hb).1 u (Tac hu));rw [hh] at this;cases this
   rw [hf];exact fD (aj3 @q2 @l1 @tmz)
 have q2:=lT k X.length;have hw2:=Zao (k:=k) om;obtain ⟨t,ht⟩:∃ t,X[k]?=some t:=⟨_,Taa hkl⟩;have htm:=hX t (Tac ht);have cG:=h t htm u hum;have hst:(X.take (k+1)).any (fun t=>grB g rank t u)=((X.take k).any (fun t=>grB g rank t u) || grB g rank t u):=by
  rw [List.take_add_one,ht,List.any_append];simp
 cases hh:(X.take k).any (fun t=>grB g rank t u) with
 | true =>
  rw [hh,Bool.true_or] at hst;have F:=aj5 @q2 @l1 @hw2 @hst @tmz;refine gG ?_;exact ⟨k+1,hkl,gw,gw,om⟩
 | false =>
  rw [hh,Bool.false_or] at hst;refine fN 10 (aj3 @q2 @l1 @tmz) ?_;refine gB ?_;refine fC (aj10 @ht @hu @hkl @hlt @l1 @l2 @r1 @r2 @Zax @tmz) (cG) ?_;refine fR @tmz ?_;have F:=aj3 @hw2 @hst @tmz;refine gG ?_;exact ⟨k+1,hkl,gw,gw,om⟩
theorem Zi3 {rk:Int->Int} {cm:Int->Bool} {a b:Tm} (ha:a.op≠-1) (hb:b.op≠-1) (hno:∀ t∈a.args,t≠b∧¬ Gr rk cm t b) (hall:∀ u∈b.args,Gr rk cm a u):Gr rk cm a b ↔ (rk b.op < rk a.op∨(a.op=b.op∧cm a.op=true∧BagG rk cm a.args b.args)∨(a.op=b.op∧cm a.op=false∧LexG rk cm a.args b.args)):=by
 rw [ZdM];constructor
 ·rintro (⟨t,ht,h⟩ | h)
  ·rcases h with h | h
   ·exact absurd h (hno t ht).1
   ·exact absurd h (hno t ht).2
  ·exact h.2.2.2
 ·exact fun h=>.inr ⟨ha,hb,hall,h⟩
theorem ZlH {rk:Int->Int} {cm:Int->Bool} {a b:Tm} (hno:∀ t∈a.args,t≠b∧¬ Gr rk cm t b) (h:rk a.op < rk b.op∨(rk a.op=rk b.op∧a.op≠b.op)):¬ Gr rk cm a b:=by
 rw [ZdM];rintro (⟨t,ht,h2⟩ | ⟨_,_,_,h2⟩)
 ·rcases h2 with h2 | h2
  ·exact (hno t ht).1 h2
  ·exact (hno t ht).2 h2
 ·rcases h2 with h2 | ⟨e,_⟩ | ⟨e,_⟩
  ·rcases h with h | h <;> omega
  ·rw [e] at h;rcases h with h | h
   ·omega
   ·exact h.2 rfl
  ·rw [e] at h;rcases h with h | h
   ·omega
   ·exact h.2 rfl
theorem ZfD {rk:Int->Int} {cm:Int->Bool} {a b u:Tm} (hno:∀ t∈a.args,t≠b∧¬ Gr rk cm t b) (hu:u∈b.args) (h:¬ Gr rk cm a u):¬ Gr rk cm a b:=by
 rw [ZdM];rintro (⟨t,ht,h2⟩ | ⟨_,_,h2,_⟩)
 ·rcases h2 with h2 | h2
  ·exact (hno t ht).1 h2
  ·exact (hno t ht).2 h2
 ·exact h (h2 u hu)
theorem ZhH {op:Int} (h1:op.toNat < rank.length):(rank.map Zaw)[op.toNat]?=some [.lit (.int .i64 (rkF rank op))]:=by
 rw [Tba,Taa h1];simp [rkF,List.getD,h1,Zaw]
theorem Zv1 (hok:ZbL g) (hg:SgnOk g) (hfr:∀ o∈g.ops,o.assoc=false) (hr:rank.length=g.ops.length):∀ (n:Nat) {a b:Tm},sizeTm a+sizeTm b < n->TermOk g a->TermOk g b->GrC g rank a b:=by
 intro n
 induction n with
 | zero=>exact fun {a b} h _ _=>absurd h om
 | succ n IH =>
 intro a b hn ha hb;have hoa:okTm a:=Zau.ok hg _ a (Tan _) ha.form;have hob:okTm b:=Zau.ok hg _ b (Tan _) hb.form;have hl60:=Zej ha;have hl60b:=Zej hb;unfold GrC;have cS:=Zcr hoa hob;unfold GrC at IH;have rl:(rank.map Zaw).length=g.ops.length:=by rw [Tay,hr]
 have rr:ZaE 1 (rank.map Zaw)=true:=ZgR _;by_cases hav:a.op=-1
 ·have hV:ZcM g a:=by
   rcases ha.form.node with h | ⟨o,d,h⟩
   ·exact h
   ·have:=h.lo;omega
  have q1:(a.op=-1)=True:=eq_true hav;rw [ZcE (Gr.no_var hV.2.2.2.2 hav),Zaf];refine gI (ts:=[.slot 8]) 654266205937346947693199199832031 Tryz.func24 ?_;exact fD (ai @q1 @tmz)
 have q1:(a.op=-1)=False:=eq_false hav;obtain ⟨o,d,hA⟩:∃ o d,AppOk g a o d:=by
  rcases ha.form.node with h | h
  ·exact absurd h.1 hav
  ·exact h
 have hspec:=Zoq (g:=g) (rank:=rank) (Zfk.2 fun t ht=>okA hoa ht) (Zfk.2 fun t ht=>okA hob ht);have hbags:=ZpA (g:=g) (rank:=rank) (Zfk.2 fun t ht=>okA hoa ht) (Zfk.2 fun t ht=>okA hob ht) om om (fun x hx y hy=>by
  have:=ZaT hx;have:=ZaT hy;exact IH (a:=x) (b:=y) om (ha.arg hx) (hb.arg hy))
 have hlex:=fun hl=>hspec hl om (fun x hx y hy=>by
  have:=ZaT hx;have:=ZaT hy;exact IH (a:=x) (b:=y) om (ha.arg hx) (hb.arg hy))
 clear hspec;rw [Zaf] at *;refine gI (ts:=[.slot 8]) 654266205937346947693199199832031 Tryz.func24 ?_;refine fN 1 (ai @q1 @tmz) ?_;refine gB ?_;refine fC (ai @q1 @tmz) (cS) ?_;by_cases hab:Zah a b=0
 ·obtain rfl:=ZbD.1 hab;rw [decide_eq_true hab,ZcE Gr.irr];refine fR @tmz ?_;exact fD @tmz
 rw [decide_eq_false hab];refine fR @tmz ?_;by_cases hbv:b.op=-1
 ·have q2:(b.op=-1)=True:=eq_true hbv;have cO:=Zpz hob _ (Tan _) hoa (by have:=ha.size;omega);have e:occT b a=grB g rank a b:=by rw [Bool.eq_iff_iff,ZbY];exact ZvW hav hbv
  rw [e] at cO;refine fN 4 (ai @q2 @tmz) ?_;refine gB ?_;refine fC @tmz (cO) ?_;refine fR @tmz ?_;exact fD @tmz
 have q2:(b.op=-1)=False:=eq_false hbv;refine fG (ai @q2 @tmz) ?_;have F:=@tmz;refine gL (ι:=Nat) [8,9,29,49] [] (fun i=>[(9,A.d (.one (.lit (.int .i64 i))))]) (fun i=>[]) (fun i=>i<=a.args.length∧∀ (j:Nat) t,j < i->a.args[j]?=some t->t≠b∧grB g rank t b=false) (fun i=>a.args.length - i) (0) (⟨Taj _,fun j t h=>absurd h om⟩) (fun i hi=>?_);clear F;obtain ⟨hi,hall⟩:=hi;by_cases hlt:i < a.args.length
 ·have q3:=lT i a.args.length;have hw1:=Zao (k:=i) om;obtain ⟨t,ht⟩:∃ t,a.args[i]?=some t:=⟨_,Taa hlt⟩;have htm:=Tac ht;have hts:=ZaT htm;have cT:=Zcr (okA hoa htm) hob;have cG:=IH (a:=t) (b:=b) om (ha.arg htm) hb;refine fN 8 (ai @q3 @tmz) ?_;refine gB ?_;refine fC (aj4 @ht @hlt @Zax @tmz) (cT) ?_;by_cases h0:Zah t b=0
  ·obtain rfl:=ZbD.1 h0;rw [decide_eq_true h0,Zcy (.same htm)];refine fR @tmz ?_;exact fD @tmz
  rw [decide_eq_false h0];refine fC (aj4 @ht @hlt @Zax @tmz) (cG) ?_
  cases hh:grB g rank t b with
  | true =>
   rw [Zcy (.sub htm (ZbY.1 hh))];refine fR @tmz ?_;exact fD @tmz
  | false =>
   have hq:i+1<=a.args.length∧∀ (j:Nat) t,j < i+1->a.args[j]?=some t->t≠b∧grB g rank t b=false:=⟨hlt,fun j t' hj ht'=>by
    by_cases e:j=i
    ·subst e;rw [ht] at ht';injection ht' with ht';subst ht';exact ⟨fun e=>h0 (ZbD.2 e),hh⟩
    ·exact hall j t' om ht'⟩
   refine fR @tmz ?_;have F:=ai @hw1 @tmz;refine gG ?_;exact ⟨i+1,hq,gw,gw,om⟩
 obtain rfl:i=a.args.length:=by omega
 have q3:=lF a.args.length a.args.length;have hno:∀ t∈a.args,t≠b∧¬ Gr (rkF rank) (cmF g) t b:=fun t ht=>by
  obtain ⟨j,hj⟩:=Tbk ht;have:=hall j t (Tad.1 hj).1 hj;exact ⟨this.1,fun h=>by rw [Zcy h] at this;cases this.2⟩
 obtain ⟨o2,d2,hB⟩:∃ o d,AppOk g b o d:=by
  rcases hb.form.node with h | h
  ·exact absurd h.1 hbv
  ·exact h
 have a0:(0<=a.op)=True:=eq_true hA.lo;have b0:(0<=b.op)=True:=eq_true hB.lo;have a1:(a.op.toNat < g.ops.length)=True:=eq_true (Tad.1 hA.at').1;have b1:(b.op.toNat < g.ops.length)=True:=eq_true (Tad.1 hB.at').1;have ga:=ZhH (rank:=rank) (op:=a.op) (by rw [hr];exact of_eq_true a1);have gb:=ZhH (rank:=rank) (op:=b.op) (by rw [hr];exact of_eq_true b1);by_cases h1:rkF rank a.op < rkF rank b.op
 ·have q4:(rkF rank a.op < rkF rank b.op)=True:=eq_true h1;rw [ZcE (ZlH hno (.inl h1))];exact fD (aj11 @q3 @q4 @a0 @b0 @a1 @b1 @ga @gb @rl @rr @tmz)
 have q4:(rkF rank a.op < rkF rank b.op)=False:=eq_false h1;by_cases h2:rkF rank a.op=rkF rank b.op∧a.op≠b.op
 ·have q5:(rkF rank a.op=rkF rank b.op)=True:=eq_true h2.1;have q6:(a.op=b.op)=False:=eq_false h2.2;rw [ZcE (ZlH hno (.inr h2))];exact fD (aj13 @q3 @q4 @q5 @q6 @a0 @b0 @a1 @b1 @ga @gb @rl @rr @tmz)
 by_cases hop:a.op=b.op;rotate_left
 ·have q6:(a.op=b.op)=False:=eq_false hop;have hrk:¬ rkF rank a.op=rkF rank b.op:=fun e=>h2 ⟨e,hop⟩;have q5:(rkF rank a.op=rkF rank b.op)=False:=eq_false hrk;refine fN 12 (aj13 @q3 @q4 @q5 @q6 @a0 @b0 @a1 @b1 @ga @gb @rl @rr @tmz) ?_;refine fG @tmz ?_;have F:=@tmz;refine gL (ι:=Nat) [8,10,85,97] [] (fun k=>[(10,A.d (.one (.lit (.int .i64 k))))]) (fun k=>[]) (fun k=>k<=b.args.length∧∀ (j:Nat) t,j < k->b.args[j]?=some t->grB g rank a t=true) (fun k=>b.args.length - k) (0) (⟨Taj _,fun j t h=>absurd h om⟩) (fun k hk=>?_);clear F
  obtain ⟨hk,hbl⟩:=hk;by_cases hkl:k < b.args.length
  ·have q7:=lT k b.args.length;have hw2:=Zao (k:=k) om;obtain ⟨t,ht⟩:∃ t,b.args[k]?=some t:=⟨_,Taa hkl⟩;have htm:=Tac ht;have hts:=ZaT htm;have cG:=IH (a:=a) (b:=t) om ha (hb.arg htm);refine fN 15 (ai @q7 @tmz) ?_;refine gB ?_;refine fC (aj4 @ht @hkl @Zax @tmz) (cG) ?_
   cases hh:grB g rank a t with
   | false =>
    rw [ZcE (ZfD hno htm fun h=>by rw [Zcy h] at hh;cases hh)];refine fR @tmz ?_;exact fD @tmz
   | true =>
    have hq:k+1<=b.args.length∧∀ (j:Nat) t,j < k+1->b.args[j]?=some t->grB g rank a t=true:=⟨hkl,fun j t' hj ht'=>by
     by_cases e:j=k
     ·subst e;rw [ht] at ht';injection ht' with ht';subst ht';exact hh
     ·exact hbl j t' om ht'⟩
    refine fR @tmz ?_;have F:=ai @hw2 @tmz;refine gG ?_;exact ⟨k+1,hq,gw,gw,om⟩
  obtain rfl:k=b.args.length:=by omega
  have q7:=lF b.args.length b.args.length;have hAll:∀ u∈b.args,Gr (rkF rank) (cmF g) a u:=fun u hu=>by
   obtain ⟨j,hj⟩:=Tbk hu;exact ZbY.1 (hbl j u (Tad.1 hj).1 hj)
  have hM:=Zi3 hav hbv hno hAll;rw [Zcy (hM.2 (.inl om))];exact fD (aj3 @q7 @q6 @tmz)
 have q6:(a.op=b.op)=True:=eq_true hop;have q5:(rkF rank a.op=rkF rank b.op)=True:=eq_true (by rw [hop]);refine fN 12 (aj13 @q3 @q4 @q5 @q6 @a0 @b0 @a1 @b1 @ga @gb @rl @rr @tmz) ?_;refine fG @tmz ?_;have F:=@tmz;refine gL (ι:=Nat) [8,10,85,97] [] (fun k=>[(10,A.d (.one (.lit (.int .i64 k))))]) (fun k=>[]) (fun k=>k<=b.args.length∧∀ (j:Nat) t,j < k->b.args[j]?=some t->grB g rank a t=true) (fun k=>b.args.length - k) (0) (⟨Taj _,fun j t h=>absurd h om⟩) (fun k hk=>?_);clear F
 obtain ⟨hk,hbl⟩:=hk;by_cases hkl:k < b.args.length
 ·have q7:=lT k b.args.length;have hw2:=Zao (k:=k) om;obtain ⟨t,ht⟩:∃ t,b.args[k]?=some t:=⟨_,Taa hkl⟩;have htm:=Tac ht;have hts:=ZaT htm;have cG:=IH (a:=a) (b:=t) om ha (hb.arg htm);refine fN 15 (ai @q7 @tmz) ?_;refine gB ?_;refine fC (aj4 @ht @hkl @Zax @tmz) (cG) ?_
  cases hh:grB g rank a t with
  | false =>
   rw [ZcE (ZfD hno htm fun h=>by rw [Zcy h] at hh;cases hh)];refine fR @tmz ?_;exact fD @tmz
  | true =>
   have hq:k+1<=b.args.length∧∀ (j:Nat) t,j < k+1->b.args[j]?=some t->grB g rank a t=true:=⟨hkl,fun j t' hj ht'=>by
    by_cases e:j=k
    ·subst e;rw [ht] at ht';injection ht' with ht';subst ht';exact hh
    ·exact hbl j t' om ht'⟩
   refine fR @tmz ?_;have F:=ai @hw2 @tmz;refine gG ?_;exact ⟨k+1,hq,gw,gw,om⟩
 obtain rfl:k=b.args.length:=by omega
 have q7:=lF b.args.length b.args.length;have hAll:∀ u∈b.args,Gr (rkF rank) (cmF g) a u:=fun u hu=>by
  obtain ⟨j,hj⟩:=Tbk hu;exact ZbY.1 (hbl j u (Tad.1 hj).1 hj)
 have hM:=Zi3 hav hbv hno hAll;have hcm:cmF g a.op=o.comm:=by simp [cmF,hA.at']
 have ho:=hA.at';rw [hcm] at hM
 cases hc:o.comm with
 | true =>
  rw [hc] at hM;have e:bagB g rank a.args b.args=grB g rank a b:=by
   rw [Bool.eq_iff_iff,ZhG,ZbY,hM];constructor
   ·exact fun h=>.inr (.inl ⟨hop,rfl,h⟩)
   ·rintro (h | ⟨_,_,h⟩ | ⟨_,h,_⟩)
    ·rw [hop] at h;omega
    ·exact h
    ·cases h
  rw [e] at hbags;refine fN 20 (aj8 @q7 @q6 @a0 @a1 @ho @hc @Zag @tmz) ?_;refine gB ?_;refine fC @tmz (hbags) ?_;refine fR @tmz ?_;exact fD @tmz
 | false =>
  rw [hc] at hM;have hob2:o2=o:=by have:=hB.at';rw [<- hop,ho] at this;injection this with this;exact this.symm
  subst hob2;have hd2:d2=d:=by have:=hB.fst;rw [hA.fst] at this;injection this with this;exact this.symm
  subst hd2;have has:=hfr _ (Tac ho);have hlx:=hlex (by rw [hA.nas has,hB.nas has]);have e:lexB g rank a.args b.args=grB g rank a b:=by
   rw [Bool.eq_iff_iff,ZhF,ZbY,hM];constructor
   ·exact fun h=>.inr (.inr ⟨hop,rfl,h⟩)
   ·rintro (h | ⟨_,h,_⟩ | ⟨_,_,h⟩)
    ·rw [hop] at h;omega
    ·cases h
    ·exact h
  rw [e] at hlx;refine fN 21 (aj8 @q7 @q6 @a0 @a1 @ho @hc @Zag @tmz) ?_;refine gB ?_;refine fC @tmz (hlx) ?_;refine fR @tmz ?_;exact fD @tmz
end
noncomputable def Za2 (g:Sgn) (rank:List Int) (a b:Tm):Bool:=Zce g && (decide (rank.length=g.ops.length) && (Zbg g a && (Zbg g b && grB g rank a b)))
theorem Zk5 {g:Sgn} (h:Zce g=true):SgnOk g∧∀ o∈g.ops,o.assoc=false:=by
 simp only [Zce,Tar] at h;refine ⟨Zdk.1 h.2,fun o ho=>?_⟩;have:=List.all_eq_true.1 h.1 o ho;simp only [ZfB,Tar,Bool.not_eq_true'] at this;exact this.1
theorem Zor {g:Sgn} {rank:List Int} {a b:Tm} (hok:ZbL g) (hgl:Zal (Zaf g)<=1048576) (hoa:okTm a) (hba:Zal (Zab a)<=1048576) (hob:okTm b) (hbb:Zal (Zab b)<=1048576):Con e0 8 [.agg (Zaf g),.one (.sl (rank.map Zaw)),.agg (Zab a),.agg (Zab b)] [.one (.lit (.bool (Za2 g rank a b)))]:=by
 have hl:g.ops.length<=1048576:=by
  simp only [Zaf,Zal,Zdl,Tay] at hgl;omega
 have cF:=Ziy hok hl;have cA:=ZcG hok hoa (Zc7 hba);have cB:=ZcG hok hob (Zc7 hbb);have cG:=fun h1 h2 h3 h4 h5=>(Zv1 (rank:=rank) hok h1 h2 h3 _ (Tan _) h4 h5:GrC g rank a b);have rl:(rank.map Zaw).length=rank.length:=Tay _;have ol:(g.ops.map ZaL).length=g.ops.length:=Tay _;unfold GrC at cG;rw [Zaf] at *;refine gI (ts:=[.slot 8]) 479 Tryz.func8 ?_;refine fN 1 @tmz ?_;refine gB ?_;refine fC @tmz (cF) ?_
 cases h1:Zce g with
 | false =>
  have e:Za2 g rank a b=false:=by simp [Za2,h1]
  rw [e];refine fR @tmz ?_;exact fD @tmz
 | true =>
 obtain ⟨hg,hfr⟩:=Zk5 h1;have hs:=ZdT hg;by_cases h2:rank.length=g.ops.length;rotate_left
 ·have q2:((rank.length:Int)=(g.ops.length:Int))=False:=eq_false om;have e:Za2 g rank a b=false:=by simp [Za2,h2]
  rw [e];refine fR (aj4 @rl @ol @q2 @tmz) ?_;exact fD @tmz
 have q2:((rank.length:Int)=(g.ops.length:Int))=True:=eq_true om;rw [hs,Bool.true_and] at cA cB;refine fC (aj4 @rl @ol @q2 @tmz) (cA) ?_
 cases h3:Zbg g a with
 | false =>
  have e:Za2 g rank a b=false:=by simp [Za2,h3]
  rw [e];refine fR @tmz ?_;exact fD @tmz
 | true =>
 refine fC @tmz (cB) ?_
 cases h4:Zbg g b with
 | false =>
  have e:Za2 g rank a b=false:=by simp [Za2,h4]
  rw [e];refine fR @tmz ?_;exact fD @tmz
 | true =>
 have e:Za2 g rank a b=grB g rank a b:=by simp [Za2,h1,h2,h3,h4]
 rw [e];refine fC @tmz (cG hg hfr h2 (Zcq.1 h3) (Zcq.1 h4)) ?_;refine fR @tmz ?_;exact fD @tmz
def Zv4 (rows:List (List C)) (r:List D) (pm:List Bk):Prop:=∃ v E,r=[.one (.lit v)]∧Zay (.lit v)=true∧pm=[.set E (fun w=>Own w (.sl rows) E v)]
def Znb:Bk->Bool
 | .set _ _=>true
 | _=>false
def litC:C->Bool
 | .lit _=>true
 | _=>false
def litD:D->Bool
 | .one c=>litC c
 | .agg cs=>cs.all litC
 | _=>false
theorem ZjD {w:World} {S S':Nat->Prop}:∀ {cs:List C} {vs:List Value},cs.all litC=true->Zad w S cs vs->Zad w S' cs vs
 | [],[],_,_=>trivial
 | .lit x::cs,v::vs,hl,h=>by
  simp only [List.all_cons,Tar] at hl;exact ⟨h.1,ZjD hl.2 h.2⟩
 | .sl _::_,_::_,hl,_=>by simp [litC] at hl
 | .ptr _::_,_::_,hl,_=>by simp [litC] at hl
 | .fn _ _::_,_::_,hl,_=>by simp [litC] at hl
 | [],_::_,_,h=>h.elim
 | _::_,[],_,h=>h.elim
theorem Zos {w:World} {S S':Nat->Prop} {x:D} {v:Value} (hl:litD x=true) (h:DRel w S x v):DRel w S' x v:=by
 cases x with
 | one c=>cases c with
  | lit y=>exact h
  | _=>simp [litD,litC] at hl
 | agg cs=>obtain ⟨vs,h1,h2⟩:=h;exact ⟨vs,h1,ZjD hl h2⟩
 | clip _=>simp [litD] at hl
theorem Ziz {w:World} {S S':Nat->Prop}:∀ {r:List D} {vs:List Value},r.all litD=true->Zaq w S r vs->Zaq w S' r vs
 | [],[],_,_=>trivial
 | x::r,v::vs,hl,h=>by
  simp only [List.all_cons,Tar] at hl;exact ⟨Zos hl.1 h.1,Ziz hl.2 h.2⟩
 | [],_::_,_,h=>h.elim
 | _::_,[],_,h=>h.elim
theorem Zot {w:World} {S S':Nat->Prop} {L:Lay}:∀ {r:List D} {v:Value},r.all litD=true->ARel w S L (retA r) v->ARel w S' L (retA r) v
 | [],_,_,h=>by obtain ⟨vs,h1,h2⟩:=h;exact ⟨vs,h1,Ziz rfl h2⟩
 | [x],v,hl,h=>by
  simp only [List.all_cons,List.all_nil,Bool.and_true] at hl;exact Zos (x:=x) (v:=v) hl h
 | x::y::z,_,hl,h=>by obtain ⟨vs,h1,h2⟩:=h;exact ⟨vs,h1,Ziz hl h2⟩
def Zk6 (a:Option Addr) (cap:Nat) (rows:List (List C)):List D->List D->Prop
 | [],[]=>True
 | l::ls,d::ds=>(l=d∨(l=.one (.lit (.slice a rows.length cap))∧d=.one (.sl rows)))∧Zk6 a cap rows ls ds
 | _,_=>False
theorem Zk6.rel {a:Option Addr} {cap ety sz:Nat} {rows:List (List C)}:∀ {lits data:List D},Zk6 a cap rows lits data->∀ (w:World) (S:Nat->Prop) (vs:List Value),ZaH w S ety sz rows (.slice a rows.length cap)->Zaq w S lits vs->Zaq w (fun b=>S b∨vblk (.slice a rows.length cap)=some b) data vs
 | [],[],_,w,S,[],_,_=>trivial
 | [],[],_,w,S,_::_,_,h=>h.elim
 | l::ls,d::ds,hr,w,S,[],_,h=>h.elim
 | l::ls,d::ds,⟨h1,h2⟩,w,S,v::vs,hp,⟨hv,hvs⟩=>by
  refine ⟨?_,Zk6.rel h2 w S vs hp hvs⟩;rcases h1 with rfl | ⟨rfl,rfl⟩
  ·exact DRel.keep (Tai _) (fun _ _ _=>rfl) (fun b hb=>.inl hb) hv
  ·have hv:v=.slice a rows.length cap:=hv;subst hv;exact hp.rep
 | [],_::_,h,_,_,_,_,_=>h.elim
 | _::_,[],h,_,_,_,_,_=>h.elim
section
variable {e:Env} {U:Nat->Prop} {S0:Nat->Prop} {o:Oper}
end
section
variable {e:Env} {ds:List (Option Nat)} {K:St->Prop} {n n':Nat} {os os':List Oper} {σ:St}
end
def RelB (a:Option Addr) (cap ety sz:Nat) (rows:List (List C)) (lits data:List D):Prop:=∀ (w:World) (S:Nat->Prop) (vs:List Value),ZaH w S ety sz rows (.slice a rows.length cap)->Zaq w S lits vs->Zaq w (fun b=>S b∨vblk (.slice a rows.length cap)=some b) data vs
section
variable {a:Option Addr} {cap ety sz:Nat} {rows:List (List C)} {lits data:List D}
theorem RelB.nil:RelB a cap ety sz rows [] []:=fun w S vs _ h=>by cases vs <;> exact h
theorem RelB.same {d:D} (h:RelB a cap ety sz rows lits data):RelB a cap ety sz rows (d::lits) (d::data):=fun w S vs hb hv=>by
 cases vs with
 | nil=>exact hv.elim
 | cons v vs=>exact ⟨DRel.keep (Tai _) (fun _ _ _=>rfl) (fun b hb=>.inl hb) hv.1,h w S vs hb hv.2⟩
theorem RelB.tm {c0 c1 c2:C} (h:RelB a cap ety sz rows lits data):RelB a cap ety sz rows (.agg [c0,c1,c2,.lit (.slice a rows.length cap)]::lits) (.agg [c0,c1,c2,.sl rows]::data):=fun w S vs hb hv=>by
 cases vs with
 | nil=>exact hv.elim
 | cons v vs =>
  obtain ⟨⟨us,hv1,hr⟩,hv2⟩:=hv;refine ⟨⟨us,hv1,?_⟩,h w S vs hb hv2⟩
  match us,hr with
  | [u0,u1,u2,u3],hr =>
   simp only [Zad,and_true] at hr ⊢;obtain ⟨h0,h1,h2,h3⟩:=hr;have k:∀ {c u},Rep w S c u->Rep w (fun b=>S b∨vblk (.slice a rows.length cap)=some b) c u:=fun h=>Rep.mono h fun b hb=>.inl hb;refine ⟨k h0,k h1,k h2,?_⟩;simp only [Rep] at h3;subst h3;exact hb.rep
end
section
variable {e:Env} {U:Nat->Prop} {S0:Nat->Prop} {o:Oper}
theorem ZpB {m:List (Nat × Bk)} {base:Nat} {ρ:Operand->A} {c:Operand} {args:Array Operand} {ts:Array TypeId} (ho:o.op=.call ⟨.value c,args,ts⟩) {f:FuncId} {xs data r:List D} (hc:ZcF (ρ c)=some (f,[])) (hx:dsA (args.toList.map ρ)=some xs)
  {k cap ety sz:Nat} {a:Option Addr} {rows:List (List C)} (hm:gm m k=some (.buf (some (a,cap)) ety sz rows)) (hrd:RelB a cap ety sz rows xs data) (hcon:Con e f data r) (hl:r.all litD=true):ZaM e U base S0 m o ρ (retA r):=by
 intro w S L ρv hC hr;obtain ⟨m1,m2⟩:=Zha ho;obtain ⟨us,hv,hus⟩:=Zdf hc (hr c m1);have hds:Zaq w S xs (args.toList.map ρv):=Zei hx (by simp) (mapx (fun p hp=>hr p (m2 p hp)));obtain ⟨hbody,hcon⟩:=hcon;obtain ⟨hva,hb⟩:=hC.own k _ hm;have hva:L.v k=.slice a rows.length cap:=hva (a,cap) rfl;rw [hva] at hb;have hlt:∀ g,vblk (.slice a rows.length cap)=some g->g < w.heap.size∧¬ S g∧¬ e.E g:=fun g hg=>by
  have hE:¬ e.E g:=hC.notE hm (by simp only [Zas];rw [hva];exact hg);obtain ⟨_,_,h3⟩:=hb;rcases h3 with ⟨hn,b,hv⟩ | ⟨g',cap',cur,hv,hc,hg',hs,_⟩
  ·injection hv with e1 e2 e3
   rw [e3] at hg
   cases a <;> simp [vblk] at hg
  ·rw [hv] at hg;simp only [vblk] at hg;split at hg
   ·cases hg
   ·injection hg with hg
    subst hg;exact ⟨hg',hs,hE⟩
 have hus0:us=[]:=by cases us with | nil=>rfl | cons u us=>exact hus.elim
 subst hus0;have hcl:=hcon w (fun b=>S b∨vblk (.slice a rows.length cap)=some b) _ (fun b hb=>hb.elim (hC.sin b) fun q=>⟨(hlt b q).1,(hlt b q).2.2⟩) (fun b hb=>Tbd (hC.ein b hb) hC.bsz) hC.g (hrd w S _ hb hds);unfold gives;rw [Zem ho hv hbody];simp only [List.append_nil];exact hcl.mono fun en w' ⟨v,h1,h2,h3,h4⟩=>⟨v,h1,S,⟨fun _ h=>h,fun _ h=>.inl h⟩,hC.later h2 h3 (fun _ h=>h) (fun _ h=>.inl h),h2,Zot hl (ZeO h4)⟩
end
section
variable {e:Env} {ds:List (Option Nat)} {K:St->Prop} {n n':Nat} {os os':List Oper} {σ:St}
theorem gCN {c:Operand} {args:List Operand} {f:FuncId} {xs data r:List D} {d:Option Nat} {s1 s2 s3:List (Nat × A)} {m1 m2:List (Nat × Bk)} {cap ety sz:Nat} {a:Option Addr} {rows:List (List C)} (k:Nat) (hc:Con e f data r) (hrd:RelB a cap ety sz rows xs data) (hK:Runs e ds n' os' ⟨s3,m2⟩ K) (h:Zbc e.P ds n os σ=.call true c args d n' os' ⟨s1,m1⟩:=by exact sfv) (h1:ZiO c args (some ⟨s1,m1⟩)=some (f,xs,⟨s2,m2⟩):=by exact sfv) (hcap:ZcF (evA s1 c)=some (f,[]):=by exact sfx)
  (hm:gm m2 k=some (.buf (some (a,cap)) ety sz rows):=by exact snv) (hl:r.all litD=true:=by rfl) (h2:setA s2 d (retA r)=s3:=by simp only [setA,retA];exact rfl):Runs e ds n os σ K:=by
 refine Zeo os n σ ?_;rw [h];intro o ts ho hd;simp only [ZiO,Zkk,hcap] at h1;split at h1
 ·rename_i f' caps xs' e1 e2;injection e1 with e1
  injection e1 with e1 e3
  subst e1 e3;injection h1 with h1
  injection h1 with h3 h4
  injection h4 with h4 h5
  injection h5 with h5 h6
  subst h5 h6;simp only [List.map_nil,List.append_nil] at h4;subst h4;show Zkh e true o _ _;intro he;exact ⟨retA r,by rw [hd,h2];exact hK,fun U base S0=>ZpB ho hcap e2 hm hrd hc hl⟩
 ·cases h1
end
def topC (u:Tm) (a:Option Addr) (cap:Nat):List C:=[.lit (.int .i64 u.op),.lit (.string u.name),.lit (.int .i64 u.sort),.lit (.slice a (Zaa u.args).length cap)]
abbrev topB (u:Tm) (a:Option Addr) (cap:Nat):Bk:=.buf (some (a,cap)) 34 4 (Zaa u.args)
def RTop (u:Tm) (r:List D) (pm:List Bk):Prop:=∃ (a:Option Addr) (cap:Nat),r=[.agg (topC u a cap)]∧pm=[topB u a cap]
def ZeJ (u:Tm) (b:Bool) (r:List D) (pm:List Bk):Prop:=∃ (a:Option Addr) (cap:Nat),r=[.agg (topC u a cap),.one (.lit (.bool b))]∧pm=[topB u a cap]
theorem ZeK:∀ u a cap,topC u a cap=[.lit (.int .i64 u.op),.lit (.string u.name),.lit (.int .i64 u.sort),.lit (.slice a (Zaa u.args).length cap)]:=fun _ _ _=>rfl
theorem ZpC (t:Tm) (hb:Zal (Zab t)<=1048576):ConP e0 33 [.agg (Zab t)] [] (RTop t):=by
 obtain ⟨op,nm,so,args⟩:=t;have hc:Zab (.mk op nm so args)=[.lit (.int .i64 op),.lit (.string nm),.lit (.int .i64 so),.sl (Zaa args)]:=by simp only [Zab]
 have hl:args.length<=1048576:=by have:=Zaj args;simp only [Zab,Zal,Zdl] at hb;omega
 have h:∀ a∈args,Con e0 33 [.agg (Zab a)] [.agg (Zab a)]:=fun a ha=>by
  obtain ⟨i,hi⟩:=Tbk ha;have hi':(Zaa args)[i]?=some (Zab a):=by rw [Zbx,hi];rfl
  have h2:=Zeg hi';refine ZeH a ?_;simp only [Zab,Zal,Zdl] at hb;omega
 refine gIP (ts:=[.cell 2 34]) [] 65567 Tryz.func33 ?_;refine fN 1 @hc ?_;refine gB ?_;refine gP 6 ?_;refine gX ?_;refine fR @hc ?_;refine pN 1000 34 4 ?_;refine fG @hc ?_;have F:=ai @Zct @hc;refine gL (ι:=Nat × Option Addr × Nat) [4,16] [3,1000] (fun x=>[(4,.d (.one (.lit (.int .i64 (x.1:Int)))))]) (fun x=>[(1000,.buf (some (x.2.1,x.2.2)) 34 4 (Zaa (args.take x.1))),(3,.var none [.lit (.int .i64 op),.lit (.string nm),.lit (.int .i64 so),.lit (.slice x.2.1 x.1 x.2.2)])]) (fun x=>x.1<=args.length) (fun x=>args.length - x.1) ((0,none,0)) (Taj _) (fun x hx=>?_);clear F
 obtain ⟨i,p,cap⟩:=x;simp only at hx;by_cases hlt:i < args.length
 ·have hg:args[i]?=some args[i]:=Taa hlt;have hcon:=h args[i] (List.getElem_mem hlt);generalize args[i]=a at hg hcon;have q1:=lT i args.length;have q4:IntKind.i64.wrap ((i:Int)+1)=(i:Int)+1:=IntWalk.i64_in _ om;have q2:i+1<=maxApp:=by unfold maxApp;omega
  have q3:=Zoe hx;have q5:(args.take i).length=i:=by rw [Taw];omega
  refine fB (aj6 @hc @Zaj @Zbx @q1 @hg @tmz) ?_;refine fC (aj3 @tmz @Zbx @hg) (hcon) ?_;have F:=aj4 @tmz @q2 @q3 @q5;refine gP 3 ?_;clear F;refine gS 28 fun p2 cap2=>?_;refine fR (aj3 @tmz @q3 @q5) ?_;refine pE [28] [1000] (Zri _) ?_;rw [<- ZgG args hg];have F:=ai @hc @q4;refine gG ?_;exact ⟨(i+1,p2,cap2),hlt,gw,gw,om⟩
 ·obtain rfl:i=args.length:=by omega
  have q1:=lF args.length args.length;rw [Tap];refine fG (aj3 @hc @Zaj @q1) ?_;rw [show args.length=(Zaa args).length from (Zaj args).symm];exact (have F:=e0P;gTP (R:=RTop (.mk op nm so args)) [1000] ⟨p,cap,rfl,rfl⟩)
def Zzh (ts:List Tm) (r:List D) (pm:List Bk):Prop:=∃ (a:Option Addr) (cap:Nat),r=[.one (.lit (.slice a (Zaa ts).length cap))]∧pm=[.buf (some (a,cap)) 34 4 (Zaa ts)]
theorem ZmV (ts:List Tm) (hB:tmsB ts):ConP e0 74 [.one (.sl (Zaa ts))] [] (Zzh ts):=by
 unfold tmsB at hB;refine gIP (ts:=[.slot 2]) [] 541 Tryz.func74 ?_;refine fG @tmz ?_;have F:=@Zct;refine gL (ι:=Nat) [3,4,9] [3] (fun i=>[(4,A.d (.one (.lit (.int .i64 i)))),(3,.buf 3)]) (fun i=>[(3,.buf none 34 4 (Zaa (ts.take i)))]) (fun i=>i<=ts.length) (fun i=>ts.length - i) (0) (Taj _) (fun i hi=>?_);clear F;by_cases hlt:i < ts.length;rotate_left
 ·obtain rfl:i=ts.length:=by omega
  have q2:=lF ts.length ts.length;rw [Tap];refine fG (ai @q2 @tmz) ?_;refine pS 2 fun a cap=>?_;exact (have F:=tmz;gTP (R:=Zzh ts) [2] ⟨a,cap,rfl,rfl⟩)
 obtain ⟨t,ht⟩:∃ b,ts[i]?=some b:=⟨_,Taa hlt⟩;have q2:=lT i ts.length;have q4:=Zao (k:=i) om;have hi':(Zaa ts)[i]?=some (Zab t):=by rw [Zbx,ht];rfl
 have hbt:=Zeg hi';have cc:=ZeH t om;have l1:ZaE 4 (Zaa (ts.take i))=true:=ZbN _;have l2:((Zaa (ts.take i)).length+1<=maxApp)=True:=eq_true (by rw [Zaj,Taw];unfold maxApp;omega);have l3:((ts.take i).length+1<=maxApp)=True:=eq_true (by rw [Taw];unfold maxApp;omega);have e:=ZkU ht;refine fB (ai @q2 @tmz) ?_;refine fC (aj3 @q2 @ht @tmz) (cc) ?_;refine fR (aj4 @l1 @l2 @l3 @tmz) ?_;have F:=ai @q4 @e;refine gG ?_;exact ⟨i+1,hlt,gw,gw,om⟩
def Zsj (u:Tm) (b:Bool):List D:=[.agg [.lit (.int .i64 u.op),.lit (.string u.name),.lit (.int .i64 u.sort),.lit (.slice none 0 0)],.one (.lit (.bool b))]
def nilC (op:Int) (nm:ByteArray) (so:Int):List C:=[.lit (.int .i64 op),.lit (.string nm),.lit (.int .i64 so),.lit (.slice none 0 0)]
theorem Zsk (nm:ByteArray) (so:Int):Con e0 67 [.one (.lit (.string nm)),.one (.lit (.int .i64 so))] [.agg (nilC (-1) nm so)]:=by
 rw [nilC];refine gI (ts:=[.cell 4 34]) 19 Tryz.func67 ?_;refine fN 1 @tmz ?_;refine gB ?_;have F:=@tmz;refine gP 2 ?_;clear F;have F:=tmz;refine gX ?_;clear F;refine fR @tmz ?_;exact fD @tmz
section
variable {g:Sgn}
theorem ZpD (hg:SgnOk g) {op:Int} {o:Opr} (h0:0<=op) (ho:g.ops[op.toNat]?=some o):Con e0 72 [.agg (Zaf g),.one (.lit (.int .i64 op))] (Zsj (ZaQ o) (!decide (o.unit=0))):=by
 have hax:=hg.axs o (Tac ho);have hlo:=hax.lo;have hhi:=hax.hi;have hln:=hg.len;have hw:IntKind.i64.wrap (o.unit - 1)=o.unit - 1:=ZbM rfl om om;rw [Zsj];rw [Zaf];refine gI (ts:=[.cell 4 34,.slot 5]) 4151 Tryz.func72 ?_;by_cases hu:o.unit=0
 ·have hb:(!decide (o.unit=0))=false:=by simp [hu]
  have u0:(ZaQ o).op=0:=by simp [ZaQ,Tm.op,hu]
  have u1:(ZaQ o).name=ByteArray.empty:=rfl;have u2:(ZaQ o).sort=0:=rfl;rw [hb,u0,u1,u2];refine fN 2 (aj5 @h0 @ho @Zag @hu @tmz) ?_;refine gB ?_;have F:=tmz;refine gX ?_;clear F;refine fR @tmz ?_;exact fD @tmz
 ·have hb:(!decide (o.unit=0))=true:=by simp [hu]
  have u0:(ZaQ o).op=o.unit - 1:=by simp [ZaQ,Tm.op,hu]
  have u1:(ZaQ o).name=ByteArray.empty:=rfl;have u2:(ZaQ o).sort=0:=rfl;rw [hb,u0,u1,u2];refine fN 3 (aj6 @h0 @ho @Zag @hu @hw @tmz) ?_;refine gB ?_;have F:=aj6 @h0 @ho @Zag @hu @hw @tmz;refine gP 7 ?_;clear F;have F:=tmz;refine gX ?_;clear F;refine fR @tmz ?_;exact fD @tmz
end
theorem Con.args {e:Env} {f:FuncId} {lits data r:List D} (h:Con e f data r) (hd:∀ (w:World) (S:Nat->Prop) (vs:List Value),Zaq w S lits vs->Zaq w S data vs):Con e f lits r:=⟨h.1,fun w S vs hS hE hG hvs=>h.2 w S vs hS hE hG (hd w S vs hvs)⟩
theorem Zaq.nilTm {x:D} {op so:Int} {nm:ByteArray} {w:World} {S:Nat->Prop} {vs:List Value} (h:Zaq w S [x,.agg [.lit (.int .i64 op),.lit (.string nm),.lit (.int .i64 so),.lit (.slice none 0 0)]] vs):Zaq w S [x,.agg (Zab (.mk op nm so []))] vs:=by
 match vs,h with
 | [v1,v2],⟨h1,⟨us,hu,hr⟩,_⟩ =>
  refine ⟨h1,⟨us,hu,?_⟩,trivial⟩
  match us,hr with
  | [u0,u1,u2,u3],hr =>
   simp only [Zad,Rep,and_true] at hr;obtain ⟨rfl,rfl,rfl,rfl⟩:=hr;simp only [Zab,Zaa,Zad,Rep,and_true,true_and];exact ⟨none,0,0,rfl,rfl,Tai _,by decide,fun h=>absurd h (by decide)⟩
section
variable {g:Sgn}
open Classical in
theorem Zou (hokg:ZbL g) (hg:SgnOk g) {op:Int} {o:Opr} {d:Dcl} (h0:0<=op) (ho:g.ops[op.toNat]?=some o) (hd:o.decls[0]?=some d) (xs:List Tm) (ha:∀ a∈xs,TermOk g a) (hl:xs.length<=1048576) (hfb:tmsB (Zap o op xs)):ConP e0 38 [.agg (Zaf g),.one (.lit (.int .i64 op)),.one (.sl (Zaa xs))] [] (ZeJ (mk6 g o d op xs) (mkO g o d op xs).isSome):=by
 have hz:=Zfz;have hfo:Zat (Zap o op xs):=Zmi.2 fun b hb=>Zau.ok hg _ b (Tan _) (ZjZ ha b hb);have hfs:=Zhy (o:=o) (op:=op) ha;have hax:=hg.axs o (Tac ho);have hlo:=hax.lo;have hhi:=hax.hi;have hln:=hg.len;obtain ⟨d',hd',hr0,hr1,hargs⟩:=hg.first ho;rw [hd] at hd';injection hd' with hd'
 subst hd';have cK:=Zdx hg.sorts;rw [ZaZ] at cK;have cUn:=ZpD hg h0 ho;rw [Zaf,Zsj] at cUn;have cA:=Zd6 hd;rw [ZaL] at cA;have hB:mkO g o d op xs=if ArB o d xs.length then none else if ∀ (i:Nat) a,xs[i]?=some a->KArg g o d i a then mkL o op (Zap o op xs) else none:=rfl
 have hM:mk6 g o d op xs=(mkO g o d op xs).getD (if ¬ ArB o d xs.length∧∀ (i:Nat) a,xs[i]?=some a->KArg g o d i a then appT op (srtO o (Zap o op xs)) else zTm):=rfl;have har2:o.assoc=true->d.args.length=2:=fun h=>by
  obtain ⟨k1,k2,hk,_⟩:=Opr.two hg ho hd (.inl h);rw [hk];rfl
 refine gIP (ts:=[.cell 6 34,.slot 7]) [] 691281634562849416457226259614436229071 Tryz.func38 ?_;refine fN 2 (aj5 @tmz @Zbl @h0 @ho @Zag) ?_;refine gB ?_;refine fC @tmz (cK) ?_;refine fR @tmz ?_;refine fN 3 @tmz ?_;refine gM (ι:=Bool) [38] [] (fun b=>[(38,A.d (.one (.lit (.bool b))))]) (fun b=>[]) (fun b=>b=decide (ArB o d xs.length)) ?_ (fun b hb=>Exists.intro _ (ai (Wk.refl _) ?_))
 ·refine gB ?_;refine fC (ai @tmz @Zag) (cA) ?_;by_cases q:xs.length=d.args.length
  ·have q1:((xs.length:Int)=(d.args.length:Int))=True:=eq_true om;have hA:¬ ArB o d xs.length:=fun h=>h.elim (fun h=>by have:=har2 h.1;omega) fun h=>h.2 q;refine fR (ai @q1 @tmz) ?_;have F:=@tmz;refine gG ?_;exact ⟨false,(decide_eq_false hA).symm,gw,gw⟩
  have q1:((xs.length:Int)=(d.args.length:Int))=False:=eq_false om
  cases hac:o.assoc with
  | false =>
   have hA:ArB o d xs.length:=.inr ⟨hac,q⟩;refine fR (aj3 @q1 @hac @tmz) ?_;have F:=@tmz;refine gG ?_;exact ⟨true,(decide_eq_true hA).symm,gw,gw⟩
  | true =>
  by_cases q2:xs.length < 2
  ·have hA:ArB o d xs.length:=.inl ⟨hac,q2⟩;have q3:((2:Int)<=(xs.length:Int))=False:=eq_false om;refine fR (aj4 @q1 @hac @q3 @tmz) ?_;have F:=@tmz;refine gG ?_;exact ⟨true,(decide_eq_true hA).symm,gw,gw⟩
  ·have hA:¬ ArB o d xs.length:=fun h=>h.elim (fun h=>q2 h.2) fun h=>by rw [hac] at h;cases h.1
   have q3:((2:Int)<=(xs.length:Int))=True:=eq_true om;refine fR (aj4 @q1 @hac @q3 @tmz) ?_;have F:=@tmz;refine gG ?_;exact ⟨false,(decide_eq_false hA).symm,gw,gw⟩
 by_cases hAr:ArB o d xs.length
 ·rw [decide_eq_true hAr] at hb;subst hb;rw [if_pos hAr] at hB;rw [hB,if_neg fun h=>h.1 hAr] at hM;rw [hM,hB];refine fN 4 @tmz ?_;refine gB ?_;have F:=tmz;refine gX ?_;clear F;refine fR @tmz ?_;refine pN 1000 34 4 ?_;exact (have F:=e0P;gTP (R:=ZeJ zTm false) [1000] ⟨none,0,rfl,rfl⟩)
 rw [decide_eq_false hAr] at hb;subst hb;rw [if_neg hAr] at hB;have hnas:o.assoc=false->xs.length=d.args.length:=fun h=>Classical.byContradiction fun c=>hAr (.inr ⟨h,c⟩);have hfl0:Zap o op []=[]:=rfl;refine fN 5 @tmz ?_;refine gB ?_;refine fC @tmz (cUn) ?_;refine fR @tmz ?_;refine fG @tmz ?_;have F:=aj3 @hfl0 @Zct @tmz;refine gL (ι:=Nat) [7,12,13,14,50,55,73,82,92] [12] (fun i=>[(13,A.d (.one (.lit (.int .i64 i)))),(12,.buf 12)]) (fun i=>[(12,.buf none 34 4 (Zaa (Zap o op (xs.take i))))]) (fun i=>i<=xs.length∧∀ (j:Nat) a,j < i->xs[j]?=some a->KArg g o d j a) (fun i=>xs.length - i) (0) (⟨Taj _,fun j a h=>absurd h om⟩) (fun i hi=>?_);clear F
 obtain ⟨hi,hall⟩:=hi;by_cases hlt:i < xs.length
 ·obtain ⟨a,hai⟩:∃ a,xs[i]?=some a:=⟨_,Taa hlt⟩;have hT:=ha a (Tac hai);have q1:=lT i xs.length;have hw1:=Zao (k:=i) om;obtain ⟨k,hk⟩:=Zgk hg ho hd hnas hlt;obtain ⟨hk0,hk1⟩:=hargs k (Tac hk);have hkd:=Zfg hg.sorts hk0 hk1;have hkN:d.args[(argAt o i:Nat)]?=some k:=hk;have cKa:=Zfx hokg hg hT.form.node;rw [Zaf] at cKa;have cU:Con e0 47 [.agg (Zab a),.agg [.lit (.int .i64 (ZaQ o).op),.lit (.string (ZaQ o).name),.lit (.int .i64 (ZaQ o).sort),.lit (.slice none 0 0)]] _:=(Zcr (hT.ok hg) (Zin (o:=o) hlo om)).args fun w S vs h=>Zaq.nilTm h
  have hUiff:o.unit≠0->(Zah a (ZaQ o)=0 ↔ a.op=o.unit - 1):=fun hu=>by
   rw [ZbD];constructor
   ·rintro h;rw [h];simp [ZaQ,Tm.op,hu]
   ·exact Zfj hg ho hu hT.form
  generalize hU:decide (Zah a (ZaQ o)=0)=U at cU;have hst:=Zjq (o:=o) (op:=op) hai;have hle:=Zgl o op xs (i+1);rw [hst,Tae] at hle;have hfl:=Zbe (Zap o op xs);have hnext:Zbt g a=((kd g.sorts k:Nat):Int)->i+1<=xs.length∧∀ (j:Nat) a,j < i+1->xs[j]?=some a->KArg g o d j a:=fun hkk=>⟨hlt,fun j a' hj ha'=>by
   by_cases e:j=i
   ·subst e;rw [hai] at ha';injection ha' with ha'
    subst ha';exact ⟨k,hk,hkk⟩
   ·exact hall j a' om ha'⟩
  refine fG (ai @q1 @tmz) ?_;refine gM (ι:=Unit) [14] [] (fun u=>[(14,A.d (.one (.lit (.int .i64 (argAt o i:Nat)))))]) (fun u=>[]) (fun u=>True) ?_ (fun u hu=>Exists.intro _ (ai (Wk.refl _) ?_))
  ·rcases Bool.eq_false_or_eq_true o.assoc with hac | hac
   ·have F:=aj3 @Zag @hac @ZfL;refine gG ?_;exact ⟨(),trivial,gw,gw⟩
   ·have F:=aj4 @Zag @hac @ZfL @if_false.{1};refine gG ?_;exact ⟨(),trivial,gw,gw⟩
  refine fN 13 @tmz ?_;refine gB ?_;refine fC (ai @hai @tmz) (cKa) ?_;by_cases hkk:Zbt g a=((kd g.sorts k:Nat):Int);rotate_left
  ·have hno:¬ ∀ (i:Nat) a,xs[i]?=some a->KArg g o d i a:=fun h=>by
    obtain ⟨k',hk',he⟩:=h i a hai;rw [hk] at hk';injection hk' with hk'
    subst hk';exact hkk he
   rw [if_neg hno] at hB;rw [hB,if_neg fun h=>hno h.2] at hM;rw [hM,hB];refine fR (aj9 @tmz @Zag @hd @ZaI @hkN @hk0 @hkd @ZaG @hkk) ?_;refine fN 14 @tmz ?_;refine gB ?_;have F:=tmz;refine gX ?_;clear F;refine fR @tmz ?_;refine pN 1000 34 4 ?_;exact (have F:=e0P;gTP (R:=ZeJ zTm false) [1000] ⟨none,0,rfl,rfl⟩)
  have hnext:=hnext hkk;have l1:ZaE 4 (Zaa (Zap o op (xs.take i)))=true:=ZbN _;have l5:ZaE 4 (Zaa a.args)=true:=ZbN _;refine fR (aj9 @tmz @Zag @hd @ZaI @hkN @hk0 @hkd @ZaG @hkk) ?_;refine fN 16 @tmz ?_;refine gM (ι:=Bool) [82] [] (fun b=>[(82,A.d (.one (.lit (.bool b))))]) (fun b=>[]) (fun b=>b=decide (o.unit≠0∧a.op=o.unit - 1)) ?_ (fun b hb=>Exists.intro _ (ai (Wk.refl _) ?_))
  ·by_cases hu:o.unit=0
   ·have F:=ai @hu @tmz;refine gG ?_;exact ⟨false,(decide_eq_false fun h=>h.1 hu).symm,gw,gw⟩
   ·refine gB ?_;refine fC (aj3 @hu @hai @tmz) (cU) ?_;refine fR @tmz ?_;have e:U=decide (o.unit≠0∧a.op=o.unit - 1):=by
     rw [<- hU];exact decide_eq_decide.2 ⟨fun h=>⟨hu,(hUiff hu).1 h⟩,fun h=>(hUiff hu).2 h.2⟩
    have F:=ai @hu @tmz;refine gG ?_;exact ⟨U,e,gw,gw⟩
  by_cases hUn:o.unit≠0∧a.op=o.unit - 1
  ·rw [decide_eq_true hUn] at hb;subst hb;have hN:¬ (o.assoc=true∧a.op=op):=fun h=>by
    have e:(ZaQ o).args=[]:=by unfold ZaQ;rfl
    have e2:=Zfj hg ho hUn.1 hT.form hUn.2;obtain ⟨o',d',hA⟩:=hT.form.node.app om;have:o'=o:=by have:=hA.at';rw [h.2,ho] at this;injection this with this;exact this.symm
    subst this;have:=(hA.asc h.1).1;rw [e2,e] at this;simp at this
   have e:ZbA o op a=[]:=by unfold ZbA;rw [if_neg hN,if_pos hUn]
   rw [e,List.append_nil] at hst;rw [<- hst];have F:=ai @tmz @hw1;refine gG ?_;exact ⟨i+1,hnext,gw,gw,om⟩
  rw [decide_eq_false hUn] at hb;subst hb;by_cases hN:o.assoc=true∧a.op=op
  ·have e:ZbA o op a=a.args:=by unfold ZbA;rw [if_pos hN]
   rw [e] at hst hle;have l3:((Zap o op (xs.take i)).length+a.args.length<=maxApp)=True:=eq_true (by unfold maxApp;omega);have l4:Zaa (Zap o op (xs.take i))++Zaa a.args=Zaa (Zap o op (xs.take (i+1))):=by rw [hst,Zbz]
   obtain ⟨hN1,hN2⟩:=hN;have q2:(a.op=op)=True:=eq_true hN2;have F:=aj10 @tmz @hai @Zag @hN1 @q2 @l1 @l5 @l3 @l4 @hw1;refine gG ?_;exact ⟨i+1,hnext,gw,gw,om⟩
  ·have e:ZbA o op a=[a]:=by unfold ZbA;rw [if_neg hN,if_neg hUn]
   rw [e] at hst hle;have l3:((Zap o op (xs.take i)).length+1<=maxApp)=True:=eq_true (by simp only [Tag,Tak] at hle;unfold maxApp;omega);have l4:Zaa (Zap o op (xs.take i))++[Zab a]=Zaa (Zap o op (xs.take (i+1))):=by rw [hst,Zbz,Zcc]
   rcases Bool.eq_false_or_eq_true o.assoc with hac | hac
   ·have hq:(a.op=op)=False:=eq_false fun h=>hN ⟨hac,h⟩;have F:=aj9 @tmz @hai @Zag @hac @hq @l1 @l3 @l4 @hw1;refine gG ?_;exact ⟨i+1,hnext,gw,gw,om⟩
   ·have F:=aj8 @tmz @hai @Zag @hac @l1 @l3 @l4 @hw1;refine gG ?_;exact ⟨i+1,hnext,gw,gw,om⟩
 ·obtain rfl:i=xs.length:=by omega
  have q1:=lF xs.length xs.length;rw [Tap];have hAll:∀ (i:Nat) a,xs[i]?=some a->KArg g o d i a:=fun j a h=>hall j a (Tad.1 h).1 h;rw [if_pos hAll] at hB;rw [hB,if_pos ⟨hAr,hAll⟩] at hM;rw [hM,hB];clear hM hB hall hAll hnas;generalize hL:Zap o op xs=L at hfb hfo hfs ⊢;have hLb:L.length+Zar (Zaa L)<=1048576:=hfb;refine fN 19 (ai @q1 @tmz) ?_;refine pS 12 fun a cap=>?_;refine pD 12 [12] [] ?_;by_cases hu:o.unit≠0∧L.length < 2
  ·have e:mkL o op L=some (L.headD (ZaQ o)):=by unfold mkL;rw [if_pos hu]
   rw [e];obtain ⟨hu1,hu2⟩:=hu;have q2:(o.unit=0)=False:=eq_false hu1
   cases L with
   | nil =>
    have z2:(((0:Nat):Int)=0)=True:=eq_true om;refine fN 20 (aj5 @q1 @Zag @q2 @z2 @tmz) ?_;refine gB ?_;refine fR @tmz ?_;refine pN 1000 34 4 ?_;exact (have F:=e0P;gTP (R:=ZeJ (ZaQ o) true) [1000] ⟨none,0,rfl,rfl⟩)
   | cons b bs =>
    have hbs:bs=[]:=Tao (by simp only [Tag] at hu2;omega);subst hbs;have hbb:Zal (Zab b)<=1048576:=by simp only [Zaa,Zar] at hLb;omega
    have z1:(((0+1:Nat):Int)=0)=False:=eq_false om;have z2:(((0+1:Nat):Int)=1)=True:=eq_true om;have z3:(((1:Nat):Int)=0)=False:=eq_false om;have z4:(((1:Nat):Int)=1)=True:=eq_true om;have q5:([b]:List Tm)[0]?=some b:=rfl;have z5:(0 < 0+1)=True:=eq_true om;have z6:((0:Nat) < 1)=True:=eq_true om;have z7:Int.toNat 0=0:=rfl;refine fN 22 (aj12 @q1 @Zag @q2 @z1 @z2 @z3 @z4 @z5 @z6 @z7 @q5 @tmz) ?_;refine gB ?_
    have F:=aj5 @z5 @z6 @z7 @q5 @tmz;refine gCP [] [1000] (ZpC b hbb) ?_;clear F;rintro r pm ⟨a1,k1,rfl,rfl⟩;simp only [setA,retA,zipM,Taf,Tah];refine fR @tmz ?_;exact (have F:=e0P;gTP (R:=ZeJ b true) [1000] ⟨a1,k1,rfl,rfl⟩)
  ·have hml:mkL o op L=if BigT o op (srtO o L) then none else some (appT op (srtO o L)):=by unfold mkL;rw [if_neg hu]
   rw [hml];clear hml cUn cK cA;have hSl:=Zn7 o L;have hSp:=Zer o L;have sz1:=Zio hSp;have dz1:=ZhV hSp;have sl1:=Zbe L;have cSo:=Ziu L hfo hfb;refine gM (ι:=Unit) [116] [] (fun v=>[(116,A.d (.one (.lit (.bool false))))]) (fun v=>[]) (fun v=>True) ?_ (fun v hv=>Exists.intro _ (ai (Wk.refl _) ?_))
   ·by_cases hu0:o.unit=0
    ·have q2:(o.unit=0)=True:=eq_true hu0;have F:=ai @q2 @tmz;refine gG ?_;exact ⟨(),trivial,gw,gw⟩
    ·have q2:(o.unit=0)=False:=eq_false hu0;have q3:((L.length:Int)=0)=False:=eq_false fun h=>hu ⟨hu0,om⟩;have F:=aj3 @q2 @q3 @tmz;refine gG ?_;exact ⟨(),trivial,gw,gw⟩
   refine fN 21 @tmz ?_;refine gM (ι:=Unit) [123] [] (fun v=>[(123,A.d (.one (.lit (.bool false))))]) (fun v=>[]) (fun v=>True) ?_ (fun v hv=>Exists.intro _ (ai (Wk.refl _) ?_))
   ·by_cases hu0:o.unit=0
    ·have q2:(o.unit=0)=True:=eq_true hu0;have F:=ai @q2 @tmz;refine gG ?_;exact ⟨(),trivial,gw,gw⟩
    ·have q2:(o.unit=0)=False:=eq_false hu0;have q3:((L.length:Int)=1)=False:=eq_false fun h=>hu ⟨hu0,om⟩;have F:=aj3 @q2 @q3 @tmz;refine gG ?_;exact ⟨(),trivial,gw,gw⟩
   refine fN 23 @tmz ?_;refine gB ?_;refine fR (ai @Zag @tmz) ?_;refine gM (ι:=Unit) [12] [] (fun v=>[(12,.d (.one (.sl (Zaa (srtO o L)))))]) (fun v=>[]) (fun v=>True) ?_ (fun v hv=>Exists.intro _ (ai (Wk.refl _) ?_))
   ·cases hcm:o.comm with
    | true =>
     rw [show srtO o L=Zcb L by unfold srtO;rw [if_pos hcm]];refine fN 24 (ai @hcm @tmz) ?_;refine gB ?_;refine fC @tmz (cSo) ?_;refine fR @tmz ?_;have F:=@tmz;refine gG ?_;exact ⟨(),trivial,gw,gw⟩
    | false =>
     rw [show srtO o L=L by unfold srtO;rw [if_neg (by rw [hcm];simp)]];have F:=ai @hcm @tmz;refine gG ?_;exact ⟨(),trivial,gw,gw⟩
   have hSB:tmsB (srtO o L):=by
    unfold tmsB at hfb ⊢;rw [ZkY hSp,hSl];exact hfb
   generalize srtO o L=S at hSl sz1 dz1 hSB ⊢;have em:Zab (appT op S)=[.lit (.int .i64 op),.lit (.string ByteArray.empty),.lit (.int .i64 0),.sl (Zaa S)]:=by simp only [appT,Zab]
   have zs:sizeTm (appT op S)=1+sizeTms S:=by rw [ZaD];rfl
   have c1:=ZgF (t:=appT op S) (by unfold big;omega);rw [em] at c1;refine fN 25 @tmz ?_;refine gB ?_;have F:=@tmz;refine gCP [] [1000] (ZmV S hSB) ?_;clear F;rintro r pm ⟨a1,k1,rfl,rfl⟩;simp only [setA,retA,zipM,Taf,Tah];refine fR @e0P ?_;refine fN 26 @tmz ?_;by_cases h7:o.assoc=true∧7 < S.length
   ·rw [if_pos (show BigT o op S from .inl h7)];obtain ⟨hac,h7⟩:=h7;have q2:((S.length:Int)<=7)=False:=eq_false om;have q2':(((Zaa S).length:Int)<=7)=False:=by rw [Zaj];exact q2
    refine gLp 13 12 13 ?_;refine fR (ai @hac @q2') ?_;exact (have F:=e0P;gTP (R:=ZeJ (appT op S) false) [1000] ⟨a1,k1,rfl,rfl⟩)
   have hac:o.assoc=true->((S.length:Int)<=7)=True:=fun h=>eq_true (Int.not_lt.1 fun q=>h7 ⟨h,om⟩);have hres:(if BigT o op S then none else some (appT op S)).isSome=decide (sizeTm (appT op S)<=60∧depthTm (appT op S)<=20):=by
    by_cases hbg:BigT o op S
    ·rw [if_pos hbg];refine (decide_eq_false fun h=>?_).symm;rcases hbg with h | h | h
     ·exact h7 h
     ·omega
     ·omega
    ·rw [if_neg hbg];refine (decide_eq_true ⟨?_,?_⟩).symm
     ·exact Nat.not_lt.1 fun h=>hbg (.inr (.inl h))
     ·exact Nat.not_lt.1 fun h=>hbg (.inr (.inr h))
   have hgd:(if BigT o op S then none else some (appT op S)).getD (appT op S)=appT op S:=by
    split <;> rfl
   rw [hres,hgd];rcases Bool.eq_false_or_eq_true o.assoc with ha' | ha'
   ·have q2:(((Zaa S).length:Int)<=7)=True:=by rw [Zaj];exact hac ha'
    refine gLp 13 12 13 ?_;have F:=ai ha' q2;refine gCN 1000 c1 (RelB.tm RelB.nil) ?_;clear F;refine fR @e0P ?_;exact (have F:=e0P;gTP (R:=ZeJ (appT op S) _) [1000] ⟨a1,k1,rfl,rfl⟩)
   ·refine gLp 13 12 13 ?_;have F:=ha';refine gCN 1000 c1 (RelB.tm RelB.nil) ?_;clear F;refine fR @e0P ?_;exact (have F:=e0P;gTP (R:=ZeJ (appT op S) _) [1000] ⟨a1,k1,rfl,rfl⟩)
end
def ZAt (e:Env) (U:Nat->Prop) (w0:World) (S0:Nat->Prop) (m:List (Nat × Bk)) (o:Oper) (ρ:Operand->A) (Φ:A->List (Nat × Bk)->Prop) (ks:List Nat):Prop :=
 ∀ (w:World) (S:Nat->Prop) (L:Lay) (ρv:Operand->Value),Cls e U w0.heap.size S0 m w S L->Kept e.D (fun b=>e.E b∨U b) w0.heap.size w0 w->(∀ x,x∈o.op.operands->ARel w S L (ρ x) (ρv x)) ->
  gives e.P o ρv w fun v w'=>∃ α mx,Φ α mx∧∃ (S':Nat->Prop) (L':Lay),(∀ b,S' b->S b∨w.heap.size<=b)∧Cls e U w0.heap.size S0 (mx++m) w' S' L'∧Kept e.D e.E w.heap.size w w'∧ARel w' S' L' α v∧(∀ x u,(∀ k∈ks,¬ ZdH k x)->ARel w S L x u->ARel w' S' L' x u)∧∀ k bk g,gm (mx++m) k=some bk->Zas L' k bk g->w.heap.size<=g∨∃ k' bk',gm m k'=some bk'∧Zas L k' bk' g
def ZgX (e:Env) (o:Oper) (σ:St) (K:St->Prop):Prop:=e.Ok->∃ (Φ:A->List (Nat × Bk)->Prop) (ks:List Nat),(∀ α mx,Φ α mx->K ⟨setA σ.s o.dst α,mx++σ.m⟩)∧(∀ t,∀ k∈ks,¬ ZdH k (gs σ.s t))∧(∀ α mx,Φ α mx->∀ k x,gm σ.m k=some x->gm (mx++σ.m) k=some x)∧∀ (U:Nat->Prop) (w0:World) (S0:Nat->Prop),ZAt e U w0 S0 σ.m o (evA σ.s) Φ ks
theorem ZaM.ext {e:Env} {U:Nat->Prop} {base:Nat} {S0:Nat->Prop} {m m':List (Nat × Bk)} {o:Oper} {ρ:Operand->A} {α:A} (h:ZaM e U base S0 m o ρ α) (hm:∀ k x,gm m k=some x->gm m' k=some x):ZaM e U base S0 m' o ρ α:=fun w S L ρv hC hr=>by
 have hC0:Cls e U base S0 m w S L:=⟨hC.sin,hC.sfr,hC.ein,hC.uin,hC.bsz,fun k bk g hk=>hC.mine k bk g (hm k bk hk),fun k bk hk=>hC.own k bk (hm k bk hk),fun k k' x x' g h1 h2=>hC.inj k k' x x' g (hm _ _ h1) (hm _ _ h2),hC.g⟩;have:=h w S L ρv hC0 hr;unfold gives at this ⊢;revert this;generalize (execOp ρv o).run e.P w=r;have hX:∀ (v:Value) (w':World),(∃ S':Nat->Prop,((∀ b,S b->S' b)∧∀ b,S' b->S b∨w.heap.size<=b)∧Cls e U base S0 m w' S' L∧Kept e.D e.E w.heap.size w w'∧ARel w' S' L α v)->∃ S':Nat->Prop,((∀ b,S b->S' b)∧∀ b,S' b->S b∨w.heap.size<=b)∧Cls e U base S0 m' w' S' L∧Kept e.D e.E w.heap.size w w'∧ARel w' S' L α v:=fun v w' ⟨S',hS,h1,hk,ha⟩=>⟨S',hS,hC.later hk h1.g hS.1 (fun b hb=>(hS.2 b hb).imp id fun q=>⟨q,(h1.sin b hb).1⟩),hk,ha⟩
 intro h
 cases r with
 | ok x w' =>
  cases x <;> first
   | exact hX _ _ h
   | exact Calls.mono h fun en w' ⟨v,h1,h2⟩=>⟨v,h1,hX _ _ h2⟩
   | exact h.elim
 | halt x w'=>exact h.elim
theorem Zsl {P:Program} {o:Oper} {ρ:Operand->Value} {w:World} {R R':Value->World->Prop} (h:gives P o ρ w R) (hR:∀ v w',R v w'->R' v w'):gives P o ρ w R':=by
 unfold gives at h ⊢;revert h;generalize (execOp ρ o).run P w=r;intro h
 cases r with
 | ok x w' =>
  cases x <;> first
   | exact hR _ _ h
   | exact Calls.mono h fun en w' ⟨v,h1,h2⟩=>⟨v,h1,hR _ _ h2⟩
   | exact h.elim
 | halt x w'=>exact h.elim
theorem ZdQ.toN {e:Env} {o:Oper} {σ:St} {K:St->Prop} (h:ZdQ e o σ K):ZgX e o σ K:=fun he=>by
 obtain ⟨α,h1,h2⟩:=h he;exact ⟨fun x mx=>x=α∧mx=[],[],fun x mx ⟨hx,hm⟩=>by rw [hx,hm];exact h1,fun t k hk=>(by cases hk),fun x mx ⟨_,hm⟩ k y hy=>by rw [hm];exact hy,fun U w0 S0 w S L ρv hC _ hr=>Zsl (h2 U w0.heap.size S0 w S L ρv hC hr) fun v w' ⟨S',hS,hC',hk,ha⟩=>⟨α,[],⟨rfl,rfl⟩,S',L,hS.2,hC',hk,ha,fun x u _ hx=>hx.keep hk.size (hC.cell hk) hS.1,fun k bk g h1 h2=>.inr ⟨k,bk,h1,h2⟩⟩⟩
def NRun (e:Env) (ds:List (Option Nat)):List Oper->St->(St->Prop)->Prop
 | [],σ,K=>K σ
 | o::os,σ,K=>match o.guard with
  | none=>ZgX e o σ (fun σ'=>NRun e ds os σ' K)
  | some (j,want)=>match (ds[j]?.join).map (gs σ.s) with
   | some (.d (.one (.lit (.bool b))))=>if b=want then ZgX e o σ (fun σ'=>NRun e ds os σ' K) else NRun e ds os ⟨setA σ.s o.dst .no,σ.m⟩ K
   | some .no=>NRun e ds os ⟨setA σ.s o.dst .no,σ.m⟩ K
   | _=>False
def ZaB:List Nat->List Oper->List Oper
 | [],_=>[]
 | i::D,l=>match l[i]? with
  | some o=>o::ZaB D l
  | none=>ZaB D l
theorem Zgr {l:List Oper}:∀ {D:List Nat},(∀ i∈D,i < l.length)->(ZaB D l).length=D.length∧∀ (q i:Nat),D[q]?=some i->(ZaB D l)[q]?=l[i]?
 | [],_=>⟨rfl,fun q i h=>by simp at h⟩
 | j::D,h=>by
  obtain ⟨h1,h2⟩:=Zgr (l:=l) (D:=D) fun i hi=>h i (Tal _ hi);have hj:=Taa (h j Tas);simp only [ZaB,hj];refine ⟨by simp [h1],fun q i hq=>?_⟩
  cases q with
  | zero=>simp only [Tat,Taq] at hq ⊢;subst hq;rw [hj]
  | succ q=>simp only [Tau] at hq ⊢;exact h2 q i hq
def ZfE (ops:Array Oper) (n:Nat) (D N:List Nat):Bool :=
 (List.range n).all (fun i=>D.contains i != N.contains i) && D.all (fun i=>decide (i < n)) && N.all (fun i=>decide (i < n)) && decide (D.Pairwise (· < ·)) && decide (N.Pairwise (· < ·)) &&
 D.all (fun i=>match ops[i]? with
  | none=>false
  | some o=>o.guard.isNone && (List.range n).all fun j=>match ops[j]? with
   | none=>false
   | some p=>!(Zb4 o).any (fun t=>p.dst==some t) || D.contains j) &&
 (List.range N.length).all fun q=>match N[q]?,N[q+1]? with
  | some i,some j=>Region.waitsFor .any ops j i
  | _,_=>true
section
variable {e:Env} {U:Nat->Prop} {w0:World} {S0:Nat->Prop} {nt:Nat} {ops:Array Oper} {n:Nat}
structure PartAt (ops:Array Oper) (n:Nat) (D N:List Nat):Prop where
 cov:∀ i,i < n->(i∈D∧i ∉ N)∨(i ∉ D∧i∈N)
 dlt:∀ i∈D,i < n
 nlt:∀ i∈N,i < n
 dpw:D.Pairwise (· < ·)
 npw:N.Pairwise (· < ·)
 dg:∀ i∈D,∀ o,ops[i]?=some o->o.guard=none∧∀ j p t,j < n->ops[j]?=some p->t∈Zb4 o->p.dst=some t->j∈D
 nch:∀ (q i j:Nat),N[q]?=some i->N[q+1]?=some j->Region.waitsFor .any ops j i=true
theorem ZfE.at' {D N:List Nat} (h:ZfE ops n D N=true):PartAt ops n D N:=by
 simp only [ZfE,Tar] at h;obtain ⟨⟨⟨⟨⟨⟨h1,h2⟩,h3⟩,h4⟩,h5⟩,h6⟩,h7⟩:=h;refine ⟨fun i hi=>?_,fun i hi=>?_,fun i hi=>?_,of_decide_eq_true h4,of_decide_eq_true h5,fun i hi o ho=>?_,fun q i j hi hj=>?_⟩
 ·have:=List.all_eq_true.1 h1 i (List.mem_range.2 hi);by_cases hd:i∈D <;> by_cases hn:i∈N <;> simp [hd,hn] at this ⊢
 ·simpa using List.all_eq_true.1 h2 i hi
 ·simpa using List.all_eq_true.1 h3 i hi
 ·have:=List.all_eq_true.1 h6 i hi;rw [ho] at this;simp only [Tar,Option.isNone_iff_eq_none] at this;refine ⟨this.1,fun j p t hj hp ht hpt=>?_⟩;have h8:=List.all_eq_true.1 this.2 j (List.mem_range.2 hj);rw [hp] at h8;simp only [Bool.or_eq_true,Bool.not_eq_true'] at h8;rcases h8 with h8 | h8
  ·have:=List.any_eq_false.1 h8 t ht;simp [hpt] at this
  ·simpa using h8
 ·have hq:q < N.length:=(Tad.1 hi).1;have:=List.all_eq_true.1 h7 q (List.mem_range.2 hq);rw [hi,hj] at this;exact this
def DAll (e:Env) (U:Nat->Prop) (base:Nat) (S0:Nat->Prop) (m:List (Nat × Bk)) (ops:Array Oper) (D:List Nat) (s1:List (Nat × A)):Prop:=∀ i∈D,∀ o d,ops[i]?=some o->o.dst=some d->ZaM e U base S0 m o (evA s1) (gs s1 d)
theorem Zrx {D N:List Nat} {m:List (Nat × Bk)} {s:List (Nat × A)} {αs:List A} (hH:ZbV ops n=true) (hP:PartAt ops n D N) (hn:n<=ops.size) (hal:αs.length=D.length) (hch:Zb8 e U w0.heap.size S0 m ops.toList (ZaB D ops.toList) s αs) :
  DAll e U w0.heap.size S0 m ops D (after s (ZaB D ops.toList) αs)∧∀ t,(∀ (i:Nat) (o:Oper),i∈D->ops[i]?=some o->o.dst≠some t)->gs (after s (ZaB D ops.toList) αs) t=gs s t:=by
 have hsz:ops.toList.length=ops.size:=by simp
 obtain ⟨pl,pg⟩:=Zgr (l:=ops.toList) (D:=D) fun i hi=>by have:=hP.dlt i hi;omega
 have hat:∀ (q:Nat) (p:Oper),(ZaB D ops.toList)[q]?=some p->∃ j,D[q]?=some j∧ops[j]?=some p:=fun q p hq=>by
  have hql:q < D.length:=by have:=(Tad.1 hq).1;omega
  refine ⟨D[q],Taa hql,?_⟩;have:=pg q _ (Taa hql);rw [hq] at this;simpa using this.symm
 refine ⟨fun i hi o d ho hd=>?_,fun t ht=>Zb9 _ _ _ fun p hp=>?_⟩
 ·obtain ⟨q,hq⟩:=Tbk hi;have hqo:(ZaB D ops.toList)[q]?=some o:=by rw [pg q i hq];simpa using ho
  obtain ⟨α,hα,hst⟩:=hch.get q o hqo;obtain ⟨hg,hdep⟩:=hP.dg i hi o ho;unfold Zec at hst;rw [hg] at hst;obtain ⟨o',d',hA⟩:=ZbV.get hH (hP.dlt i hi);obtain rfl:o'=o:=by have:=hA.op;rw [ho] at this;injection this with this;exact this.symm
  have hdd:d'=d:=by have:=hA.dst;rw [hd] at this;injection this with this;exact this.symm
  subst hdd;have hgd:gs (after s (ZaB D ops.toList) αs) d'=α:=Zc1 _ αs s q o' α hqo hα hd fun j p hj hp hpd=>by
   obtain ⟨i',hi',hp'⟩:=hat j p hp;have hne:i'≠i:=fun e'=>by
    subst e';have h1:=Tad.1 hi';have h2:=Tad.1 hq;have h3:=hP.dpw;rw [List.pairwise_iff_getElem] at h3;rcases Nat.lt_or_gt_of_ne hj with h4 | h4
    ·have:=h3 j q h1.1 h2.1 h4;omega
    ·have:=h3 q j h2.1 h1.1 h4;omega
   exact (hA.dep i' p (hP.dlt i' (Tac hi')) hp').1 hne hpd
  rw [hgd];have hcong:∀ x∈o'.op.operands,evA (after s ((ZaB D ops.toList).take q) (αs.take q)) x=evA (after s (ZaB D ops.toList) αs) x:=fun x hx=>by
   cases x with
   | tmp t =>
    simp only [evA];have hts:t∈Zb4 o':=List.mem_filterMap.2 ⟨.tmp t,by simpa using hx,rfl⟩;have e1:after s (ZaB D ops.toList) αs=after (after s ((ZaB D ops.toList).take q) (αs.take q)) ((ZaB D ops.toList).drop q) (αs.drop q):=by
     rw [<- Zgi _ _ _ _ _ (by simp [hal,pl]),Tbm,Tbm]
    rw [e1];refine (Zb9 _ _ _ fun p hp hpt=>?_).symm;obtain ⟨r,hr⟩:=Tbk hp;rw [Tbb] at hr;obtain ⟨j,hj,hpj⟩:=hat _ p hr;have hjD:=Tac hj;have hw:=(hA.dep j p (hP.dlt j hjD) hpj).2 t hts hpt;obtain ⟨ed,h1,h2,h3⟩:=hA.waits hw;have hlt:=hA.back ed h1 h2;rw [h3] at hlt;have h4:=Tad.1 hj;have h5:=Tad.1 hq;have h6:=hP.dpw;rw [List.pairwise_iff_getElem] at h6;rcases Nat.eq_zero_or_pos r with h7 | h7
    ·subst h7;simp only [Nat.add_zero] at h4;have:=h4.2;have:=h5.2;omega
    ·have:=h6 q (q+r) h5.1 h4.1 om;omega
   | const v=>rfl
   | func f=>rfl
   | global g=>rfl
  intro w S L ρv hC hr;exact hst w S L ρv hC fun x hx=>by rw [hcong x hx];exact hr x hx
 ·obtain ⟨q,hq⟩:=Tbk hp;obtain ⟨j,hj,hpj⟩:=hat q p hq;exact ht j p (Tac hj) hpj
structure InvN (e:Env) (U:Nat->Prop) (w0:World) (S0:Nat->Prop) (nt:Nat) (m0:List (Nat × Bk)) (ops:Array Oper) (n:Nat) (D N:List Nat) (s1:List (Nat × A)) (K:St->Prop) (rest:List Nat) (s:List (Nat × A)) (m:List (Nat × Bk)) (L:Lay) (listed:Array Bool) (a:Act) (w:World) (S:Nat->Prop):Prop where
 ext:∀ k x,gm m0 k=some x->gm m k=some x
 head:HeadInv .any ops n listed
 size:a.tmps.size=nt
 defers:a.defers=[]
 cls:Cls e U w0.heap.size S0 m w S L
 kept:Kept e.D (fun b=>e.E b∨U b) w0.heap.size w0 w
 rel:∀ t,(∀ (i:Nat) (o:Oper),i∈D->listed.getD i false=false->ops[i]?=some o->o.dst≠some t)->ARel w S L (gs s t) (a.tmps.getD t undef)
 same:∀ t,(∀ (i:Nat) (o:Oper),i∈N->ops[i]?=some o->o.dst≠some t)->gs s t=gs s1 t
 sub:∃ pre,N=pre++rest
 lst:∀ i∈N,listed.getD i false=false ↔ i∈rest
 run:NRun e (ops.toList.map (·.dst)) (ZaB rest ops.toList) ⟨s,m⟩ K
section
variable {D N:List Nat} {m0 m m':List (Nat × Bk)} {s1:List (Nat × A)} {K:St->Prop} {L L':Lay} {rest:List Nat} {s:List (Nat × A)} {listed:Array Bool} {a:Act} {w w':World} {S S':Nat->Prop} {i d:Nat} {o:Oper} {v:Value}
theorem InvN.un (hI:InvN e U w0 S0 nt m0 ops n D N s1 K rest s m L listed a w S) {j:Nat} (hj:∀ e'∈o.after,Region.binds .any e'=true->listed.getD e'.on false=true) (hA:HeadAt ops n i o d) (hw:Region.waitsFor .any ops i j=true):listed.getD j false=true:=by
 obtain ⟨ed,h1,h2,h3⟩:=hA.waits hw;rw [<- h3];exact hj ed h1 h2
theorem InvN.opnd (hI:InvN e U w0 S0 nt m0 ops n D N s1 K rest s m L listed a w S) (hP:PartAt ops n D N) (hA:HeadAt ops n i o d) (hj:∀ e'∈o.after,Region.binds .any e'=true->listed.getD e'.on false=true):∀ x∈o.op.operands,ARel w S L (evA s x) (a.eval x):=fun x hx=>by
 cases x with
 | tmp t =>
  refine hI.rel t fun j p hjD hl hp hpt=>?_;have:=hI.un hj hA ((hA.dep j p (hP.dlt j hjD) hp).2 t (List.mem_filterMap.2 ⟨.tmp t,by simpa using hx,rfl⟩) hpt);rw [hl] at this
  cases this
 | const v =>
  simp only [evA,Act.eval];unfold Zdt;split
  ·simp only [ARel,DRel,Rep];exact ⟨⟨none,0,0,rfl,rfl,Tai _,by decide,fun h=>absurd h (by decide)⟩,none,0,rfl⟩
  ·rename_i vs;exact ⟨vs.toList,rfl,ZbZ _⟩
  ·simp [ARel,DRel,Rep]
 | func f =>
  simp only [evA,Act.eval,ARel,DRel,Rep];exact ⟨[],rfl,by simp [Zad]⟩
 | global g=>trivial
theorem InvN.putD (hI:InvN e U w0 S0 nt m0 ops n D N s1 K rest s m L listed a w S) (hP:PartAt ops n D N) (hA:HeadAt ops n i o d) (hi:i∈D) (hr:i∈Region.ready .any ops listed) (hdn:d < nt)
  (hS:∀ b,S b->S' b) (hC:Cls e U w0.heap.size S0 m w' S' L) (hk:Kept e.D e.E w.heap.size w w') (hv:ARel w' S' L (gs s1 d) v):InvN e U w0 S0 nt m0 ops n D N s1 K rest s m L (listed.setIfInBounds i true) (a.put o.dst v) w' S':=by
 have hlt:d < a.tmps.size:=by rw [hI.size];exact hdn
 have hin:i ∉ N:=fun h=>(hP.cov i (hP.dlt i hi)).elim (fun q=>q.2 h) fun q=>q.1 hi;rw [hA.dst];refine ⟨hI.ext,hI.head.set hr (hP.dlt i hi),by simp [Act.put,hI.size],by simp [Act.put,hI.defers],hC,hI.kept.trans ⟨hk.os,hk.tape,hk.output,hk.drawn,hk.size,fun b hb hE=>hk.block b (by have:=hI.cls.bsz;omega) (fun h1=>hE (.inl h1))⟩,fun t ht=>?_,hI.same,hI.sub,fun j hj=>?_,hI.run⟩
 ·rw [ZbK hlt];by_cases e':t=d
  ·subst e';rw [if_pos rfl,hI.same t fun j p hj hp hpt=>(hA.dep j p (hP.nlt j hj) hp).1 (fun e'=>hin (e' ▸ hj)) hpt];exact hv
  ·rw [if_neg e'];refine (hI.rel t fun j p hj hl hp hpt=>?_).keep hk.size (hI.cls.cell hk) hS;by_cases hji:j=i
   ·subst hji;have:=hA.op;rw [hp] at this;injection this with this
    subst this;rw [hA.dst] at hpt;injection hpt with hpt
    exact e' hpt.symm
   ·exact ht j p hj (by rw [getD_set_ne false (Ne.symm hji)];exact hl) hp hpt
 ·have hji:i≠j:=fun e'=>hin (e' ▸ hj);rw [getD_set_ne false hji];exact hI.lst j hj
theorem InvN.putN (hI:InvN e U w0 S0 nt m0 ops n D N s1 K (i::rest) s m L listed a w S) (hP:PartAt ops n D N) (hA:HeadAt ops n i o d) (hr:i∈Region.ready .any ops listed) (hdn:d < nt) {α:A}
  (hm:∀ k x,gm m k=some x->gm m' k=some x) (hS:∀ t u,ARel w S L (gs s t) u->ARel w' S' L' (gs s t) u) (hC:Cls e U w0.heap.size S0 m' w' S' L') (hk:Kept e.D e.E w.heap.size w w') (hv:ARel w' S' L' α v) (hrun:NRun e (ops.toList.map (·.dst)) (ZaB rest ops.toList) ⟨(d,α)::s,m'⟩ K):InvN e U w0 S0 nt m0 ops n D N s1 K rest ((d,α)::s) m' L' (listed.setIfInBounds i true) (a.put o.dst v) w' S':=by
 have hlt:d < a.tmps.size:=by rw [hI.size];exact hdn
 obtain ⟨pre,hpre⟩:=hI.sub;have hiN:i∈N:=by rw [hpre];simp
 have hin:i ∉ D:=fun h=>(hP.cov i (hP.nlt i hiN)).elim (fun q=>q.2 hiN) fun q=>q.1 h;have hnd:i ∉ rest:=fun h=>by
  have:=hP.npw;rw [hpre] at this;have:=(List.pairwise_append.1 this).2.1;have:=(List.pairwise_cons.1 this).1 i h;omega
 rw [hA.dst];refine ⟨fun k x h=>hm k x (hI.ext k x h),hI.head.set hr (hP.nlt i hiN),by simp [Act.put,hI.size],by simp [Act.put,hI.defers],hC,hI.kept.trans ⟨hk.os,hk.tape,hk.output,hk.drawn,hk.size,fun b hb hE=>hk.block b (by have:=hI.cls.bsz;omega) (fun h1=>hE (.inl h1))⟩,fun t ht=>?_,fun t ht=>?_,⟨pre++[i],by rw [hpre];simp⟩,fun j hj=>?_,hrun⟩
 ·rw [ZbK hlt];simp only [gs];by_cases e':t=d
  ·rw [if_pos e',if_pos e'];exact hv
  ·rw [if_neg e',if_neg e'];refine hS t _ (hI.rel t fun j p hj hl hp hpt=>?_);have hji:i≠j:=fun e''=>hin (e'' ▸ hj);exact ht j p hj (by rw [getD_set_ne false hji];exact hl) hp hpt
 ·have:t≠d:=fun e'=>ht i o hiN hA.op (by rw [hA.dst,e']);simp only [gs,this,if_false];exact hI.same t ht
 ·by_cases hji:j=i
  ·subst hji;have hl:j < listed.size:=by rw [hI.head.size];exact (Tbl.1 hA.op).1
   simp [hl,hnd]
  ·rw [getD_set_ne false (Ne.symm hji),hI.lst j hj];simp [hji]
theorem InvN.next (hI:InvN e U w0 S0 nt m0 ops n D N s1 K rest s m L listed a w S) (hP:PartAt ops n D N) (hA:HeadAt ops n i o d) (hi:i∈N) (hun:listed.getD i false=false) (hj:∀ e'∈o.after,Region.binds .any e'=true->listed.getD e'.on false=true):∃ r,rest=i::r:=by
 have hir:=(hI.lst i hi).1 hun;obtain ⟨pre,hpre⟩:=hI.sub
 cases rest with
 | nil=>cases hir
 | cons r0 r =>
  by_cases e':r0=i
  ·exact ⟨r,by rw [e']⟩
  ·exfalso;obtain ⟨q,hq⟩:=Tbk ((Tbg.1 hir).resolve_left fun e''=>e' e''.symm);have h1:N[pre.length+(q+1)]?=some i:=by rw [hpre,Tbq om];simpa using hq
   obtain ⟨y,hy⟩:∃ y,(r0::r)[q]?=some y:=⟨(r0::r)[q]'(by have:=(Tad.1 hq).1;simp;omega),Taa _⟩;have h2:N[pre.length+q]?=some y:=by rw [hpre,Tbq om];simpa using hy
   have h3:=hP.nch (pre.length+q) y i h2 h1;have h4:=hI.un hj hA h3;have h5:=(hI.lst y (Tac h2)).2 (Tac hy);rw [h5] at h4
   cases h4
end
section
variable {D N:List Nat} {m0:List (Nat × Bk)} {s1:List (Nat × A)} {K:St->Prop} {Q:Exit->Act->World->Prop} {J:List (Nat × Bk)->Lay->Array Bool->Act->World->(Nat->Prop)->Prop}
def GoD (e:Env) (U:Nat->Prop) (w0:World) (S0:Nat->Prop) (nt:Nat) (m0:List (Nat × Bk)) (ops:Array Oper) (n:Nat) (D N:List Nat) (s1:List (Nat × A)) (K:St->Prop) (J:List (Nat × Bk)->Lay->Array Bool->Act->World->(Nat->Prop)->Prop) (Q:Exit->Act->World->Prop):Prop :=
 ∀ (rest:List Nat) (s:List (Nat × A)) (m:List (Nat × Bk)) (L:Lay) (listed:Array Bool) (a:Act) (w:World) (S:Nat->Prop) (i:Nat) (o:Oper) (d:Nat),InvN e U w0 S0 nt m0 ops n D N s1 K rest s m L listed a w S->J m L listed a w S->HeadAt ops n i o d->i∈D->i∈Region.ready .any ops listed->d < nt ->
  (∀ x∈o.op.operands,ARel w S L (evA s1 x) (a.eval x))->ZaM e U w0.heap.size S0 m o (evA s1) (gs s1 d)->o.wp e.P a w (fun a' w'=>∃ S',InvN e U w0 S0 nt m0 ops n D N s1 K rest s m L (listed.setIfInBounds i true) a' w' S'∧J m L (listed.setIfInBounds i true) a' w' S') Q
theorem Zxz (hP:PartAt ops n D N):GoD e U w0 S0 nt m0 ops n D N s1 K (fun _ _ _ _ _ _=>True) Q :=
 fun rest s m L listed a w S i o d hI _ hA hi hr hdn hop hG=>ZcZ (hG w S L a.eval hI.cls hop) fun v w' ⟨S',hS,hC,hk,hv⟩=>⟨S',hI.putD hP hA hi hr hdn hS.1 hC hk hv,trivial⟩
theorem ZgH (he:e.Ok) (hH:ZbV ops n=true) (hP:PartAt ops n D N) (hn:n<=ops.size) (hs:n < ops.size->Region.sinkB .any ops n=true∧Region.chainB .any ops n=true) (hsq:Region.seqB .any ops (ops.size - n) n (Zbi ops.size n)=true)
  (hsz:∀ (i:Nat) (o:Oper) (d:Nat),i < n->ops[i]?=some o->o.dst=some d->d < nt) (hDA:DAll e U w0.heap.size S0 m0 ops D s1) (hgo:GoD e U w0 S0 nt m0 ops n D N s1 K J Q)
  (hJ:∀ (m m':List (Nat × Bk)) (L L':Lay) (listed:Array Bool) (a:Act) (w w':World) (S S':Nat->Prop) (i:Nat) (o:Oper) (d:Nat) (v:Value),J m L listed a w S->HeadAt ops n i o d->i∈N->d < a.tmps.size->Kept e.D e.E w.heap.size w w'->(∀ b,S' b->S b∨w.heap.size<=b)->(∀ b,e.E b->b < w0.heap.size)->(∀ k bk g,gm m' k=some bk->Zas L' k bk g->w.heap.size<=g∨∃ k' bk',gm m k'=some bk'∧Zas L k' bk' g)->J m' L' (listed.setIfInBounds i true) (a.put o.dst v) w' S')
  (hend:∀ s m L listed a w S,InvN e U w0 S0 nt m0 ops n D N s1 K [] s m L listed a w S->J m L listed a w S->(∀ i,i < n->listed.getD i false=true)->wpList e.P ops Q (ops.toList.drop n) a w) :
  ∀ (k:Nat) (rest:List Nat) (s:List (Nat × A)) (m:List (Nat × Bk)) (L:Lay) (listed:Array Bool) (a:Act) (w:World) (S:Nat->Prop),InvN e U w0 S0 nt m0 ops n D N s1 K rest s m L listed a w S->J m L listed a w S->(List.range n).countP (fun i=>!listed.getD i true)=k->wpAny e.P .any ops Q (k+(ops.size - n)) listed a w
 | 0,rest,s,m,L,listed,a,w,S,hI,hJJ,hc=>by
  have hall:∀ i,i < n->listed.getD i true=true:=fun i hi=>by
   have:=List.countP_eq_zero.1 hc i (List.mem_range.2 hi);simpa using this
  have hall':∀ i,i < n->listed.getD i false=true:=fun i hi=>by
   have hl:i < listed.size:=by rw [hI.head.size];omega
   rw [<- Za5 hl];exact hall i hi
  have hr:rest=[]:=by
   cases rest with
   | nil=>rfl
   | cons r0 r =>
    obtain ⟨pre,hpre⟩:=hI.sub;have hm:r0∈N:=by rw [hpre];simp
    have h1:=(hI.lst r0 hm).2 Tas;rw [hall' r0 (hP.nlt r0 hm)] at h1
    cases h1
  subst hr;have heq:=ZhZ hI.head hn hall;have hdl:(ops.toList.drop n).length=ops.size - n:=by simp
  have hE:=hend s m L listed a w S hI hJJ hall';have:=wpAny_of_seq (md:=.any) (Q':=Q) (ops.toList.drop n) n listed a w (fun j=>by simp [Tbb]) (by rw [hdl,heq];exact hsq) hE;rw [hdl] at this;simpa using this
 | k+1,rest,s,m,L,listed,a,w,S,hI,hJJ,hc=>by
  obtain ⟨i0,hi0,hu0⟩:∃ i,i < n∧listed.getD i true=false:=by
   have:0 < (List.range n).countP (fun i=>!listed.getD i true):=om;obtain ⟨i,hi,hp⟩:=List.countP_pos_iff.1 this;exact ⟨i,List.mem_range.1 hi,by simpa using hp⟩
  rw [show k+1+(ops.size - n)=(k+(ops.size - n))+1 by omega];refine ⟨fun h0=>absurd h0 (ZfT hH hI.head hi0 hu0),fun i hr=>?_⟩;obtain ⟨hun,oi,hoi,hall⟩:=mem_ready.1 hr;have hin:i < n:=by
   rcases Nat.lt_or_ge i n with h | h
   ·exact h
   ·have hns:n < ops.size:=Nat.lt_of_le_of_lt h (Tbl.1 hoi).1;exact absurd hr (tail_waits (hs hns).1 (hs hns).2 hns hI.head _ i0 rfl hi0 hu0 i h)
  obtain ⟨o,d,hA⟩:=ZbV.get hH hin;have hoo:oi=o:=by have:=hA.op;rw [hoi] at this;injection this
  subst hoo;have hls:i < listed.size:=by rw [hI.head.size];exact (Tbl.1 hoi).1
  have hunf:listed.getD i false=false:=by rw [<- Za5 hls];exact hun
  have hdn:=hsz i oi d hin hoi hA.dst;have hcount:(List.range n).countP (fun j=>!(listed.setIfInBounds i true).getD j true)=k:=by
   have h1:(List.range n).countP (fun j=>!(listed.setIfInBounds i true).getD j true)+1=(List.range n).countP (fun j=>!listed.getD j true):=by
    have hperm:=List.perm_cons_erase (List.mem_range.2 hin);rw [hperm.countP_eq,hperm.countP_eq,List.countP_cons,List.countP_cons];have hcong:((List.range n).erase i).countP (fun j=>!(listed.setIfInBounds i true).getD j true)=((List.range n).erase i).countP (fun j=>!listed.getD j true):=by
     refine List.countP_congr fun j hj=>?_;have hne:j≠i:=fun e=>by
      subst e;exact List.Nodup.not_mem_erase (List.nodup_range) hj
     rw [getD_set_ne true (Ne.symm hne)]
    rw [hcong,hun];simp [hls]
   omega
  have hops:=hI.opnd hP hA hall;have IH:=ZgH he hH hP hn hs hsq hsz hDA hgo hJ hend k;unfold wpOp;simp only [hoi];rcases hP.cov i hin with ⟨hD,hnN⟩ | ⟨hnD,hN⟩
  ·obtain ⟨hg,hdep⟩:=hP.dg i hD oi hoi;have hwt:Region.wanted oi (yielded ops a.tmps)=true:=by simp [Region.wanted,hg]
   rw [if_pos hwt];refine .inl (Oper.wp_mono (fun a' w' ⟨S',hI',hJ'⟩=>IH rest s m L _ a' w' S' hI' hJ' hcount) (hgo rest s m L listed a w S i oi d hI hJJ hA hD hr hdn (fun x hx=>?_) ((hDA i hD oi d hoi hA.dst).ext hI.ext)));have h1:=hops x hx
   cases x with
   | tmp t =>
    simp only [evA] at h1 ⊢
    rwa [hI.same t fun j p hj hp hpt=>?_] at h1
    have:=hdep j p t (hP.nlt j hj) hp (List.mem_filterMap.2 ⟨.tmp t,by simpa using hx,rfl⟩) hpt;exact (hP.cov j (hP.nlt j hj)).elim (fun q=>q.2 hj) fun q=>q.1 this
   | const v=>exact h1
   | func f=>exact h1
   | global g=>exact h1
  ·obtain ⟨r,rfl⟩:=hI.next hP hA hN hunf hall;have hrun:=hI.run;have hpk:ZaB (i::r) ops.toList=oi::ZaB r ops.toList:=by
    have:ops.toList[i]?=some oi:=by simpa using hoi
    simp only [ZaB,this]
   rw [hpk] at hrun;have go:∀ (Kx:St->Prop),(∀ σ',Kx σ'->NRun e (ops.toList.map (·.dst)) (ZaB r ops.toList) σ' K)->ZgX e oi ⟨s,m⟩ Kx->oi.wp e.P a w (wpAny e.P .any ops Q (k+(ops.size - n)) (listed.setIfInBounds i true)) Q:=fun Kx hKx hq=>by
    obtain ⟨Φ,ks,h1,hfr,hex,h2⟩:=hq he;refine ZcZ (h2 U w0 S0 w S L a.eval hI.cls hI.kept hops) fun v w' ⟨α,mx,hα,S',L',hS,hC,hk,hv,ht,hb⟩=>?_;have h3:=hKx _ (h1 α mx hα);rw [hA.dst] at h3;exact IH r _ _ _ _ _ w' S' (hI.putN hP hA hr hdn (hex α mx hα) (fun t u h=>ht _ u (hfr t) h) hC hk hv h3) (hJ m _ L L' listed a w w' S S' i oi d v hJJ hA hN (by rw [hI.size];exact hdn) hk hS (fun b hb=>hI.cls.ein b hb) hb) hcount
   have skip:NRun e (ops.toList.map (·.dst)) (ZaB r ops.toList) ⟨setA s oi.dst .no,m⟩ K->wpAny e.P .any ops Q (k+(ops.size - n)) (listed.setIfInBounds i true) (a.put oi.dst undef) w:=fun h3=>by
    rw [hA.dst] at h3;exact IH r _ _ L _ _ w S (hI.putN hP hA hr hdn (fun _ _ h=>h) (fun _ _ h=>h) hI.cls (Kept.refl _ _ _ _) (show ARel w S L .no undef from rfl) h3) (hJ m m L L listed a w w S S i oi d undef hJJ hA hN (by rw [hI.size];exact hdn) (Kept.refl _ _ _ _) (fun b hb=>.inl hb) (fun b hb=>hI.cls.ein b hb) fun k bk g h1 h2=>.inr ⟨k,bk,h1,h2⟩) hcount
   simp only [NRun] at hrun
   cases hg:oi.guard with
   | none =>
    rw [hg] at hrun;have hwt:Region.wanted oi (yielded ops a.tmps)=true:=by simp [Region.wanted,hg]
    rw [if_pos hwt];exact .inl (go _ (fun _ h=>h) hrun)
   | some jw =>
    obtain ⟨j,want⟩:=jw;rw [hg] at hrun;simp only at hrun;obtain ⟨hjn,hjw⟩:=hA.guard j want hg;have hrelD:∀ dj,((ops[j]?).bind (·.dst))=some dj->ARel w S L (gs s dj) (a.tmps.getD dj undef):=fun dj hdj=>hI.rel dj fun j' p hj' hl hp hpt=>by
     obtain ⟨p0,d0,hP0⟩:=ZbV.get hH hjn;have hd0:d0=dj:=by have:=hdj;rw [hP0.op] at this;simp [hP0.dst] at this;exact this
     by_cases hjj:j'=j
     ·have:=hI.un hall hA hjw;rw [<- hjj,hl] at this
      cases this
     ·exact absurd (by rw [hpt,hd0]) ((hP0.dep j' p (hP.dlt j' hj') hp).1 hjj)
    split at hrun
    ·rename_i b hb1;simp only [Tav] at hb1;obtain ⟨dj,hd1,hd2⟩:=hb1;have hdj:((ops[j]?).bind (·.dst))=some dj:=by simpa using Zdi hd1
     have hrel:=hrelD dj hdj;rw [hd2] at hrel;have h4:=Zgg hrel.bool;have hwt:Region.wanted oi (yielded ops a.tmps)=decide (b=want):=by
      have h6:yielded ops a.tmps j=some b:=by unfold yielded;rw [hdj];simp only [Option.bind_some,h4]
      simp only [Region.wanted,hg,h6]
      cases b <;> cases want <;> rfl
     rw [hwt];by_cases hbw:b=want
     ·rw [if_pos hbw] at hrun;simp only [hbw,decide_true,if_true];exact .inl (go _ (fun _ h=>h) hrun)
     ·rw [if_neg hbw] at hrun;simp only [hbw,decide_false,Tam,if_false];exact skip hrun
    ·rename_i hb1;simp only [Tav] at hb1;obtain ⟨dj,hd1,hd2⟩:=hb1;have hdj:((ops[j]?).bind (·.dst))=some dj:=by simpa using Zdi hd1
     have hrel:=hrelD dj hdj;rw [hd2] at hrel;rw [Zgh hg hdj hrel];simp only [Tam,if_false];exact skip hrun
    ·exact hrun.elim
end
end
section
variable {e:Env} {K:St->Prop} {l:List Oper} {n:Nat} {D N:List Nat} {σ:St}
theorem Zz1 (hP:ZfE l.toArray n D N=true) (hB:regB l.toArray n=true) (hp:Runs e (l.map (·.dst)) (D.length+1) (ZaB D l) σ fun σ1=>NRun e (l.map (·.dst)) (ZaB N l) σ1 fun σ2=>Runs e (l.map (·.dst)) 0 (l.drop n) σ2 K):Zcs e l.toArray K l.length (Array.replicate l.length false) σ:=by
 intro he U w0 S0 nt a w hd hs;have hPt:=ZfE.at' hP;simp only [regB,Tar,Bool.or_eq_true,decide_eq_true_eq] at hB;obtain ⟨⟨⟨hH,hn⟩,hsc⟩,hsq⟩:=hB;have hsz:l.toArray.size=l.length:=by simp
 obtain ⟨S,L,h1⟩:=hs;obtain ⟨pl,pg⟩:=Zgr (l:=l) (D:=D) fun i hi=>by have:=hPt.dlt i hi;omega
 have hp':Runs e (l.map (·.dst)) ((ZaB D l).length+1) (ZaB D l++[]) σ (fun σ1=>NRun e (l.map (·.dst)) (ZaB N l) σ1 fun σ2=>Runs e (l.map (·.dst)) 0 (l.drop n) σ2 K):=by rw [List.append_nil,pl];exact hp
 obtain ⟨αs,hal,hch,hrest⟩:=ZcR (U:=U) he w0.heap.size S0 l [] 1 (ZaB D l) σ (fun h=>absurd h (by decide)) hp';have hrest':NRun e (l.map (·.dst)) (ZaB N l) ⟨after σ.s (ZaB D l) αs,σ.m⟩ (fun σ2=>Runs e (l.map (·.dst)) 0 (l.drop n) σ2 K):=hrest;rw [pl] at hal;obtain ⟨hDA,hout⟩:=Zrx (ops:=l.toArray) hH hPt hn hal (by simpa using hch);have hmem:∀ i o,l[i]?=some o->o∈l.toArray.toList:=fun i o h=>by simpa using Tac h
 have inv0:InvN e U w0 S0 nt σ.m l.toArray n D N (after σ.s (ZaB D l) αs) (fun σ2=>Runs e (l.map (·.dst)) 0 (l.drop n) σ2 K) N (after σ.s (ZaB D l) αs) σ.m L (Array.replicate l.length false) a w S :=
  ⟨fun _ _ h=>h,⟨by simp,fun j oj _ hl=>(by rw [getD_replicate_false] at hl;cases hl),fun t _ ht=>getD_in (by simpa using ht) (getD_replicate_false _ _)⟩,h1.size,h1.defers,h1.cls,h1.kept,fun t ht=>by
   have:=hout t fun i o hi ho=>ht i o hi (getD_replicate_false _ _) ho;rw [this];exact h1.rel t,fun _ _=>rfl,⟨[],rfl⟩,fun i hi=>⟨fun _=>hi,fun _=>getD_replicate_false _ _⟩,hrest'⟩
 have H:=ZgH (e:=e) (Q:=QN e U w0 S0 nt K) (J:=fun _ _ _ _ _ _=>True) he hH hPt hn (fun hlt=>by
   rcases hsc with q | q
   ·omega
   ·exact q) hsq (fun i o d hi ho hdd=>hd o (hmem i o (by simpa using ho)) d hdd) hDA (Zxz hPt) (fun _ _ _ _ _ _ _ _ _ _ _ _ _ _ _ _ _ _ _ _ _ _=>trivial) (fun s m L listed a' w' S' hI _ hall=>?_) n N _ _ L _ a w S inv0 trivial ?_
 ·rw [hsz] at H;rw [hsz] at hn;rw [show n+(l.length - n)=l.length by omega] at H;exact H
 ·have hsim:SimE e U w0 S0 nt ⟨s,m⟩ a' w':=⟨S',L,⟨hI.cls,fun t=>hI.rel t (fun i o hi hl=>by rw [hall i (hPt.dlt i hi)] at hl;cases hl),hI.size,hI.defers,hI.kept⟩⟩;have hr:=hI.run;simp only [ZaB,NRun] at hr;exact ZgP he l.toArray.toList (fun a w σ' k1 k2=>⟨rfl,σ',k1,k2⟩) (l.toArray.toList.drop n) _ a' w' (fun o ho=>hd o (List.mem_of_mem_drop ho)) hsim (by simpa using hr)
 ·rw [List.countP_eq_length.2]
  ·simp
  ·intro i hi;have hi':=List.mem_range.1 hi;have hz:i < (Array.replicate l.length false).size:=by rw [hsz] at hn;simp;omega
   rw [Za5 hz,getD_replicate_false];rfl
theorem Zmw (l:List Oper) (E:List Nat):∀ D:List Nat,ZaB (D++E) l=ZaB D l++ZaB E l
 | []=>rfl
 | i::D=>by
  simp only [Taf,ZaB,Zmw l E D]
  cases l[i]? <;> rfl
theorem Zmx {e:Env} {U:Nat->Prop} {base:Nat} {S0:Nat->Prop} {m:List (Nat × Bk)} {l:List Oper} {o:Oper} {α:A} (h:∀ s,Zec e U base S0 m l o s α):∀ (os:List Oper) (s:List (Nat × A)) (αs:List A),Zb8 e U base S0 m l os s αs->Zb8 e U base S0 m l (os++[o]) s (αs++[α])
 | [],s,[],_=>⟨h _,trivial⟩
 | [],s,_::_,hc=>by simp [Zb8] at hc
 | p::os,s,[],hc=>by simp [Zb8] at hc
 | p::os,s,x::xs,hc=>⟨hc.1,Zmx h os _ xs hc.2⟩
theorem ZxA {p d t ty:Nat} {pos:String} {af:Array Edge} {cs:List C} (hop:l[p]?=some ⟨some d,.alloc t,ty,pos,af,none⟩) (hz:ZaR e.P t=some cs) (hP:ZfE l.toArray (p+1) (D++[p]) N=true) (hB:regB l.toArray (p+1)=true) (hp:Runs e (l.map (·.dst)) (D.length+1) (ZaB D l) σ fun σ1=>NRun e (l.map (·.dst)) (ZaB N l) ⟨(d,.undef)::σ1.s,σ1.m⟩ fun σ2=>Runs e (l.map (·.dst)) 0 (l.drop (p+1)) ⟨(d,.ref d 0)::Zak d σ2.s,(d,.var none cs)::remM d σ2.m⟩ K):Zcs e l.toArray K l.length (Array.replicate l.length false) σ:=by
 intro he U w0 S0 nt a w hd hs;have hPt:=ZfE.at' hP;simp only [regB,Tar,Bool.or_eq_true,decide_eq_true_eq] at hB;obtain ⟨⟨⟨hH,hn⟩,hsc⟩,hsq⟩:=hB;have hsz:l.toArray.size=l.length:=by simp
 unfold ZaR at hz;simp only [Tav,Option.bind_eq_some_iff] at hz;obtain ⟨v,⟨i,hi,hv⟩,hcs⟩:=hz;obtain ⟨S,L,h1⟩:=hs;have hD:∀ i∈D++[p],i < l.length:=fun i hi=>by have:=hPt.dlt i hi;omega
 obtain ⟨pl,pg⟩:=Zgr (l:=l) (D:=D) fun i hi=>hD i (List.mem_append_left _ hi);have hp':Runs e (l.map (·.dst)) ((ZaB D l).length+1) (ZaB D l++[]) σ (fun σ1=>NRun e (l.map (·.dst)) (ZaB N l) ⟨(d,.undef)::σ1.s,σ1.m⟩ fun σ2=>Runs e (l.map (·.dst)) 0 (l.drop (p+1)) ⟨(d,.ref d 0)::Zak d σ2.s,(d,.var none cs)::remM d σ2.m⟩ K):=by rw [List.append_nil,pl];exact hp
 obtain ⟨αs,hal,hch,hrest⟩:=ZcR (U:=U) he w0.heap.size S0 l [] 1 (ZaB D l) σ (fun h=>absurd h (by decide)) hp';have hrest':NRun e (l.map (·.dst)) (ZaB N l) ⟨(d,.undef)::after σ.s (ZaB D l) αs,σ.m⟩ (fun σ2=>Runs e (l.map (·.dst)) 0 (l.drop (p+1)) ⟨(d,.ref d 0)::Zak d σ2.s,(d,.var none cs)::remM d σ2.m⟩ K):=hrest;have hpk:ZaB (D++[p]) l=ZaB D l++[⟨some d,.alloc t,ty,pos,af,none⟩]:=by rw [Zmw];simp only [ZaB,hop]
 have hch2:=Zmx (e:=e) (U:=U) (base:=w0.heap.size) (S0:=S0) (m:=σ.m) (l:=l) (o:=⟨some d,.alloc t,ty,pos,af,none⟩) (α:=.undef) (fun s=>by unfold Zec;exact Zjc he rfl hi hv) _ _ _ hch;have haf:after σ.s (ZaB (D++[p]) l) (αs++[.undef])=(d,.undef)::after σ.s (ZaB D l) αs:=by rw [hpk,Zgi _ _ _ _ _ hal];rfl
 rw [<- hpk] at hch2;obtain ⟨hDA,hout⟩:=Zrx (ops:=l.toArray) hH hPt hn (αs:=αs++[.undef]) (by simp [hal,pl]) (by simpa using hch2);have hlt:l.toArray.toList=l:=by simp
 rw [hlt,haf] at hDA hout;have hop':l.toArray[p]?=some ⟨some d,.alloc t,ty,pos,af,none⟩:=by simpa using hop
 have hdn:d < nt:=hd _ (by simpa using Tac hop) d rfl;have hmem:∀ i o,l[i]?=some o->o∈l.toArray.toList:=fun i o h=>by simpa using Tac h
 have hpD:p∈D++[p]:=by simp
 have hA0:∀ {i':Nat} {o':Oper} {d':Nat},HeadAt l.toArray (p+1) i' o' d'->i'≠p->d'≠d:=fun hA hne e'=>(hA.dep p _ om hop').1 (Ne.symm hne) (by rw [e'])
 have inv0:InvN e U w0 S0 nt σ.m l.toArray (p+1) (D++[p]) N ((d,.undef)::after σ.s (ZaB D l) αs) (fun σ2=>Runs e (l.map (·.dst)) 0 (l.drop (p+1)) ⟨(d,.ref d 0)::Zak d σ2.s,(d,.var none cs)::remM d σ2.m⟩ K) N ((d,.undef)::after σ.s (ZaB D l) αs) σ.m L (Array.replicate l.length false) a w S :=
  ⟨fun _ _ h=>h,⟨by simp,fun j oj _ hl=>(by rw [getD_replicate_false] at hl;cases hl),fun t _ ht=>getD_in (by simpa using ht) (getD_replicate_false _ _)⟩,h1.size,h1.defers,h1.cls,h1.kept,fun t ht=>by
   have:=hout t fun i o hi ho=>ht i o hi (getD_replicate_false _ _) ho;rw [this];exact h1.rel t,fun _ _=>rfl,⟨[],rfl⟩,fun i hi=>⟨fun _=>hi,fun _=>getD_replicate_false _ _⟩,hrest'⟩
 have hJ0:Zfu e w0.heap.size p d σ.m L t v (Array.replicate l.length false) a w S:=fun hl=>by rw [getD_replicate_false] at hl;cases hl
 have hJN:∀ (m m':List (Nat × Bk)) (L L':Lay) (listed:Array Bool) (a:Act) (w w':World) (S S':Nat->Prop) (i:Nat) (o:Oper) (d':Nat) (v':Value),Zfu e w0.heap.size p d m L t v listed a w S->HeadAt l.toArray (p+1) i o d'->i≠p->d' < a.tmps.size->Kept e.D e.E w.heap.size w w'->(∀ b,S' b->S b∨w.heap.size<=b)->(∀ b,e.E b->b < w0.heap.size)->(∀ k bk g,gm m' k=some bk->Zas L' k bk g->w.heap.size<=g∨∃ k' bk',gm m k'=some bk'∧Zas L k' bk' g)->Zfu e w0.heap.size p d m' L' t v (listed.setIfInBounds i true) (a.put o.dst v') w' S':=by
  intro m m' L L' listed a w w' S S' i o d' v' hJ hA hip hdl hk hS hE hB hl;rw [getD_set_ne false hip] at hl;obtain ⟨b,q1,q2,q3,q4,q5,q6⟩:=hJ hl;refine ⟨b,?_,q2,Tbd q3 hk.size,fun hs=>?_,fun k bk h1 h2=>?_,?_⟩
  ·rw [hA.dst,ZbK hdl,if_neg (Ne.symm (hA0 hA hip))];exact q1
  ·rcases hS b hs with hs | hs
   ·exact q4 hs
   ·omega
  ·rcases hB k bk b h1 h2 with h3 | ⟨k',bk',h3,h4⟩
   ·omega
   ·exact q5 k' bk' h3 h4
  ·rw [hk.block b q3 (fun hb=>by have:=hE b hb;omega)];exact q6
 have hgo:GoD e U w0 S0 nt σ.m l.toArray (p+1) (D++[p]) N ((d,.undef)::after σ.s (ZaB D l) αs) (fun σ2=>Runs e (l.map (·.dst)) 0 (l.drop (p+1)) ⟨(d,.ref d 0)::Zak d σ2.s,(d,.var none cs)::remM d σ2.m⟩ K) (fun m L=>Zfu e w0.heap.size p d m L t v) (QN e U w0 S0 nt K):=by
  intro rest s m L listed a w S i' o' d' hI hJ hA hiD hr hdn' hopd hG';by_cases hip:i'=p
  ·subst hip;have ho':o'=⟨some d,.alloc t,ty,pos,af,none⟩:=by have:=hA.op;rw [hop'] at this;injection this with this;exact this.symm
   subst ho';have hdd:d'=d:=by have:=hA.dst;injection this with this;exact this.symm
   subst hdd;unfold Oper.wp;have hrun:(execOp a.eval ⟨some d',.alloc t,ty,pos,af,none⟩).run e.P w=.ok (.value (.pointer (some ⟨w.heap.size,0,none⟩))) (w.alloc (.cells v.cells t)):=by
    simp [execOp,Instr.alloc,zeroValue,typeInfo,hi,hv,newVar,newRow,Result.andThen]
   have hb:Below w.heap.size w (w.alloc (.cells v.cells t)):=ZdD w _;have hk:Kept e.D e.E w.heap.size w (w.alloc (.cells v.cells t)):=Kept.of_below hb (fun _=>Tai _);have hC:=hI.cls;have hC':Cls e U w0.heap.size S0 m (w.alloc (.cells v.cells t)) S L:=hC.later hk (he.keep _ _ hb.size (fun b hE=>hb.block b (Tbd (hC.ein b hE) hC.bsz)) hC.g) (fun _ h=>h) (fun _ h=>.inl h);rw [hrun,Oper.upon_value];refine ⟨S,hI.putD hPt hA hiD hr hdn' (fun _ h=>h) hC' hk (by simp [gs,ARel]),fun _=>⟨w.heap.size,?_,hC.bsz,by simp,fun hs=>by have:=(hC.sin _ hs).1;omega,fun k bk hk hg=>by have:=hC.blk_lt hk hg;omega,heap_alloc_new w _⟩⟩
   rw [ZbK (by rw [hI.size];exact hdn')];simp
  ·exact ZcZ (hG' w S L a.eval hI.cls hopd) fun v' w' ⟨S',hS,hC,hk,hv'⟩=>⟨S',hI.putD hPt hA hiD hr hdn' hS.1 hC hk hv',hJN m m L L listed a w w' S S' i' o' d' v' hJ hA hip (by rw [hI.size];exact hdn') hk hS.2 (fun b hb=>hI.cls.ein b hb) fun k bk g h1 h2=>.inr ⟨k,bk,h1,h2⟩⟩
 have H:=ZgH (e:=e) (Q:=QN e U w0 S0 nt K) (J:=fun m L=>Zfu e w0.heap.size p d m L t v) he hH hPt hn (fun hlt=>by
   rcases hsc with q | q
   ·omega
   ·exact q) hsq (fun i o d hi ho hdd=>hd o (hmem i o (by simpa using ho)) d hdd) hDA hgo (fun m m' L L' listed a w w' S S' i o d' v' hJ hA hiN hdl hk hS hE hB=>hJN m m' L L' listed a w w' S S' i o d' v' hJ hA (fun e'=>by
    subst e';exact (hPt.cov i (hPt.nlt i hiN)).elim (fun q=>q.2 hiN) fun q=>q.1 hpD) hdl hk hS hE hB) (fun s m L listed a' w' S' hI hJ hall=>?_) (p+1) N _ _ L _ a w S inv0 hJ0 ?_
 ·rw [hsz] at H;rw [hsz] at hn;rw [show p+1+(l.length - (p+1))=l.length by omega] at H;exact H
 ·have hsim:Sim e U w0 S0 nt ⟨s,m⟩ a' w' S' L:=⟨hI.cls,fun t=>hI.rel t (fun i o hi hl=>by rw [hall i (hPt.dlt i hi)] at hl;cases hl),hI.size,hI.defers,hI.kept⟩;have hr:=hI.run;simp only [ZaB,NRun] at hr;obtain ⟨b,q1,q2,q3,q4,q5,q6⟩:=hJ (hall p om);have hrv:=ZbZ (w:=w') (S:=S') v.cells.toList;rw [hcs] at hrv
  have hsimB:=hsim.bornE (bk:=.var none cs) (w':=w') (b':=b) (v':=undef) (u:=a'.tmps.getD d undef) (τ:=some b) (s1:=s) (m1:=m) (α:=.ref d 0) (S':=S') hdn (fun _ h=>h) (fun _ h=>.inl h) (fun t=>.inl rfl) (fun k x h=>h)
   (fun g hg=>by injection hg with hg;subst hg;exact ⟨q4,fun hE=>by have:=hI.cls.ein _ hE;omega,.inl q2⟩) (fun k x g hkd hx hg hb=>by injection hg with hg;subst hg;exact q5 k x hx hb)
   (Kept.refl _ _ _ _) hI.cls.g (by
    simp only [Own1,if_true];refine ⟨by simp,q3,q4,⟨v.cells,t,q6,by have:=hrv.len;simpa using this⟩,?_⟩;exact Zae.of_vals cs v.cells.toList 0 hrv (fun j u hj=>by
     rw [Nat.zero_add];have hj':v.cells[j]?=some u:=by simpa using hj
     simp [World.cell?,q6,hj']))
   (fun g hg=>by simp only [Zas,if_true] at hg;exact .inl (by rw [hg])) (by simp [ARel,q1])
  have hsimD:SimE e U w0 S0 nt ⟨(d,.ref d 0)::Zak d s,(d,.var none cs)::remM d m⟩ a' w':=by
   obtain ⟨S2,L2,k1,k2,k3,k4,k5⟩:=hsimB;refine ⟨S2,L2,k1,fun t=>?_,hI.size,hI.defers,k5⟩;have:=k2 t;rw [ZbK (by rw [hI.size];exact hdn)] at this;by_cases ht:t=d
   ·rw [if_pos ht] at this;rw [ht];rw [ht] at this;exact this
   ·rw [if_neg ht] at this;exact this
  exact ZgP he l.toArray.toList (fun a w σ' k1 k2=>⟨rfl,σ',k1,k2⟩) (l.toArray.toList.drop (p+1)) _ a' w' (fun o ho=>hd o (List.mem_of_mem_drop ho)) hsimD (by simpa using hr)
 ·rw [List.countP_eq_length.2]
  ·simp
  ·intro i hi;have hi':=List.mem_range.1 hi;have hz:i < (Array.replicate l.length false).size:=by rw [hsz] at hn;simp;omega
   rw [Za5 hz,getD_replicate_false];rfl
variable {mask:Nat} {Q:PX->St->Prop} {s:List (Nat × A)} {m:List (Nat × Bk)} {ds:List (Option Nat)} {Ds Ns T:List Oper}
theorem gN0 {id:Nat} (n:Nat) (D N:List Nat) (hK:Runs e ds (D.length+1) Ds ⟨s,m⟩ fun σ1=>NRun e ds Ns σ1 fun σ2=>Runs e ds 0 T σ2 (ZcL mask Q)) (hD:ZaB D l=Ds:=by simp only [ZaB,Tau,Tat];exact rfl) (hN:ZaB N l=Ns:=by simp only [ZaB,Tau,Tat];exact rfl) (hT:l.drop n=T:=by simp only [List.drop_succ_cons,List.drop_zero];exact rfl)
  (hds:l.map (·.dst)=ds:=by simp only [Tbu,List.map_nil];exact rfl) (hP:ZfE l.toArray n D N=true:=by decide +kernel) (hB:regB l.toArray n=true:=by decide +kernel):pwp e mask (.region id l.toArray true) ⟨s,m⟩ Q:=by
 subst hD hN hT hds;exact Zgn (ops:=l.toArray) (by simpa using Zz1 hP hB hK)
end
section
variable {e:Env} {ds:List (Option Nat)} {K:St->Prop}
def ResN (e:Env) (ds:List (Option Nat)) (K:St->Prop):Res->Prop
 | .done σ=>K σ
 | .call q c args d _ os σ=>q=true∧∀ (o:Oper) (ts:Array TypeId),o.op=.call ⟨.value c,args.toArray,ts⟩->o.dst=d->ZgX e o σ (fun σ'=>NRun e ds os σ' K)
 | _=>False
theorem ZjE {os:List Oper} {n q:Nat} {next:St->Res} (hn:qB n=true) (hq:qB q=true) (ih:∀ σ,ResN e ds K (next σ)->NRun e ds os σ K) {o:Oper} {σ:St} (h:ResN e ds K (Zba e.P o.dst o.type q n os next o.op σ)):ZgX e o σ (fun σ'=>NRun e ds os σ' K):=by
 unfold Zba at h;split at h
 ·rename_i t ho;unfold ZcT at h;split at h
  ·rename_i σ' hσ;rw [hq] at hσ;simp at hσ
  ·exact h.elim
 ·rename_i c args ts ho;exact h.2 o ts (by rw [ho]) rfl
 ·exact h.elim
 ·rename_i op σ1 hne0 hne hne2 ho;unfold ZcT at h;split at h
  ·rename_i σ' hσ;rw [hn] at hσ;exact (ZpM hσ (K:=fun σ'=>NRun e ds os σ' K) (ih σ' h)).toN
  ·exact h.elim
theorem ZgY:∀ (os:List Oper) (n:Nat) (σ:St),os.length+1 < n->ResN e ds K (Zbc e.P ds n os σ)->NRun e ds os σ K
 | [],n,σ,_,h=>h
 | ⟨d,op,ty,pos,aft,none⟩::os,n,σ,hn,h=>ZjE (o:=⟨d,op,ty,pos,aft,none⟩) (n:=n) (q:=n - 1) (by cases n with | zero=>simp at hn | succ k=>rfl) (by match n,hn with | k+2,_=>rfl) (fun σ h=>ZgY os (n - 1) σ (by simp only [Tag] at hn;omega) h) h
 | ⟨d,op,ty,pos,aft,some (j,want)⟩::os,n,σ,hn,h=>by
  have ih:∀ σ,ResN e ds K (Zbc e.P ds (n - 1) os σ)->NRun e ds os σ K:=fun σ h=>ZgY os (n - 1) σ (by simp only [Tag] at hn;omega) h;have hq:qB n=true:=by cases n with | zero=>simp at hn | succ k=>rfl
  simp only [NRun];simp only [Zbc] at h;unfold Zey at h;split at h
  ·rename_i b hb;simp only [hb];unfold ZiN at h;split at h
   ·rename_i hbw;rw [if_pos (by simpa using hbw)];exact ZjE (o:=⟨d,op,ty,pos,aft,some (j,want)⟩) hq hq ih h
   ·rename_i hbw;rw [if_neg (by simpa using hbw)];exact ih _ h
  ·rename_i hb;simp only [hb];exact ih _ h
  ·exact h.elim
variable {n n':Nat} {os os':List Oper} {σ:St} {s1 s2 s3:List (Nat × A)} {m1 m2:List (Nat × Bk)}
theorem Zv5 (h:Zbc e.P ds (os.length+2) os σ=.done ⟨s1,m1⟩) (hK:K ⟨s1,m1⟩):NRun e ds os σ K:=ZgY os (os.length+2) σ om (by rw [h];exact hK)
theorem ZxB {c:Operand} {args:List Operand} {f:FuncId} {xs:List D} {d:Option Nat} {R:List D->Prop} (h:Zbc e.P ds (os.length+2) os σ=.call true c args d n' os' ⟨s1,m1⟩) (h1:ZdS true c args ⟨s1,m1⟩=some (f,xs,⟨s2,m2⟩)) (hc:ConE e f xs R) (hK:∀ r,R r->NRun e ds os' ⟨setA s2 d (retA r),m2⟩ K):NRun e ds os σ K:=by
 refine ZgY os (os.length+2) σ om ?_;rw [h];refine ⟨rfl,fun o ts ho hd he=>?_⟩;obtain ⟨caps,ys,hf,hcal,hds,rfl⟩:=Zez h1;unfold frzQ at hf;split at hf;rotate_left
 ·simp at hf
 injection hf with hf
 injection hf with e1 e2
 subst e1 e2;refine ⟨fun α mx=>mx=[]∧∃ r,R r∧α=retA r,[],fun α mx ⟨hm,r,hr,hα⟩=>by rw [hα,hd,hm];exact hK r hr,fun t k hk=>(by cases hk),fun α mx ⟨hm,_⟩ k y hy=>by rw [hm];exact hy,fun U w0 S0 w S L ρv hC _ hr=>?_⟩;obtain ⟨m1,m2⟩:=Zha ho;obtain ⟨us,hv,hus⟩:=Zdf hcal (hr c m1);have hds:Zaq w S ys (args.toArray.toList.map ρv):=Zei (by simpa using hds) (by simp) (mapx (fun p hp=>hr p (m2 p hp)));obtain ⟨hbody,hcon⟩:=hc
 have hcl:=hcon w S _ hC.sin (fun b hb=>Tbd (hC.ein b hb) hC.bsz) hC.g (hds.append (Zaq.caps hus));unfold gives;rw [Zem ho hv hbody];exact hcl.mono fun en w' ⟨v,r,h1,hR,h2,h3,h4⟩=>⟨v,h1,_,[],⟨rfl,r,hR,rfl⟩,fun b=>S b∨(w.heap.size<=b∧b < w'.heap.size),L,fun b hb=>hb.elim .inl (fun q=>.inr q.1),hC.later h2 h3 (fun b hb=>.inl hb) (fun b hb=>hb),h2,ZeO h4,fun x u _ hx=>hx.keep h2.size (hC.cell h2) fun b hb=>.inl hb,fun k bk g q1 q2=>.inr ⟨k,bk,q1,q2⟩⟩
theorem ZxC {c:Operand} {args:List Operand} {f:FuncId} {xs:List D} {d:Option Nat} {R:List D->List Bk->Prop} (ks:List Nat) (h:Zbc e.P ds (os.length+2) os σ=.call true c args d n' os' ⟨s1,m1⟩) (h1:ZdS true c args ⟨s1,m1⟩=some (f,xs,⟨s2,m2⟩)) (hc:ConP e f xs [] R) (hks:Zck ks s2=s2) (hkm:Zcn ks m2=m2) (hK:∀ r pm,R r pm->NRun e ds os' ⟨setA s2 d (retA r),zipM ks pm++m2⟩ K):NRun e ds os σ K:=by
 refine ZgY os (os.length+2) σ om ?_;rw [h];refine ⟨rfl,fun o ts ho hd he=>?_⟩;obtain ⟨caps,ys,hf,hcal,hds,rfl⟩:=Zez h1;unfold frzQ at hf;split at hf;rotate_left
 ·simp at hf
 injection hf with hf
 injection hf with e1 e2
 subst e1 e2;have hno:∀ k∈ks,gm m1 k=none:=fun k hk=>by
  have:=ZjL (ks:=ks) (m:=m1) (k:=k);rw [if_pos hk,hkm] at this;exact this
 have hfresh:∀ t,∀ k∈ks,¬ ZdH k (gs s1 t):=fun t k hk=>by
  rcases Zgf t ks s1 with ⟨_,q⟩ | q
  ·exact q k hk
  ·rw [hks] at q;rw [q];exact fun h=>h
 refine ⟨fun α mx=>∃ r pm,R r pm∧α=retA r∧mx=zipM ks pm,ks,fun α mx ⟨r,pm,hr,hα,hm⟩=>by rw [hα,hd,hm];exact hK r pm hr,hfresh,fun α mx ⟨r,pm,_,_,hm⟩ k y hy=>?_,fun U w0 S0 w S L ρv hC hkw hr=>?_⟩
 ·rw [Zki]
  cases hz:gm mx k with
  | none=>exact hy
  | some x =>
   rw [hm] at hz;have:=hno k (Zdw hz).1;have hy:gm m1 k=some y:=hy;rw [hy] at this
   cases this
 obtain ⟨mm1,mm2⟩:=Zha ho;obtain ⟨us,hv,hus⟩:=Zdf hcal (hr c mm1);have hds:Zaq w S ys (args.toArray.toList.map ρv):=Zei (by simpa using hds) (by simp) (mapx (fun p hp=>hr p (mm2 p hp)));obtain ⟨hbody,hcon⟩:=hc;have hcl:=hcon w S _ hC.sin (fun b hb=>Tbd (hC.ein b hb) hC.bsz) hC.g (fun x hx=>by cases hx) trivial (hds.append (Zaq.caps hus));unfold gives;rw [Zem ho hv hbody];refine hcl.mono fun en w' ⟨v,r,pm,h1,hR,k1,k2,k3,k4,k5⟩=>⟨v,h1,retA r,zipM ks pm,⟨r,pm,hR,rfl,rfl⟩,?_⟩
 have hp0:∀ g,¬ ZaU [] g:=fun g ⟨x,hx,_⟩=>by cases hx
 have hsim:Sim e U w0 S0 0 ⟨[],m1⟩ ⟨#[],[]⟩ w S L:=⟨hC,fun t=>trivial,rfl,rfl,hkw⟩;have hz:∀ k x,gm (zipM ks pm++m1) k=some x->(gm (zipM ks pm) k=some x∧k∈ks∧x∈pm)∨(gm (zipM ks pm) k=none∧gm m1 k=some x∧k ∉ ks):=fun k x hx=>by
  rw [Zki] at hx
  cases hzz:gm (zipM ks pm) k with
  | some y =>
   rw [hzz] at hx;injection hx with hx
   subst hx;exact .inl ⟨rfl,Zdw hzz⟩
  | none =>
   rw [hzz] at hx;exact .inr ⟨rfl,hx,fun hk=>by have:=hno k hk;have hx:gm m1 k=some x:=hx;rw [hx] at this;cases this⟩
 obtain ⟨t1,t2,t3⟩:=hsim.touchM (p:=fun k=>k∈ks) (m':=zipM ks pm++m1) (w':=w') (S':=fun b=>(S b∨ZaU [] b∨(w.heap.size<=b∧b < w'.heap.size))∧¬ ZaU pm b) (L':=layB (zipM ks pm) L) (τ:=fun _=>False)
  (fun b hs=>⟨.inl hs,fun ⟨x,hx,hg⟩=>by
   rcases (k3 x hx).2 b hg with q | q
   ·exact hp0 b q
   ·have:=(hC.sin b hs).1;omega⟩)
  (fun b hb=>hb.1.elim .inl fun q=>q.elim (fun q=>(hp0 b q).elim) fun q=>.inr (.inr q))
  (fun k x hp hx=>by
   rcases hz k x hx with ⟨_,h2,_⟩ | ⟨_,h3,_⟩
   ·exact (hp h2).elim
   ·exact h3)
  (fun k hp=>by
   have hzn:gm (zipM ks pm) k=none:=by
    cases hzz:gm (zipM ks pm) k with
    | none=>rfl
    | some y=>exact (hp (Zdw hzz).1).elim
   simp only [layB,hzn,and_self])
  (fun g hg=>hg.elim) (fun k x g _ _ hg=>hg.elim)
  ⟨k1.os,k1.tape,k1.output,k1.drawn,k1.size,fun b hb hE=>k1.block b hb fun q=>hE (q.elim .inl fun q=>(hp0 b q).elim)⟩ k2
  (fun k x hp hx=>by
   rcases hz k x hx with ⟨h2,_,h3⟩ | ⟨_,_,h3⟩
   ·have:=Zb7 (L:=L) (k3 x h3).1 h2;exact ⟨this.1,fun g hg=>((k3 x h3).2 g ((this.2 g).1 hg)).elim (fun q=>(hp0 g q).elim) .inr⟩
   ·exact (h3 hp).elim)
  (fun k k' x x' g hp hp' hx hx' hb hb'=>by
   rcases hz k x hx with ⟨h2,_,h3⟩ | ⟨_,_,h3⟩
   ·rcases hz k' x' hx' with ⟨h2',_,h3'⟩ | ⟨_,_,h3'⟩
    ·have q:=Zb7 (L:=L) (k3 x h3).1 h2;have q':=Zb7 (L:=L) (k3 x' h3').1 h2';exact Zge k4 h2 h2' ((q.2 g).1 hb) ((q'.2 g).1 hb')
    ·exact (h3' hp').elim
   ·exact (h3 hp).elim)
 refine ⟨fun b=>(S b∨ZaU [] b∨(w.heap.size<=b∧b < w'.heap.size))∧¬ ZaU pm b,layB (zipM ks pm) L,fun b hb=>hb.1.elim .inl fun q=>q.elim (fun q=>(hp0 b q).elim) fun q=>.inr q.1,t1,⟨k1.os,k1.tape,k1.output,k1.drawn,k1.size,fun b hb hE=>k1.block b hb fun q=>q.elim hE (hp0 b)⟩,ZeO k5,fun x u hk hx=>t3 x u (fun k hp hkx=>(hk k hp hkx).elim) hx,fun k bk g h2 h3=>?_⟩;rcases hz k bk h2 with ⟨q1,_,q3⟩ | ⟨q1,q2,_⟩
 ·have:=Zb7 (L:=L) (k3 bk q3).1 q1;exact .inl (((k3 bk q3).2 g ((this.2 g).1 h3)).resolve_left (hp0 g))
 ·refine .inr ⟨k,bk,q2,?_⟩;have:Zas (layB (zipM ks pm) L) k bk=Zas L k bk:=ZlN (by simp only [layB,q1]) (by simp only [layB,q1])
  rwa [this] at h3
theorem gNP {c:Operand} {args:List Operand} {f:FuncId} {xs:List D} {d:Option Nat} {R:List D->List Bk->Prop} (ks:List Nat) (hc:ConP e f xs [] R) (hK:∀ r pm,R r pm->NRun e ds os' ⟨setA s2 d (retA r),zipM ks pm++m2⟩ K) (h:Zbc e.P ds (os.length+2) os σ=.call true c args d n' os' ⟨s1,m1⟩:=by exact sfv) (h1:ZdS true c args ⟨s1,m1⟩=some (f,xs,⟨s2,m2⟩):=by exact sfv) (hks:Zck ks s2=s2:=by exact sny) (hkm:Zcn ks m2=m2:=by exact sny):NRun e ds os σ K:=ZxC ks h h1 hc hks hkm hK
theorem gNr (hK:K ⟨s1,m1⟩) (h:Zbc e.P ds (os.length+2) os σ=.done ⟨s1,m1⟩:=by exact sfv):NRun e ds os σ K:=Zv5 h hK
theorem gNE {c:Operand} {args:List Operand} {f:FuncId} {xs:List D} {d:Option Nat} {R:List D->Prop} (hc:ConE e f xs R) (hK:∀ r,R r->NRun e ds os' ⟨setA s2 d (retA r),m2⟩ K) (h:Zbc e.P ds (os.length+2) os σ=.call true c args d n' os' ⟨s1,m1⟩:=by exact sfv) (h1:ZdS true c args ⟨s1,m1⟩=some (f,xs,⟨s2,m2⟩):=by exact sfv):NRun e ds os σ K:=ZxB h h1 hc hK
theorem gNd {k:Nat} (hK:K ⟨s1,m1⟩) (h:Zbc e.P ds k os σ=.done ⟨s1,m1⟩:=by exact sfv):Runs e ds k os σ K:=Zfb h hK
end
section
variable {e:Env} {K:St->Prop} {l l':List Oper} {σ:St} {s:List (Nat × A)} {m:List (Nat × Bk)} {ds:List (Option Nat)} {Ds Ns T:List Oper}
theorem gLa (i k:Nat) (hK:Zcs e l'.toArray K l'.length (Array.replicate l'.length false) σ) (hl:addL i k l=l':=by simp only [addL];exact rfl) (hc:ZkV l.toArray i k=true:=by decide +kernel):Zcs e l.toArray K l.length (Array.replicate l.length false) σ:=by
 subst hl;exact ZkW hc (by rwa [Zhx] at hK)
theorem gNa {d t ty:Nat} {pos:String} {af:Array Edge} {cs:List C} (p:Nat) (D N:List Nat) (hK:Runs e ds (D.length+1) Ds ⟨s,m⟩ fun σ1=>NRun e ds Ns ⟨(d,.undef)::σ1.s,σ1.m⟩ fun σ2=>Runs e ds 0 T ⟨(d,.ref d 0)::Zak d σ2.s,(d,.var none cs)::remM d σ2.m⟩ K) (hop:l[p]?=some ⟨some d,.alloc t,ty,pos,af,none⟩:=by simp only [Tau,Tat];exact rfl) (hz:ZaR e.P t=some cs:=by exact sfv) (hD:ZaB D l=Ds:=by simp only [ZaB,Tau,Tat];exact rfl) (hN:ZaB N l=Ns:=by simp only [ZaB,Tau,Tat];exact rfl) (hT:l.drop (p+1)=T:=by simp only [List.drop_succ_cons,List.drop_zero];exact rfl)
  (hds:l.map (·.dst)=ds:=by simp only [Tbu,List.map_nil];exact rfl) (hP:ZfE l.toArray (p+1) (D++[p]) N=true:=by decide +kernel) (hB:regB l.toArray (p+1)=true:=by decide +kernel):Zcs e l.toArray K l.length (Array.replicate l.length false) ⟨s,m⟩:=by
 subst hD hN hT hds;exact ZxA hop hz hP hB hK
end
def Zv6 (x:Tm × Bool) (r:List D) (pm:List Bk):Prop:=∃ us E,r=[.agg (ZbF us),.one (.lit (.bool x.2))]∧us.length=4∧(ZbF us).all Zay=true∧pm=[.set E (fun w=>Zam w (Zab x.1) E us)]
theorem Zv6.mk {x:Tm × Bool} {b:Bool} {u0 u1 u2 u3:Value} {E:Nat->Prop} (hok:(ZbF [u0,u1,u2,u3]).all Zay=true) (hb:b=x.2):Zv6 x [.agg [.lit u0,.lit u1,.lit u2,.lit u3],.one (.lit (.bool b))] [.set E (fun w=>Zam w (Zab x.1) E [u0,u1,u2,u3])]:=⟨[u0,u1,u2,u3],E,by rw [hb];rfl,rfl,hok,rfl⟩
section
variable {e:Env} {mask:Nat} {Q:PX->St->Prop} {ds:List (Option Nat)}
def ancN (L:List Oper):Nat->Nat->List Nat
 | 0,_=>[]
 | n+1,j=>ZbJ L j++(ZbJ L j).flatMap (ancN L n)
theorem ZhI {L:List Oper} {listed:Array Bool} (h:∀ j,listed.getD j false=true->∀ q∈ZbJ L j,listed.getD q false=true):∀ (n j:Nat),(∀ q∈ZbJ L j,listed.getD q false=true)->∀ q∈ancN L n j,listed.getD q false=true
 | 0,_,_,q,hq=>by cases hq
 | n+1,j,hj,q,hq=>by
  rcases Tbh.1 hq with hq | hq
  ·exact hj q hq
  ·obtain ⟨r,hr,hq⟩:=List.mem_flatMap.1 hq;exact ZhI h n r (h r (hj r hr)) q hq
def ZeL (e:Env) (ds:List (Option Nat)) (L:List Oper) (cons:Nat->Option Nat) (ini:List Nat) (B:St->Prop) (P:Nat->St->Prop):Nat->List Oper->Prop
 | _,[]=>True
 | i,o::os=>(∀ s m,B ⟨s,m⟩->(∀ j∈ZbJ L i,(cons j=none∨cons j=some i)->P j ⟨s,m⟩)->(∀ j∈ini,cons j=some i->P j ⟨s,m⟩)->(∀ j∈ini,∀ k,cons j=some k->i∈ZbJ L k->P j ⟨s,m⟩)->Runs e ds 0 [o] ⟨s,m⟩ (fun σ'=>B σ'∧P i σ'∧∀ j,j≠i->i ∉ ancN L 6 j->cons j≠some i->(∀ k,cons j=some k->k ∉ ancN L 6 i)->P j ⟨s,m⟩->P j σ'))∧ZeL e ds L cons ini B P (i+1) os
theorem ZeL.get {L:List Oper} {cons:Nat->Option Nat} {ini:List Nat} {B:St->Prop} {P:Nat->St->Prop}:∀ {l:List Oper} {k i:Nat} {o:Oper},ZeL e ds L cons ini B P k l->l[i]?=some o->∀ s m,B ⟨s,m⟩->(∀ j∈ZbJ L (k+i),(cons j=none∨cons j=some (k+i))->P j ⟨s,m⟩)->(∀ j∈ini,cons j=some (k+i)->P j ⟨s,m⟩)->(∀ j∈ini,∀ k',cons j=some k'->k+i∈ZbJ L k'->P j ⟨s,m⟩)->Runs e ds 0 [o] ⟨s,m⟩ (fun σ'=>B σ'∧P (k+i) σ'∧∀ j,j≠k+i->k+i ∉ ancN L 6 j->cons j≠some (k+i)->(∀ k',cons j=some k'->k' ∉ ancN L 6 (k+i))->P j ⟨s,m⟩->P j σ')
 | [],k,i,o,_,h=>by simp at h
 | x::l,k,0,o,h,ho=>by
  simp only [Tat,Taq] at ho;subst ho;exact h.1
 | x::l,k,i+1,o,h,ho=>by
  have:=ZeL.get (l:=l) (k:=k+1) (i:=i) (o:=o) h.2 (by simpa using ho);rw [show k+1+i=k+(i+1) by omega] at this;exact this
theorem ZjF {l:List Oper} {cons:Nat->Option Nat} {ini:List Nat} {K B:St->Prop} {P:Nat->St->Prop} (hb:ZiV l=true) (hini:ini.all (fun j=>decide (l.length<=j))=true) (hstep:ZeL e ds l cons ini B P 0 l) (hK:∀ s m,B ⟨s,m⟩->(∀ i,i < l.length∨i∈ini->(∀ k,cons i=some k->l.length<=k)->P i ⟨s,m⟩)->K ⟨s,m⟩) :
  ∀ (f:Nat) (listed:Array Bool) (σ:St),listed.size=l.length->(List.range l.length).countP (fun i=>!listed.getD i true)=f->B σ->(∀ j,listed.getD j false=true->(P j σ∨∃ k,cons j=some k∧listed.getD k false=true)∧∀ q∈ZbJ l j,listed.getD q false=true)->(∀ j∈ini,P j σ∨∃ k,cons j=some k∧listed.getD k false=true)->ZeC e ds l.toArray K f listed σ:=by
 have hback:∀ i o,l[i]?=some o->o.guard=none∧∀ e∈o.after,Region.binds .any e=true->e.on < i:=fun i o ho=>by
  have h1:=List.all_eq_true.1 hb i (List.mem_range.2 (Tad.1 ho).1);rw [ho] at h1;simp only [Tar,Option.isNone_iff_eq_none,List.all_eq_true,Bool.or_eq_true,Bool.not_eq_true',decide_eq_true_eq] at h1;refine ⟨h1.1,fun e he hbe=>?_⟩;rcases h1.2 e (Array.mem_toList_iff.2 he) with h2 | h2
  ·rw [hbe] at h2;cases h2
  ·exact h2
 have hfirst:∀ (listed:Array Bool),listed.size=l.length->Region.ready .any l.toArray listed=[]->∀ i,i < l.length->listed.getD i false=true:=fun listed hsz h0 i=>by
  induction i using Nat.strongRecOn with
  | _ i ih =>
   intro hi;rw [<- Za5 (by omega:i < listed.size)]
   cases hun:listed.getD i true with
   | true=>rfl
   | false =>
   obtain ⟨o,ho⟩:∃ o,l[i]?=some o:=⟨_,Taa hi⟩;have:=(mem_ready (ops:=l.toArray) (md:=.any)).2 ⟨hun,o,by simpa using ho,fun e he hbe=>ih e.on ((hback i o ho).2 e he hbe) (by have:=(hback i o ho).2 e he hbe;omega)⟩;rw [h0] at this
   cases this
 have hlt:∀ (listed:Array Bool) (k:Nat),listed.getD k false=true->k < listed.size:=fun listed k h=>Classical.byContradiction fun hn=>by
  rw [Array.getD_eq_getD_getElem?,Array.getElem?_eq_none om] at h
  cases h
 intro f
 induction f with
 | zero =>
  intro listed σ hsz hc hB hP hI;have hall:∀ i,i < l.length->listed.getD i true=true:=fun i hi=>by
   have:=List.countP_eq_zero.1 hc i (List.mem_range.2 hi);simpa using this
  refine ⟨?_,hK σ.s σ.m hB fun i hio hk=>?_⟩
  ·cases hr:Region.ready .any l.toArray listed with
   | nil=>rfl
   | cons i r =>
    have hi:i∈Region.ready .any l.toArray listed:=by rw [hr];simp
    obtain ⟨hun,oi,hoi,_⟩:=mem_ready.1 hi;have hil:i < l.length:=by
     have:=(Tbl.1 hoi).1;simpa using this
    rw [hall i hil] at hun
    cases hun
  ·have hno:¬ ∃ k,cons i=some k∧listed.getD k false=true:=fun ⟨k,h1,h2⟩=>by
    have:=hlt listed k h2;have:=hk k h1;omega
   rcases hio with hi | hi
   ·exact (hP i (by rw [<- Za5 om];exact hall i hi)).1.resolve_right hno
   ·exact (hI i hi).resolve_right hno
 | succ f ih =>
  intro listed σ hsz hc hB hP hI;refine ⟨fun h0=>hK σ.s σ.m hB fun i hio hk=>?_,fun i hi=>?_⟩
  ·have hno:¬ ∃ k,cons i=some k∧listed.getD k false=true:=fun ⟨k,h1,h2⟩=>by
    have:=hlt listed k h2;have:=hk k h1;omega
   rcases hio with hi | hi
   ·exact (hP i (hfirst listed hsz h0 i hi)).1.resolve_right hno
   ·exact (hI i hi).resolve_right hno
  obtain ⟨hun,o,hoi,hall⟩:=mem_ready.1 hi;have ho:l[i]?=some o:=by simpa using hoi
  have hil:i < l.length:=(Tad.1 ho).1;have hls:i < listed.size:=om;have hda:ZbJ l i=Zd7 o:=by unfold ZbJ;rw [ho]
  have hunf:listed.getD i false=false:=by rw [<- Za5 hls];exact hun
  have hanc:∀ q∈ancN l 6 i,listed.getD q false=true:=ZhI (fun j hj=>(hP j hj).2) 6 i fun q hq=>by
   rw [hda] at hq;simp only [Zd7,Tbi,List.mem_filter] at hq;obtain ⟨e,⟨he,hbe⟩,rfl⟩:=hq;exact hall e (Array.mem_toList_iff.1 he) hbe
  refine ⟨o,hoi,(hback i o ho).1,ZeP (hback i o ho).1 ?_⟩;have h1:=ZeL.get hstep ho σ.s σ.m hB (fun j hj hcj=>by
   rw [Nat.zero_add] at hj hcj;have hj':=hj;rw [hda] at hj';simp only [Zd7,Tbi,List.mem_filter] at hj';obtain ⟨e,⟨he,hbe⟩,rfl⟩:=hj';refine (hP e.on (hall e (Array.mem_toList_iff.1 he) hbe)).1.resolve_right ?_;rintro ⟨k,hk1,hk2⟩;rcases hcj with hcj | hcj
   ·rw [hcj] at hk1;cases hk1
   ·rw [hcj] at hk1;injection hk1 with hk1
    subst hk1;rw [hunf] at hk2
    cases hk2) (fun j hj hc=>by
   rw [Nat.zero_add] at hc;refine (hI j hj).resolve_right ?_;rintro ⟨k,hk1,hk2⟩;rw [hc] at hk1;injection hk1 with hk1
   subst hk1;rw [hunf] at hk2
   cases hk2) (fun j hj k' hc hd=>by
   rw [Nat.zero_add] at hd;refine (hI j hj).resolve_right ?_;rintro ⟨k,hk1,hk2⟩;rw [hc] at hk1;injection hk1 with hk1
   subst hk1;have h2:=(hP _ hk2).2 i hd;rw [hunf] at h2
   cases h2)
  rw [Nat.zero_add] at h1;refine ZkF h1 fun σ' ⟨k1,k2,k3⟩=>ih _ σ' (by simpa using hsz) ?_ k1 (fun j hj=>?_) fun j hj=>?_
  ·have h1:(List.range l.length).countP (fun j=>!(listed.setIfInBounds i true).getD j true)+1=(List.range l.length).countP (fun j=>!listed.getD j true):=by
    have hperm:=List.perm_cons_erase (List.mem_range.2 hil);rw [hperm.countP_eq,hperm.countP_eq,List.countP_cons,List.countP_cons];have hcong:((List.range l.length).erase i).countP (fun j=>!(listed.setIfInBounds i true).getD j true)=((List.range l.length).erase i).countP (fun j=>!listed.getD j true):=by
     refine List.countP_congr fun j hj=>?_;have hne:j≠i:=fun e=>by
      subst e;exact List.Nodup.not_mem_erase (List.nodup_range) hj
     rw [getD_set_ne true (Ne.symm hne)]
    rw [hcong,hun];simp [hls]
   omega
  ·by_cases hji:j=i
   ·subst hji;refine ⟨.inl k2,fun q hq=>?_⟩;rw [hda] at hq;simp only [Zd7,Tbi,List.mem_filter] at hq;obtain ⟨e,⟨he,hbe⟩,rfl⟩:=hq;have hlt:=(hback j o ho).2 e (Array.mem_toList_iff.1 he) hbe;rw [getD_set_ne false om];exact hall e (Array.mem_toList_iff.1 he) hbe
   ·rw [getD_set_ne false (Ne.symm hji)] at hj;obtain ⟨p1,p2⟩:=hP j hj;have hni:i ∉ ancN l 6 j:=fun hm=>by
     have h2:=ZhI (fun j hj=>(hP j hj).2) 6 j p2 i hm;rw [hunf] at h2
     cases h2
    refine ⟨?_,fun q hq=>?_⟩
    ·rcases p1 with p1 | ⟨k,hk1,hk2⟩
     ·by_cases hci:cons j=some i
      ·refine .inr ⟨i,hci,?_⟩;rw [<- Za5 (by simpa using hls)];simp [Array.getD_eq_getD_getElem?,hls]
      ·by_cases hdep:∃ k,cons j=some k∧k∈ancN l 6 i
       ·obtain ⟨k,hk1,hk2⟩:=hdep;refine .inr ⟨k,hk1,?_⟩;have hk3:=hanc k hk2;have hki:i≠k:=fun e=>by subst e;rw [hunf] at hk3;cases hk3
        rw [getD_set_ne false hki];exact hk3
       ·exact .inl (k3 j hji hni hci (fun k hk1 hk2=>hdep ⟨k,hk1,hk2⟩) p1)
     ·refine .inr ⟨k,hk1,?_⟩;by_cases hki:k=i
      ·subst hki;rw [hunf] at hk2;cases hk2
      ·rw [getD_set_ne false (Ne.symm hki)];exact hk2
    ·by_cases hqi:q=i
     ·subst hqi;have h2:=p2 q hq;rw [hunf] at h2
      cases h2
     ·rw [getD_set_ne false (Ne.symm hqi)];exact p2 q hq
  ·have hjl:l.length<=j:=by have:=List.all_eq_true.1 hini j hj;simpa using this
   have hji:j≠i:=om;have hni:i ∉ ancN l 6 j:=fun hm=>by
    have hd:ZbJ l j=[]:=by unfold ZbJ;rw [List.getElem?_eq_none hjl]
    simp [ancN,hd] at hm
   rcases hI j hj with p1 | ⟨k,hk1,hk2⟩
   ·by_cases hci:cons j=some i
    ·refine .inr ⟨i,hci,?_⟩;rw [<- Za5 (by simpa using hls)];simp [Array.getD_eq_getD_getElem?,hls]
    ·by_cases hdep:∃ k,cons j=some k∧k∈ancN l 6 i
     ·obtain ⟨k,hk1,hk2⟩:=hdep;refine .inr ⟨k,hk1,?_⟩;have hk3:=hanc k hk2;have hki:i≠k:=fun e=>by subst e;rw [hunf] at hk3;cases hk3
      rw [getD_set_ne false hki];exact hk3
     ·exact .inl (k3 j hji hni hci (fun k hk1 hk2=>hdep ⟨k,hk1,hk2⟩) p1)
   ·refine .inr ⟨k,hk1,?_⟩;by_cases hki:k=i
    ·subst hki;rw [hunf] at hk2;cases hk2
    ·rw [getD_set_ne false (Ne.symm hki)];exact hk2
def lkS:List (Nat × A)->List (Nat × A)->Prop
 | [],_=>True
 | (t,x)::r,s=>gs s t=x∧lkS r s
def lkM:List (Nat × Bk)->List (Nat × Bk)->Prop
 | [],_=>True
 | (t,x)::r,m=>gm m t=some x∧lkM r m
theorem Zzi {s:List (Nat × A)}:∀ {sb:List (Nat × A)},(∀ p∈sb,gs s p.1=p.2) ↔ lkS sb s
 | []=>by simp [lkS]
 | (t,x)::r=>by simp only [List.forall_mem_cons,lkS,Zzi (sb:=r)]
theorem Zzj {m:List (Nat × Bk)}:∀ {mb:List (Nat × Bk)},(∀ p∈mb,gm m p.1=some p.2) ↔ lkM mb m
 | []=>by simp [lkM]
 | (t,x)::r=>by simp only [List.forall_mem_cons,lkM,Zzj (mb:=r)]
theorem Zbj {sb:List (Nat × A)} {mb:List (Nat × Bk)} {s:List (Nat × A)} {m:List (Nat × Bk)}:Lks sb mb ⟨s,m⟩ ↔ lkS sb s∧lkM mb m:=and_congr Zzi Zzj
abbrev Tab:=List (List (Nat × A) × List (Nat × Bk))
def tabP (T:Tab) (i:Nat) (σ:St):Prop:=Lks (T.getD i ([],[])).1 (T.getD i ([],[])).2 σ
theorem ZbU {T:Tab} {i:Nat} {s:List (Nat × A)} {m:List (Nat × Bk)}:tabP T i ⟨s,m⟩ ↔ lkS (T.getD i ([],[])).1 s∧lkM (T.getD i ([],[])).2 m:=Zbj
def Ze6 (L:List Oper) (cons:Nat->Option Nat) (T:Tab) (i:Nat) (f:List (Nat × A)->List (Nat × Bk)->Bool):Bool:=(List.range T.length).all fun j=>j==i || ((ancN L 6 j).contains i || (cons j==some i || ((match cons j with | some k=>(ancN L 6 i).contains k | none=>false) || f (T.getD j ([],[])).1 (T.getD j ([],[])).2)))
theorem ZlI {L:List Oper} {cons:Nat->Option Nat} {T:Tab} {i:Nat} {f:List (Nat × A)->List (Nat × Bk)->Bool} {σ σ':St} (h:Ze6 L cons T i f=true) (hf:∀ sb mb,f sb mb=true->Lks sb mb σ->Lks sb mb σ'):∀ j,j≠i->i ∉ ancN L 6 j->cons j≠some i->(∀ k,cons j=some k->k ∉ ancN L 6 i)->tabP T j σ->tabP T j σ':=fun j h1 h2 h3 h4 hp=>by
 unfold tabP at hp ⊢;by_cases hj:j < T.length
 ·have:=List.all_eq_true.1 h j (List.mem_range.2 hj);simp only [Bool.or_eq_true,beq_iff_eq,List.contains_eq_mem,decide_eq_true_eq] at this;rcases this with q | q | q | q | q
  ·exact absurd q h1
  ·exact absurd q h2
  ·exact absurd q h3
  ·cases hc:cons j with
   | none=>rw [hc] at q;cases q
   | some k=>rw [hc] at q;exact absurd (by simpa using q) (h4 k hc)
  ·exact hf _ _ q hp
 ·have e:T.getD j ([],[])=([],[]):=by rw [List.getD_eq_getElem?_getD,List.getElem?_eq_none om];rfl
  rw [e];exact ⟨fun p hp=>(by cases hp),fun p hp=>by cases hp⟩
section
variable {sb:List (Nat × A)} {mb:List (Nat × Bk)} {s:List (Nat × A)} {m:List (Nat × Bk)} {d k:Nat} {α:A} {bk:Bk}
theorem Lks.kill (h:Lks sb mb ⟨s,m⟩) (hf:sb.all (fun p=>!keyB k p.2)=true):Lks sb mb ⟨Zak k s,m⟩:=⟨fun p hp=>by
 have h1:=List.all_eq_true.1 hf p hp;have h2:=h.1 p hp;show gs (Zak k s) p.1=p.2;rw [Zdv _ _ _ (by rw [h2];simpa using h1)];exact h2,h.2⟩
theorem Lks.mrem (h:Lks sb mb ⟨s,m⟩) (hf:mb.all (fun p=>p.1 != k)=true):Lks sb mb ⟨s,remM k m⟩:=⟨h.1,fun p hp=>by
 have h1:=List.all_eq_true.1 hf p hp;simp only [bne_iff_ne,ne_eq] at h1;show gm (remM k m) p.1=some p.2;rw [ZaA,if_neg h1];exact h.2 p hp⟩
theorem Zv7 {x:A} (h:keyB k x=false):frzA k bk x=x:=by
 cases x <;> simp_all [frzA,keyB]
theorem Lks.frz (h:Lks sb mb ⟨s,m⟩) (hf:sb.all (fun p=>!keyB k p.2)=true) (hm:mb.all (fun p=>p.1 != k)=true):Lks sb mb ⟨frzS k bk s,remM k m⟩:=by
 refine Lks.mrem (m:=m) ⟨fun p hp=>?_,h.2⟩ hm;have h1:=List.all_eq_true.1 hf p hp;have h2:=h.1 p hp;show gs (frzS k bk s) p.1=p.2;rw [Zlo,h2];exact Zv7 (by simpa using h1)
def Znc (d:Nat) (sb:List (Nat × A)) (_:List (Nat × Bk)):Bool:=sb.all fun p=>p.1 != d
def Znd (d:Nat) (_:List (Nat × A)) (mb:List (Nat × Bk)):Bool:=mb.all fun p=>p.1 != d
def Zzk (d k:Nat) (sb:List (Nat × A)) (mb:List (Nat × Bk)):Bool:=Ze3 d sb mb && Ze3 k sb mb
theorem Lks.ownE (h:Lks sb mb ⟨s,m⟩) (hf:Zzk d k sb mb=true):Lks sb mb ⟨(d,α)::Zak d (Zak k s),(d,bk)::remM d (remM k m)⟩:=by
 simp only [Zzk,Ze3,Tar,List.all_eq_true,bne_iff_ne,ne_eq,Bool.not_eq_true'] at hf;refine Lks.born (Lks.mrem (Lks.kill h ?_) ?_) ?_
 ·simp only [List.all_eq_true,Bool.not_eq_true'];exact fun p hp=>(hf.2.1 p hp).2
 ·simp only [List.all_eq_true,bne_iff_ne,ne_eq];exact fun p hp=>hf.2.2 p hp
 ·simp only [Ze3,Tar,List.all_eq_true,bne_iff_ne,ne_eq,Bool.not_eq_true'];exact hf.1
end
section
variable {L:List Oper} {cons:Nat->Option Nat} {T:Tab} {i:Nat} {sb:List (Nat × A)} {mb:List (Nat × Bk)} {s s2:List (Nat × A)} {m m2:List (Nat × Bk)} {d k:Nat} {α:A} {bk:Bk}
abbrev Did (L:List Oper) (cons:Nat->Option Nat) (T:Tab) (i:Nat) (sb:List (Nat × A)) (mb:List (Nat × Bk)) (s:List (Nat × A)) (m:List (Nat × Bk)) (σ':St):Prop:=Lks sb mb σ'∧tabP T i σ'∧∀ j,j≠i->i ∉ ancN L 6 j->cons j≠some i->(∀ k,cons j=some k->k ∉ ancN L 6 i)->tabP T j ⟨s,m⟩->tabP T j σ'
theorem kS (hB:Lks sb mb ⟨s,m⟩) (hp:tabP T i ⟨(d,α)::s,m⟩) (h1:Znc d sb mb=true:=by rfl) (h2:Ze6 L cons T i (Znc d)=true:=by rfl):Did L cons T i sb mb s m ⟨(d,α)::s,m⟩:=⟨hB.slot h1,hp,ZlI h2 fun _ _ h hl=>hl.slot h⟩
theorem kM (hB:Lks sb mb ⟨s,m⟩) (hp:tabP T i ⟨s,(d,bk)::remM d m⟩) (h1:Znd d sb mb=true:=by rfl) (h2:Ze6 L cons T i (Znd d)=true:=by rfl):Did L cons T i sb mb s m ⟨s,(d,bk)::remM d m⟩:=⟨hB.own h1,hp,ZlI h2 fun _ _ h hl=>hl.own h⟩
end
theorem gGk {id:Nat} {l:List Oper} {s:List (Nat × A)} {m:List (Nat × Bk)} (sb:List (Nat × A)) (mb:List (Nat × Bk)) (T:Tab) (cons:Nat->Option Nat) (ini:List Nat) (hB:Lks sb mb ⟨s,m⟩) (hI:∀ j∈ini,tabP T j ⟨s,m⟩) (hS:ZeL e (l.map (·.dst)) l cons ini (Lks sb mb) (tabP T) 0 l) (hK:∀ s' m',Lks sb mb ⟨s',m'⟩->(∀ i,i < l.length∨i∈ini->(∀ k,cons i=some k->l.length<=k)->tabP T i ⟨s',m'⟩)->∃ sf mf,Lks sf mf ⟨s',m'⟩∧Q .normal ⟨sf,mf⟩)
  (hb:ZiV l=true:=by decide +kernel) (hini:ini.all (fun j=>decide (l.length<=j))=true:=by decide +kernel) (hT:regT l.toArray 0=true:=by decide +kernel):pwp e mask (.region id l.toArray true) ⟨s,m⟩ Q:=fun he U w0 S0 nt a w hok hs=>by
 refine ZjR he hT (K:=fun σ'=>∃ sf mf,Lks sf mf σ'∧Q .normal ⟨sf,mf⟩) (fun a w σ' ⟨sf,mf,h1,h2⟩ h3=>⟨⟨sf,mf⟩,h2,h3.weak (fun t=>ZkD t h1.1) (fun t bk=>ZkE t bk h1.2)⟩) (Zkw hok) hs ?_;simp only [List.take_zero,Runs]
 have:=ZjF (K:=fun σ'=>∃ sf mf,Lks sf mf σ'∧Q .normal ⟨sf,mf⟩) hb hini hS hK l.length (Zbi l.length 0) ⟨s,m⟩ (by simp [Zbi]) (by
  rw [List.countP_eq_length.2]
  ·simp
  ·intro i hi;have hi':=List.mem_range.1 hi;simp [Zbi,hi']) hB (fun j hj=>by
   have h0:(Zbi l.length 0).getD j false=false:=by
    by_cases hjl:j < l.length
    ·simp [Zbi,hjl]
    ·simp [Zbi,hjl]
   rw [h0] at hj
   cases hj) (fun j hj=>.inl (hI j hj))
 simpa using this
end
def wo:List Tm->List Tm->List Tm × Bool
 | l,[]=>(l,true)
 | [],_::_=>([],false)
 | a::l,o::os=>if Zah a o=0 then wo l os else (a::(wo l (o::os)).1,(wo l (o::os)).2)
theorem ZAu (l:List Tm):wo l []=(l,true):=by cases l <;> rfl
where wo_mem:∀ {l os:List Tm},(wo l os).2=true->∀ s∈os,s∈l
 | l,[],_,s,hs=>by cases hs
 | [],o::os,h,s,hs=>by simp [wo] at h
 | a::l,o::os,h,s,hs=>by
  by_cases hc:Zah a o=0
  ·simp only [wo,if_pos hc] at h;have e:=Zfw hc;subst e;rcases Tbg.1 hs with rfl | hs
   ·exact Tas
   ·exact Tal _ (wo_mem h s hs)
  ·simp only [wo,if_neg hc] at h;exact Tal _ (wo_mem h s hs)
def Zsm (pm:List Bk) (l d:D):Prop:=l=d∨(∃ us row E,l=.agg (ZbF us)∧d=.agg row∧.set E (fun w=>Zam w row E us)∈pm)∨(∃ v rows E,l=.one (.lit v)∧d=.one (.sl rows)∧.set E (fun w=>Own w (.sl rows) E v)∈pm)
def Zne (pm:List Bk):List D->List D->Prop
 | [],[]=>True
 | l::ls,d::ds=>Zsm pm l d∧Zne pm ls ds
 | _,_=>False
theorem Zsm.same {pm:List Bk} {d:D}:Zsm pm d d:=.inl rfl
theorem Zne.rel {pm:List Bk}:∀ {lits data:List D},Zne pm lits data->∀ (w:World) (S:Nat->Prop) (vs:List Value),(∀ x∈pm,Zdd w S x)->Zaq w S lits vs->Zaq w (fun b=>S b∨ZaU pm b) data vs
 | [],[],_,w,S,[],_,_=>trivial
 | [],[],_,w,S,_::_,_,h=>h.elim
 | l::ls,d::ds,hr,w,S,[],_,h=>h.elim
 | l::ls,d::ds,⟨h1,h2⟩,w,S,v::vs,hp,⟨hv,hvs⟩=>by
  refine ⟨?_,Zne.rel h2 w S vs hp hvs⟩;rcases h1 with rfl | ⟨us,row,E,rfl,rfl,hm⟩ | ⟨u,rows,E,rfl,rfl,hm⟩
  ·exact DRel.keep (Tai _) (fun _ _ _=>rfl) (fun b hb=>.inl hb) hv
  ·obtain ⟨vs',rfl,hr⟩:=hv;rw [Zjw hr];obtain ⟨_,h3,_⟩:=hp _ hm;exact ⟨us,rfl,Zam.rep row E _ us (fun b hb=>.inr ⟨_,hm,hb⟩) h3⟩
  ·have hv:v=u:=hv;subst hv;obtain ⟨_,h3,_⟩:=hp _ hm;exact (Own.rep _ E v h3).mono fun b hb=>.inr ⟨_,hm,hb⟩
 | [],_::_,h,_,_,_,_,_=>h.elim
 | _::_,[],h,_,_,_,_,_=>h.elim
theorem ZjG (us:List Value):(ZbF us).all litC=true:=by
 induction us with
 | nil=>rfl
 | cons u us ih=>simp only [ZbF,Tbu,List.all_cons,litC,Bool.true_and];exact ih
theorem Zm7.lits {row:List C} {r:List D} {q:List Bk} (h:Zm7 row r q):r.all litD=true∧q.all Znb=true:=by
 obtain ⟨us,E,rfl,_,_,rfl⟩:=h;exact ⟨by simp only [List.all_cons,List.all_nil,litD,ZjG];rfl,rfl⟩
theorem Zv4.lits {rows:List (List C)} {r:List D} {q:List Bk} (h:Zv4 rows r q):r.all litD=true∧q.all Znb=true:=by
 obtain ⟨v,E,rfl,_,rfl⟩:=h;exact ⟨rfl,rfl⟩
def Zv8 (row:List C) (b:Bool) (r:List D) (pm:List Bk):Prop:=∃ us E,r=[.agg (ZbF us),.one (.lit (.bool b))]∧us.length=row.length∧(ZbF us).all Zay=true∧pm=[.set E (fun w=>Zam w row E us)]
theorem Zv8.lits {row:List C} {b:Bool} {r:List D} {q:List Bk} (h:Zv8 row b r q):r.all litD=true∧q.all Znb=true:=by
 obtain ⟨us,E,rfl,_,_,rfl⟩:=h;exact ⟨by simp only [List.all_cons,List.all_nil,litD,ZjG];rfl,rfl⟩
def Zry (rows:List (List C)) (b:Bool) (r:List D) (pm:List Bk):Prop:=∃ v E,r=[.one (.lit v),.one (.lit (.bool b))]∧Zay (.lit v)=true∧pm=[.set E (fun w=>Own w (.sl rows) E v)]
theorem Zry.lits {rows:List (List C)} {b:Bool} {r:List D} {q:List Bk} (h:Zry rows b r q):r.all litD=true∧q.all Znb=true:=by
 obtain ⟨v,E,rfl,_,rfl⟩:=h;exact ⟨rfl,rfl⟩
theorem Zzl {P:Nat->Prop} (h:∃ n,P n):∃ n,P n∧∀ m,m < n->¬ P m:=by
 obtain ⟨n,hn⟩:=h
 induction n using Nat.strongRecOn with
 | _ n ih =>
  by_cases hx:∃ m,m < n∧P m
  ·obtain ⟨m,hm,hp⟩:=hx;exact ih m hm hp
  ·exact ⟨n,hn,fun m hm hp=>hx ⟨m,hm,hp⟩⟩
where wo_sub:∀ (l os:List Tm),((wo l os).1).Sublist l
 | l,[]=>by rw [ZAu];exact List.Sublist.refl _
 | [],o::os=>by simp [wo]
 | a::l,o::os=>by
  simp only [wo];split
  ·exact (wo_sub l os).cons _
  ·exact (wo_sub l (o::os)).cons_cons _
theorem Zv9 (op so:Int) (nm:ByteArray) (args:List Tm):Zal (Zab (.mk op nm so args))=nm.size+(args.length+Zar (Zaa args)):=by
 simp only [Zab,Zal,Zdl,Zaj];omega
theorem Zov:Zal (Zab zTm)=0:=by rw [zTm,Zv9];rfl
theorem Zow:okTm zTm:=by simp only [zTm,okTm,Zat,and_true];exact ⟨⟨by decide,by decide⟩,by simp [maxLen],⟨by decide,by decide⟩⟩
noncomputable def mk6T (g:Sgn) (op:Int) (xs:List Tm):Tm:=match g.ops[op.toNat]? with
 | none=>zTm
 | some o=>match o.decls[0]? with
  | none=>zTm
  | some d=>mk6 g o d op xs
section
variable {g:Sgn}
theorem ZpE (hokg:ZbL g) (hg:SgnOk g) {op:Int} {o:Opr} (h0:0<=op) (ho:g.ops[op.toNat]?=some o) (xs:List Tm) (ha:∀ a∈xs,TermOk g a) (hl:xs.length<=1000):Con e0 38 [.agg (Zaf g),.one (.lit (.int .i64 op)),.one (.sl (Zaa xs))] [.agg (Zab (mk6T g op xs)),.one (.lit (.bool (mkT g op xs).isSome))]:=by
 obtain ⟨d,hd,_⟩:=hg.first ho;have e:mk6T g op xs=mk6 g o d op xs:=by simp only [mk6T,ho,hd]
 rw [Zn6 ho hd,e];exact ZkZ hokg hg h0 ho hd xs ha hl
theorem Zrz {op:Int} {xs:List Tm} {t:Tm} (h:mkT g op xs=some t):mk6T g op xs=t:=by
 unfold mkT at h;unfold mk6T
 cases ho:g.ops[op.toNat]? with
 | none=>rw [ho] at h;cases h
 | some o =>
  rw [ho] at h;simp only at h ⊢
  cases hd:o.decls[0]? with
  | none=>rw [hd] at h;cases h
  | some d =>
   rw [hd] at h;simp only at h ⊢;simp only [mk6,h,Option.getD_some]
end
theorem ZpF {e:Env} {f:FuncId} {xs:List D} {P:Tm->Bool->Prop} (h:ConP e f xs [] (fun r pm=>∃ u b,P u b∧ZeJ u b r pm)):ConE e f xs (fun r=>∃ u b,P u b∧r=[.agg (Zab u),.one (.lit (.bool b))]):=by
 refine ⟨h.1,fun w S vs hS hE hG hvs=>(h.2 w S vs hS hE hG (fun x hx=>by cases hx) trivial hvs).mono fun en w' ⟨v,r,pm,h1,⟨u,b,hP,a,cap,hr,hpm⟩,hk,hg,hp,_,ha⟩=>?_⟩;subst hr hpm;refine ⟨v,_,h1,⟨u,b,hP,rfl⟩,hk.up fun c q=>q.elim id fun ⟨x,hx,_⟩=>(by cases hx),hg,?_⟩;obtain ⟨q1,q2⟩:=hp _ Tas;have q1:ZaH w' _ _ 4 (Zaa u.args) (.slice a (Zaa u.args).length cap):=q1;obtain ⟨us,hv,hr⟩:=ha;refine ⟨us,hv,?_⟩
 match us,hr with
 | [v1,v2],⟨⟨vs1,e1,hr1⟩,e2,_⟩ =>
  refine ⟨⟨vs1,e1,?_⟩,e2,trivial⟩
  match vs1,hr1 with
  | [u0,u1,u2,u3],hr1 =>
   simp only [topC,Zad,and_true] at hr1;obtain ⟨k0,k1,k2,k3⟩:=hr1;have hec:Zab u=[.lit (.int .i64 u.op),.lit (.string u.name),.lit (.int .i64 u.sort),.sl (Zaa u.args)]:=by cases u;simp only [Zab,Tm.op,Tm.name,Tm.sort,Tm.args]
   rw [hec];simp only [Zad,and_true];refine ⟨k0,k1,k2,?_⟩;simp only [Rep] at k3;subst k3;refine Rep.mono q1.rep fun c hc=>?_;rcases hc with ⟨hc,_⟩ | hc
   ·rcases hc with hc | ⟨x,hx,_⟩ | hc
    ·exact .inl hc
    ·cases hx
    ·exact .inr hc
   ·rcases q2 c hc with ⟨x,hx,_⟩ | hc'
    ·cases hx
    ·refine .inr ⟨hc',?_⟩;rcases q1.2.2 with ⟨_,a',e'⟩ | ⟨g,cap',cur,e',hc0,hg',_⟩
     ·injection e' with _ _ e3
      rw [e3] at hc
      cases a <;> simp [vblk] at hc
     ·rw [e'] at hc;simp only [vblk] at hc;split at hc
      ·cases hc
      ·injection hc with hc
       subst hc;exact hg'
section
variable {g:Sgn}
theorem ZAv:∀ op nm so,nilC op nm so=[.lit (.int .i64 op),.lit (.string nm),.lit (.int .i64 so),.lit (.slice none 0 0)]:=fun _ _ _=>rfl
def RCan (g:Sgn) (u:Tm) (b:Bool):Prop:=b=true->TermOk g u
def Zi4 (g:Sgn) (r:List D) (pm:List Bk):Prop:=∃ u b,RCan g u b∧ZeJ u b r pm
def ZAP (g:Sgn) (r:List D):Prop:=∃ u b,RCan g u b∧r=[.agg (Zab u),.one (.lit (.bool b))]
theorem Zox (hokg:ZbL g) (hg:SgnOk g) {op:Int} {o:Opr} (h0:0<=op) (ho:g.ops[op.toNat]?=some o) (xs:List Tm) (ha:∀ a∈xs,TermOk g a) (hl:xs.length<=1000):ConP e0 38 [.agg (Zaf g),.one (.lit (.int .i64 op)),.one (.sl (Zaa xs))] [] (ZeJ (mk6T g op xs) (mkT g op xs).isSome):=by
 obtain ⟨d,hd,_⟩:=hg.first ho;have e:mk6T g op xs=mk6 g o d op xs:=by simp only [mk6T,ho,hd]
 rw [Zn6 ho hd,e];exact Zou hokg hg h0 ho hd xs ha om (Zrj (o:=o) (op:=op) ha hl)
theorem Zk7 (hok:ZbL g) (hg:SgnOk g):∀ (n:Nat) {t:Tm},sizeTm t < n->okTm t->sizeTm t<=1000->ConP e0 35 [.agg (Zaf g),.agg (Zab t)] [] (Zi4 g)
 | 0,t,hn,_,_=>om
 | n+1,t,hn,ht,hb=>by
  have ih:∀ a∈t.args,ConE e0 35 [.agg (Zaf g),.agg (Zab a)] (ZAP g):=fun a ha=>by
   have h1:=Zbd ha;have h2:=ZaD t;exact ZpF (Zk7 hok hg n om (okA ht ha) om)
  rw [Zaf] at ih ⊢;have cN:=ZkN hg ht (Tbe hb (by decide));have cV:=Zsk t.name t.sort;rw [Zaf] at cN;by_cases hv:t.op=-1
  ·refine gIP (ts:=[.cell 4 34,.slot 5]) [] 576496211553424383 Tryz.func35 ?_;refine fN 2 (ai @hv @tmz) ?_;refine gB ?_;refine fC @tmz (cV) ?_;refine fC @tmz (cN) ?_;refine fR (ai @ZAv @tmz) ?_;refine pN 1000 34 4 ?_;refine (have F:=e0P;gTP (R:=Zi4 g) [1000] ⟨.mk (-1) t.name t.sort [],ZdL g t,fun h=>?_,none,0,rfl,rfl⟩);have hN:=ZkM.1 h;rcases hN with hN | ⟨o,d,hA⟩
   ·have e:t=.mk (-1) t.name t.sort []:=by cases t;simp only [Tm.op,Tm.args,ZcM,Tm.name,Tm.sort] at hv hN ⊢;rw [hv,hN.2.2.2.2]
    rw [<- e];exact ⟨by rw [ZaD,hN.2.2.2.2];simp [sizeTms],by rw [Zhm,hN.2.2.2.2];simp [depthTms],ZaP.2 ⟨.inl hN,(fun a ha=>(by rw [hN.2.2.2.2] at ha;cases ha)),.inl hv⟩⟩
   ·have:=hA.lo;omega
  have cI:=Zdr t.op 0 ((g.ops.length:Int) - 1);have wl:IntKind.i64.wrap ((g.ops.length:Int) - 1)=(g.ops.length:Int) - 1:=IntWalk.i64_in _ (by have:=hg.len;omega);refine gIP (ts:=[.cell 4 34,.slot 5]) [] 576496211553424383 Tryz.func35 ?_;refine fN 3 (ai @hv @tmz) ?_;refine gM (ι:=Bool) [38] [] (fun b=>[(38,A.d (.one (.lit (.bool b))))]) (fun b=>[]) (fun b=>b=false->0<=t.op∧t.op < (g.ops.length:Int)) ?_ (fun b hb=>Exists.intro _ (ai (Wk.refl _) ?_))
  ·refine gB ?_;refine fC (aj3 @hv @wl @tmz) (cI) ?_;by_cases q:0<=t.op∧t.op<=(g.ops.length:Int) - 1
   ·have qd:decide (0<=t.op∧t.op<=(g.ops.length:Int) - 1)=true:=decide_eq_true q;rcases Bool.eq_false_or_eq_true (t.name.toList==(⟨#[]⟩:ByteArray).toList) with e | e
    ·by_cases q0:t.sort=0
     ·refine fR (aj4 @qd @e @q0 @tmz) ?_;have F:=@tmz;refine gG ?_;exact ⟨false,fun _=>⟨q.1,om⟩,gw,gw⟩
     ·refine fR (aj4 @qd @e @q0 @tmz) ?_;have F:=@tmz;refine gG ?_;exact ⟨true,(by simp),gw,gw⟩
    ·refine fR (aj3 @qd @e @tmz) ?_;have F:=@tmz;refine gG ?_;exact ⟨true,(by simp),gw,gw⟩
   ·have qd:decide (0<=t.op∧t.op<=(g.ops.length:Int) - 1)=false:=decide_eq_false q;refine fR (ai @qd @tmz) ?_;have F:=@tmz;refine gG ?_;exact ⟨true,(by simp),gw,gw⟩
  cases b with
  | true =>
   refine fN 4 @tmz ?_;refine gB ?_;have F:=tmz;refine gX ?_;clear F;refine fR @tmz ?_;refine pN 1000 34 4 ?_;exact (have F:=e0P;gTP (R:=Zi4 g) [1000] ⟨zTm,false,(by simp [RCan]),none,0,rfl,rfl⟩)
  | false =>
  obtain ⟨hlo,hhi⟩:=hb rfl;have hal:t.args.length<=1000:=by have:=Zbe t.args;have:=ZaD t;omega
  obtain ⟨o,ho⟩:∃ o,g.ops[t.op.toNat]?=some o:=⟨_,Taa om⟩;clear cN cV cI;refine fG @tmz ?_;have F:=ai @Zct @tmz;refine gL (ι:=List Tm) [5,6,7,8,9,45,59] [6] (fun us=>[(7,A.d (.one (.lit (.int .i64 us.length)))),(6,.buf 6)]) (fun us=>[(6,.buf none 34 4 (Zaa us))]) (fun us=>us.length<=t.args.length∧∀ u∈us,TermOk g u) (fun us=>t.args.length - us.length) ([]) (⟨Taj _,fun u hu=>(by cases hu)⟩) (fun us hus=>?_);clear F
  obtain ⟨hul,huo⟩:=hus;by_cases hlt:us.length < t.args.length
  ·have q1:=lT us.length t.args.length;have wi:=Zao (k:=us.length) om;have hm:(us.length+1<=maxApp)=True:=eq_true (by unfold maxApp;omega);have hg1:t.args[us.length]?=some t.args[us.length]:=Taa hlt;have cI:=ih t.args[us.length] (List.getElem_mem hlt);generalize t.args[us.length]=a at hg1 cI;refine fN 9 (ai @q1 @tmz) ?_;refine gF0 ?_;refine gLa 8 9 ?_;refine gLa 9 11 ?_;have F:=tmz;refine gNa 10 [0,1,2,3,4,5] [6,7,8,9] ?_;clear F
   have F:=ai hg1 tmz;refine gNd ?_;clear F;have F:=tmz;refine gNE cI ?_;clear F;rintro r ⟨u,b,hub,rfl⟩;have F:=tmz;refine gNr ?_;clear F;refine fR @tmz ?_
   cases b with
   | false =>
    refine fN 11 @tmz ?_;refine gB ?_;have F:=tmz;refine gX ?_;clear F;refine fR @tmz ?_;refine pN 1000 34 4 ?_;exact (have F:=e0P;gTP (R:=Zi4 g) [1000] ⟨zTm,false,(by simp [RCan]),none,0,rfl,rfl⟩)
   | true =>
    have hl:(us++[u]).length=us.length+1:=by simp
    have hsn:Zaa us++[Zab u]=Zaa (us++[u]):=by rw [Zbz,Zcc]
    have F:=aj5 @wi @hl @hm @hsn @tmz;refine gG ?_;exact ⟨us++[u],⟨om,fun v hv=>(Tbh.1 hv).elim (huo v) fun hv=>by rw [Tbj.1 hv];exact hub rfl⟩,gw,gw,om⟩
  ·have q1:=lF us.length t.args.length;have cM:=Zox hok hg hlo ho us huo om;rw [Zaf] at cM;refine fN 13 (ai @q1 @tmz) ?_;refine pS 6 fun a1 k1=>?_;refine pD 6 [6] [] ?_;refine gB ?_;have F:=@tmz;refine gCP [] [1000] (cM) ?_;clear F;rintro r pm ⟨a2,k2,rfl,rfl⟩;simp only [setA,retA,zipM,Taf,Tah];refine fR @e0P ?_;exact (have F:=e0P;gTP (R:=Zi4 g) [1000] ⟨mk6T g t.op us,(mkT g t.op us).isSome,fun h=>by
    obtain ⟨v,hv⟩:=Option.isSome_iff_exists.1 h;rw [Zrz hv];exact Zn8 hg hlo huo hv,a2,k2,rfl,rfl⟩)
end
def ZAQ (e:Env) (a:Option Addr) (n:Nat):Prop:=0 < n->∃ (g off:Nat) (f:Nat->Nat),a=some ⟨g,off,none⟩∧(∀ j,f j < 256)∧∀ w,e.G w->∀ j,j < n->w.cell? ⟨g,off+j,none⟩=some (.int .u8 (f j))
theorem Zoy {P:Program} {w:World} {t:TypeId} {n g off len cap:Nat} {k:IntKind} {j:Int} (h:Zbf P t=some n) (hj:0<=j) (hl:j.toNat < len) :
  (Instr.indexAt t (.slice (some ⟨g,off,none⟩) len cap) (.int k j)).run P w=.ok (.pointer (some ⟨g,off+j.toNat * n,none⟩)) w:=by
 unfold Zbf at h;split at h
 ·rename_i el hu;simp only [Tav] at h;obtain ⟨i,hi,hn⟩:=h;have hlt:j < (len:Int):=om;simp [Instr.indexAt,asIntOf,underlying,hu,sizeOf,typeInfo,hi,hn,Addr.add_at,hj,hlt,Result.andThen]
 ·cases h
section
variable {e:Env} {U:Nat->Prop} {base:Nat} {S0:Nat->Prop} {σ:St} {o:Oper} {K:St->Prop}
theorem Zwa {t:TypeId} {x i:Operand} (ho:o.op=.indexAddr t x i) {a:Option Addr} {g off n cap:Nat} {j:Int} (ha:a=some ⟨g,off,none⟩) (hx:evA σ.s x=.d (.one (.lit (.slice a n cap)))) (hi:evA σ.s i=.d (.one (.lit (.int .i64 j)))) (ht:Zbf e.P t=some 1) (h0:0<=j) (hl:j.toNat < n):ZaM e U base S0 σ.m o (evA σ.s) (.d (.one (.lit (.pointer (some ⟨g,off+j.toNat,none⟩))))):=by
 subst ha;refine Zav fun w S L ρv hC hr=>?_;have hx':=hr x (by simp [ho,Op.operands]);have hi':=hr i (by simp [ho,Op.operands]);rw [hx] at hx';rw [hi] at hi';have hx':=ZaO hx';have hi':=ZaO hi';refine ⟨.pointer (some ⟨g,off+j.toNat,none⟩),?_,by simp [ARel,DRel,Rep]⟩;have:=Zoy (w:=w) (g:=g) (off:=off) (len:=n) (cap:=cap) (k:=.i64) ht h0 hl;rw [Nat.mul_one] at this;simp [execOp,ho,hi',hx',this,Result.andThen]
theorem Zwb {t:TypeId} {x:Operand} (ho:o.op=.load t x) {g off k:Nat} (hx:evA σ.s x=.d (.one (.lit (.pointer (some ⟨g,off,none⟩))))) (hk:ZaX e.P t=some .one) (hb:∀ w,e.G w->w.cell? ⟨g,off,none⟩=some (.int .u8 k)):ZaM e U base S0 σ.m o (evA σ.s) (.d (.one (.lit (.int .u8 k)))):=by
 refine Zav fun w S L ρv hC hr=>?_;have hx':=hr x (by simp [ho,Op.operands]);rw [hx] at hx';have hx':=ZaO hx';obtain ⟨v,h1,h2⟩:=ZiK (P:=e.P) (w:=w) (S:=S) (Bm:=L) (cs:=[.lit (.int .u8 k)]) (α:=.d (.one (.lit (.int .u8 k)))) hk (by simp only [Zae,Rep];exact ⟨⟨_,hb w hC.g,rfl⟩,trivial⟩) rfl;exact ⟨v,by simp [execOp,ho,hx',h1,Result.andThen],h2⟩
end
section
variable {e:Env} {K:St->Prop} {ds:List (Option Nat)} {os:List Oper} {d t t' ty ty' d' q:Nat} {p p':String} {ed ed':Array Edge} {x i:Operand} {s:List (Nat × A)} {m:List (Nat × Bk)}
theorem ZfF {o:Oper} {α:A} (hg:o.guard=none) (hal:isAl o=false) (hd:o.dst=some d) (h:∀ (U:Nat->Prop) (base:Nat) (S0:Nat->Prop),ZaM e U base S0 m o (evA s) α) (hK:Runs e ds (q - 1) os ⟨(d,α)::s,m⟩ K):Runs e ds q (o::os) ⟨s,m⟩ K:=by
 cases q with
 | zero =>
  simp only [Runs] at hK ⊢;refine ZbQ hg fun he U w0 S0 nt a w Q hdn ⟨S,L,h1⟩=>Oper.wp_mono (fun a' w' hs=>⟨⟨(d,α)::s,m⟩,hK,?_⟩) (Zdo h1 hdn (h U w0.heap.size S0))
  rwa [hd,setA] at hs
 | succ n=>exact Zji hg hal fun he=>⟨α,by rw [hd,setA];exact hK,h⟩
theorem gBy {a:Option Addr} {g off n cap:Nat} {f:Nat->Nat} {j:Int} (hb:∀ w,e.G w->∀ j,j < n->w.cell? ⟨g,off+j,none⟩=some (.int .u8 (f j))) (ha:a=some ⟨g,off,none⟩) (h0:0<=j) (hl:j.toNat < n) (hK:Runs e ds (q - 1 - 1) os ⟨(d',.d (.one (.lit (.int .u8 (f j.toNat)))))::(d,.d (.one (.lit (.pointer (some ⟨g,off+j.toNat,none⟩)))))::s,m⟩ K)
  (hx:evA s x=.d (.one (.lit (.slice a n cap))):=by exact sfx) (hi:evA s i=.d (.one (.lit (.int .i64 j))):=by exact sfx) (ht:Zbf e.P t=some 1:=by simp only [pz,↓reduceIte,Nat.reduceEqDiff,Nat.reduceAdd,Nat.reduceSub,Nat.reduceMul,Nat.reduceLeDiff,Nat.reduceBEq,Tam,decide_true,decide_false,Int.reduceLE,Int.reduceToNat,Int.reduceLT,Int.reduceEq,eq_self,Nat.reduceShiftRight,Nat.reduceAnd,Nat.reduceBneDiff,F]) (hk:ZaX e.P t'=some .one:=by simp only [pz,↓reduceIte,Nat.reduceEqDiff,Nat.reduceAdd,Nat.reduceSub,Nat.reduceMul,Nat.reduceLeDiff,Nat.reduceBEq,Tam,decide_true,decide_false,Int.reduceLE,Int.reduceToNat,Int.reduceLT,Int.reduceEq,eq_self,Nat.reduceShiftRight,Nat.reduceAnd,Nat.reduceBneDiff,F]) :
  Runs e ds q (⟨some d,.indexAddr t x i,ty,p,ed,none⟩::⟨some d',.load t' (.tmp d),ty',p',ed',none⟩::os) ⟨s,m⟩ K :=
 ZfF rfl rfl rfl (fun U base S0=>Zwa (σ:=⟨s,m⟩) rfl ha hx hi ht h0 hl) (ZfF rfl rfl rfl (fun U base S0=>Zwb (σ:=⟨_,m⟩) rfl (by simp [evA,gs]) hk fun w hw=>hb w hw j.toNat hl) hK)
end
structure Src where
 E2:Nat->Prop
 G2:World->Prop
 a:Option Addr
 n:Nat
 cap:Nat
noncomputable def eB (x:Src):Env:=e0.plus x.E2 x.G2
structure Src.Ok (x:Src):Prop where
 fit:Fits e0 x.E2 x.G2
 byt:ZAQ (eB x) x.a x.n
 len:x.n<=1048576
def curC (x:Src) (i h:Int):List C:=[.lit (.slice x.a x.n x.cap),.lit (.int .i64 i),.lit (.int .i64 h)]
abbrev curD (b:Nat):D:=.one (.lit (.pointer (some ⟨b,0,none⟩)))
abbrev ZhJ (x:Src):D:=.one (.lit (.slice x.a x.n x.cap))
theorem Zk8:∀ x i h,curC x i h=[.lit (.slice x.a x.n x.cap),.lit (.int .i64 i),.lit (.int .i64 h)]:=fun _ _ _=>rfl
theorem eBP:∀ x,(eB x).P=Tryz.prog:=fun _=>rfl
theorem Src.Ok.ok {x:Src} (h:x.Ok):(eB x).Ok:=h.fit.ok ZiQ
theorem Zwc (a:Int):∃ k:Nat,k < 256∧bits .and .i64 a 255=k:=by
 have h:((BitVec.ofInt IntKind.i64.bits a) &&& (BitVec.ofInt IntKind.i64.bits 255)).toNat < 256:=by
  rw [BitVec.toNat_and];show (BitVec.ofInt 64 a).toNat &&& (BitVec.ofInt 64 255).toNat < 256;exact Nat.and_lt_two_pow (n:=8) _ (by decide)
 refine ⟨_,h,?_⟩;unfold bits;show IntKind.i64.wrap _=_;generalize ((BitVec.ofInt IntKind.i64.bits a) &&& (BitVec.ofInt IntKind.i64.bits 255)).toNat=k at h ⊢;exact Zhf om om
section
variable {x:Src} {b:Nat}
theorem tmB:type_of% (aj3 @tmz @eBP @Zk8):=aj3 @tmz @eBP @Zk8
def RCur (x:Src) (r:List D) (pm:List Bk):Prop:=∃ (b:Nat) (h:Int),r=[curD b]∧pm=[.var (some b) (curC x 0 h)]
theorem Zoz (hx:x.Ok):ConP (eB x) 13 [ZhJ x] [] (RCur x):=by
 have he:=hx.ok;have hl:=hx.len;refine gIP (ts:=[.slot 2]) [] 32797 Tryz.func13 ?_;refine fG @tmB ?_;have F:=@tmB;refine gL (ι:=Nat × Int) [3,4,15] [] (fun y=>[(4,A.d (.one (.lit (.int .i64 y.1)))),(3,.d (.one (.lit (.int .i64 y.2))))]) (fun y=>[]) (fun y=>y.1<=x.n) (fun y=>x.n - y.1) ((0,IntKind.i64.wrap (124929+(x.n:Int)))) (Taj _) (fun y hy=>?_);clear F;obtain ⟨i,h⟩:=y;dsimp only at hy ⊢;by_cases h1:i < x.n
 ·have q1:=lT i x.n;have wi:=Zao (k:=i) om;by_cases h2:i < 4000
  ·have q2:=lT i 4000;obtain ⟨g,off,f,ha,hf,hb⟩:=hx.byt om;refine fN 5 (aj3 @q1 @q2 @tmB) ?_;refine gB ?_;have F:=ai @ha @tmB;refine gP 4 ?_;clear F;have F:=tmB;refine gBy (cap:=x.cap) (j:=(i:Int)) hb ha om om ?_;clear F;refine fR @tmB ?_;have F:=ai @wi @tmB;refine gG ?_;exact ⟨(i+1,bits .and .i64 (IntKind.i64.wrap (IntKind.i64.wrap (IntKind.i64.wrap (h * 131)+IntKind.i64.wrap ((f (i:Int).toNat:Nat):Int))+7)) 1073741823),h1,gw,gw,om⟩
  ·have q2:=lF i 4000;refine fG (aj3 @q1 @q2 @tmB) ?_;refine pV 31 fun b _=>?_;exact (have F:=tmB;gTP (R:=RCur x) [31] ⟨b,h,rfl,rfl⟩)
 ·have q1:=lF i x.n;refine fG (ai @q1 @tmB) ?_;refine pV 31 fun b _=>?_;exact (have F:=tmB;gTP (R:=RCur x) [31] ⟨b,h,rfl,rfl⟩)
def Zsn (x:Src) (b:Nat) (r:List D) (pm:List Bk):Prop:=(∃ k:Nat,k < 256∧r=[.one (.lit (.int .i64 k))])∧∃ i h:Int,0<=i∧pm=[.var (some b) (curC x i h)]
theorem Zwd (hx:x.Ok) {i h:Int} (hi:0<=i):ConP (eB x) 66 [curD b] [.var (some b) (curC x i h)] (Zsn x b):=by
 have he:=hx.ok;have hl:=hx.len;rw [curC];refine gIP (ts:=[.slot 2]) [1000] 17179869197 Tryz.func66 ?_;refine fN 3 @tmB ?_;generalize IntKind.i64.wrap (IntKind.i64.wrap (h * 6364136223846793005)+1442695040888963407)=h;obtain ⟨k1,hk1,e1⟩:=Zwc (bits .xor .i64 (h.fdiv (2 ^ min 33 64)) (h.fdiv (2 ^ min 45 64)));rw [e1];by_cases h1:i < x.n
 ·have q1:(i < (x.n:Int))=True:=eq_true h1;have wi:IntKind.i64.wrap (i+1)=i+1:=IntWalk.i64_in _ om;obtain ⟨g,off,f,ha,hf,hb⟩:=hx.byt om;refine fN 4 (ai @q1 @tmB) ?_;refine gB ?_;have F:=@tmB;refine gP 9 ?_;clear F;have F:=tmB;refine gBy (cap:=x.cap) (j:=i) hb ha hi om ?_;clear F;refine fR @tmB ?_;obtain ⟨k2,hk2,e2⟩:=Zwc (IntKind.i64.wrap ((k1:Int)+IntKind.i64.wrap ((f i.toNat:Nat):Int)));rw [e2];refine fG (ai @wi @tmB) ?_
  exact (have F:=tmB;gTP (R:=Zsn x b) [1000] ⟨⟨k2,hk2,rfl⟩,i+1,h,om,rfl⟩)
 ·have q1:(i < (x.n:Int))=False:=eq_false h1;refine fG (ai @q1 @tmB) ?_;exact (have F:=tmB;gTP (R:=Zsn x b) [1000] ⟨⟨k1,hk1,rfl⟩,i,h,hi,rfl⟩)
def curG (x:Src) (b:Nat) (w:World):Prop:=¬ (eB x).E b∧∃ i h:Int,0<=i∧(∃ arr ty,w.heap[b]?=some (.cells arr ty (0,0))∧arr.size=3)∧Zae w (fun _=>False) b 0 (curC x i h)
noncomputable def eC (x:Src) (b:Nat):Env:=(eB x).plus (fun c=>c=b) (curG x b)
theorem eCP:∀ x b,(eC x b).P=Tryz.prog:=fun _ _=>rfl
theorem ZeM {w w':World} {S S':Nat->Prop} {b:Nat} {x:Src} {i h:Int} (hc:∀ o,w'.cell? ⟨b,o,none⟩=w.cell? ⟨b,o,none⟩) (hr:Zae w S b 0 (curC x i h)):Zae w' S' b 0 (curC x i h):=by
 simp only [curC,Zae,Rep,hc] at hr ⊢;exact hr
theorem Zek:Fits (eB x) (fun c=>c=b) (curG x b):=⟨fun w w' hz hE ⟨h1,i,h,h0,h2,h3⟩=>⟨h1,i,h,h0,by rw [hE b rfl];exact h2,ZeM (fun o=>Za6 (hE b rfl) o) h3⟩,fun w h c hc=>hc ▸ h.1⟩
theorem Src.Ok.okC (h:x.Ok):(eC x b).Ok:=Zek.ok h.ok
theorem tmC:type_of% (aj3 @tmz @eCP @Zk8):=aj3 @tmz @eCP @Zk8
section
variable {f:FuncId} {args r:List D} {R:List D->Prop}
theorem Con.bt (hx:x.Ok) (h:Con e0 f args r):Con (eB x) f args r:=Con.up hx.fit h
theorem Con.cu (hx:x.Ok) (h:Con e0 f args r):Con (eC x b) f args r:=Con.up Zek (Con.up hx.fit h)
theorem ConE.cu (hx:x.Ok) (h:ConE e0 f args R):ConE (eC x b) f args R:=ConE.up Zek (ConE.up hx.fit h)
theorem ConP.cu (hx:x.Ok) {pm:List Bk} {R:List D->List Bk->Prop} (h:ConP e0 f args pm R):ConP (eC x b) f args pm R:=ConP.up Zek (ConP.up hx.fit h)
theorem ConR.cu (hx:x.Ok) {ty sz:Nat} {rows:List (List C)} (h:ConR e0 f args ty sz rows):ConR (eC x b) f args ty sz rows:=ConR.up Zek (ConR.up hx.fit h)
theorem Con.toE {e:Env} (h:Con e f args r):ConE e f args (fun y=>y=r):=⟨h.1,fun w S vs hS hE hG hvs=>(h.2 w S vs hS hE hG hvs).mono fun en w' ⟨v,h1,h2⟩=>⟨v,r,h1,rfl,h2⟩⟩
theorem ZxD (h:∀ i h:Int,0<=i->ConP (eB x) f args [.var (some b) (curC x i h)] (fun r pm=>R r∧∃ i h:Int,0<=i∧pm=[.var (some b) (curC x i h)])):ConE (eC x b) f args R:=by
 refine ⟨(h 0 0 (by decide)).1,fun w S vs hS hE hG hvs=>?_⟩;obtain ⟨hnE,i,hh,hi,⟨arr,ty,hb,hsz⟩,hr⟩:=hG.2;have hbl:b < w.heap.size:=(Tbl.1 hb).1;refine ((h i hh hi).2 w S vs (fun c hc=>⟨(hS c hc).1,fun q=>(hS c hc).2 (.inl q)⟩) (fun c hc=>hE c (.inl hc)) hG.1 (fun y hy=>?_) ⟨fun y hy=>(by cases hy),trivial⟩ hvs).mono fun en w' ⟨v,r,pm,h1,⟨hR,i',h',hi',hpm⟩,hk,hg,hp,_,ha⟩=>?_
 ·obtain rfl:=Tbj.1 hy;exact ⟨⟨hbl,fun q=>(hS b q).2 (.inr rfl),⟨arr,ty,hb,by rw [hsz];rfl⟩,ZeM (fun _=>rfl) hr⟩,fun g hg=>by have hg:b=g:=hg;subst hg;exact hnE⟩
 ·subst hpm;obtain ⟨hp1,hp2⟩:=hp _ (Tbj.2 rfl);obtain ⟨q1,q2,⟨arr',ty',q3,q4⟩,q5⟩:=hp1;have hpb:∀ (cs:List C) (c:Nat),ZaU [.var (some b) cs] c ↔ c=b:=fun cs c=>⟨fun ⟨y,hy,hg⟩=>by obtain rfl:=Tbj.1 hy;exact Eq.symm hg,fun q=>⟨_,Tbj.2 rfl,Eq.symm q⟩⟩;refine ⟨v,r,h1,hR,hk.up fun c q=>q.elim .inl fun q=>.inr ((hpb _ c).1 q),⟨hg,hnE,i',h',hi',⟨arr',ty',q3,by rw [q4];rfl⟩,ZeM (fun _=>rfl) q5⟩,ha.keep (Tai _) (fun _ _ _=>rfl) fun c hc=>?_⟩
  rcases hc.1 with q | q | q
  ·exact .inl q
  ·exact absurd ((hpb _ c).2 ((hpb _ c).1 q)) hc.2
  ·exact .inr q
end
def RNat (n:Nat) (r:List D):Prop:=∃ k:Nat,k < n∧r=[.one (.lit (.int .i64 k))]
theorem Zwe (hx:x.Ok):ConE (eC x b) 66 [curD b] (RNat 256):=ZxD fun i h hi=>Zwd hx hi
theorem gTE {X:Prop} {P:Program} {ts:List RS} {R:List D->Prop} {σ σ1:St} {r:List D} (ks:List Nat) (hR:R r) (hx:Zm1 P ts R .ret σ->X:=by exact fun h=>Zen h) (hf:frzs ks σ=σ1:=by exact sfx) (hr:resD P σ1 ts=some r:=by exact sfx):X:=hx (ZyZ ks r hR hf (ZfW hr))
theorem Zb1 (hx:x.Ok) {n:Nat} (h1:1<=n) (h2:n<=256):ConE (eC x b) 34 [curD b,.one (.lit (.int .i64 n))] (RNat n):=by
 have he:=hx.okC (b:=b);have q1:((n:Int)<=0)=False:=eq_false om;have q2:((n:Int)<=256)=True:=eq_true om;have q3:((n:Int)=0)=False:=eq_false om;refine gIE (ts:=[.slot 4]) 5619 Tryz.func34 ?_;refine fN 4 (aj3 @q1 @q2 @tmC) ?_;refine gB ?_;have F:=@tmC;refine gCE (Zwe hx) ?_;clear F;rintro r ⟨k,hk,rfl⟩;refine fR (ai @q3 @tmC) ?_;have e:(k:Int).tmod n=((k % n:Nat):Int):=rfl;rw [e];have hR:RNat n [.one (.lit (.int .i64 ((k % n:Nat):Int)))]:=⟨_,Nat.mod_lt _ h1,rfl⟩
 exact (have F:=tmC;gTE [] hR)
def Zzm (r:List D):Prop:=∃ y:Bool,r=[.one (.lit (.bool y))]
theorem ZbG (hx:x.Ok) {n:Nat} (h1:1<=n) (h2:n<=256):ConE (eC x b) 18 [curD b,.one (.lit (.int .i64 n))] Zzm:=by
 have he:=hx.okC (b:=b);refine gIE (ts:=[.slot 4]) 19 Tryz.func18 ?_;refine fN 1 @tmC ?_;refine gB ?_;have F:=@tmC;refine gCE (Zb1 hx h1 h2) ?_;clear F;rintro r ⟨k,hk,rfl⟩;refine fR @tmC ?_;exact (have F:=tmC;gTE (R:=Zzm) [] ⟨_,rfl⟩)
def ROf (l:List ByteArray) (r:List D):Prop:=∃ s∈l,r=[.one (.lit (.string s))]
theorem Zwf (hx:x.Ok) {l:List ByteArray} (h1:1<=l.length) (h2:l.length<=256):ConE (eC x b) 96 [curD b,.one (.sl (l.map ZbB))] (ROf l):=by
 have he:=hx.okC (b:=b);refine gIE (ts:=[.slot 4]) 19 Tryz.func96 ?_;refine fN 1 @tmC ?_;refine gB ?_;have F:=@tmC;refine gCE (Zb1 hx h1 h2) ?_;clear F;rintro r ⟨k,hk,rfl⟩;have hg:(l.map ZbB)[k]?=some (ZbB l[k]):=by rw [Tba,Taa hk];rfl
 refine fR (ai @hg @tmC) ?_;exact (have F:=tmC;gTE (R:=ROf l) [] ⟨l[k],List.getElem_mem hk,rfl⟩)
theorem gXc {K:St->Prop} {ds:List (Option Nat)} {os:List Oper} {d t ty:Nat} {p:String} {ed:Array Edge} {parts:List (Nat × Operand)} {s:List (Nat × A)} {m:List (Nat × Bk)} {cs cs':List C} (hK:Runs (eC x b) ds 0 os ⟨(d,.d (.agg cs'))::s,m⟩ K)
  (hz:Zdn e0.P t=some cs:=by exact sny) (hst:Zbo e0.P t=true:=by exact sny) (hok:cs.all Zay=true:=by first | rfl | exact sny) (hf:ZcP e0.P t cs (parts.map fun p=>(p.1,evA s p.2))=some cs':=by exact sfv):Runs (eC x b) ds 0 (⟨some d,.build t parts.toArray,ty,p,ed,none⟩::os) ⟨s,m⟩ K:=gX hK hz hst hok hf
end
section
variable {e:Env} {σ:St} {o:Oper} {K:St->Prop}
theorem ZxE {t:TypeId} {n d ety sz by':Nat} {parts:Array (Nat × Operand)} {rows:List (List C)} (ho:o.op=.buildSlice t n parts) (hds:o.dst=some d) (hb:ZaY e.P t=some (ety,sz,by')) (hn:parts.size=n∧n * sz<=16777216) (h0n:0 < n) (hp:ZdE sz 0 (parts.toList.map fun p=>(p.1,evA σ.s p.2))=some rows)
  (hK:K ⟨(d,.buf d)::Zak d σ.s,(d,.buf none ety sz rows)::remM d σ.m⟩):Zbr e o σ K:=by
 intro he U w0 S0 nt a w Q hd ⟨S,L,h1⟩;obtain ⟨i,z,hu,hi,hz,hsz,hby,hzs,hs0,_⟩:=Zb6 hb;obtain ⟨q1,q2,q3,q4,q5⟩:=Zgv (w:=w) (S:=S) (L:=L) (vs:=parts.toList.map fun p=>a.eval p.2) hp (by simp) (mapv (fun p hp=>h1.eval p.2));simp only [Tay,Array.length_toList,List.map_map] at q1 q3;generalize hvs:(parts.toList.map fun p=>a.eval p.2)=vs at q4 q5;have hvl:vs.length=n:=by rw [<- hvs];simp [hn.1]
 have hparts:(parts.map fun (p:Nat × Operand)=>(p.1,a.eval p.2)).toList=(vs.zipIdx 0).map fun x=>(x.2,x.1):=by
  have:=Zh3 (parts.map fun (p:Nat × Operand)=>(p.1,a.eval p.2)).toList 0 (by simpa [Function.comp_def] using q3);rw [this,<- hvs];simp [Function.comp_def]
 have hbs:(Instr.buildSlice t n (parts.map fun (p:Nat × Operand)=>(p.1,a.eval p.2))).run e.P w=.ok (.slice (some ⟨w.heap.size,0,none⟩) n n) (w.alloc (.cells (vs.flatMap fun v=>v.cells.toList).toArray ety)):=by
  have h0:¬ n * i.size=0:=fun h=>by rw [hsz] at h;rcases Nat.mul_eq_zero.1 h with h | h <;> omega
  have hfill:=Go.Great.fill_whole hs0 vs ((Array.range (n * i.size)).map (z.cells[· % z.cells.size]!)) q4 (by simp [hvl,hsz]);refine run_buildSlice w t ety n _ _ i z hu hi hz (by rw [hsz];omega) h0 ?_;rw [hparts,hsz] at *;exact hfill
 have hlen:(vs.flatMap fun v=>v.cells.toList).length=n * sz:=by rw [q5.len,ZbH q2,q1,hn.1]
 have hcell:∀ j u,(vs.flatMap fun v=>v.cells.toList)[j]?=some u->(w.alloc (.cells (vs.flatMap fun v=>v.cells.toList).toArray ety)).cell? ⟨w.heap.size,0+j,none⟩=some u:=fun j u hj=>by
  rw [Nat.zero_add];exact Zlj rfl (by simpa using hj)
 have hnew:=heap_alloc_new w (.cells (vs.flatMap fun v=>v.cells.toList).toArray ety);have hb0:Below w.heap.size w (w.alloc (.cells (vs.flatMap fun v=>v.cells.toList).toArray ety)):=ZdD w _;have hzW:(w.alloc (.cells (vs.flatMap fun v=>v.cells.toList).toArray ety)).heap.size=w.heap.size+1:=by simp
 have hdr:(w.alloc (.cells (vs.flatMap fun v=>v.cells.toList).toArray ety)).drawn=w.drawn:=rfl;generalize hW:w.alloc (.cells (vs.flatMap fun v=>v.cells.toList).toArray ety)=W at hbs hcell hb0 hzW hnew hdr;have hC:=h1.cls;have hg:e.G W:=he.keep _ _ hb0.size (fun b hE=>hb0.block b (Tbd (hC.ein b hE) hC.bsz)) hC.g;have hkp:Kept e.D e.E w.heap.size w W:=Kept.of_below hb0 (fun _=>by rw [hdr];exact Tai _)
 have hrun:(execOp a.eval o).run e.P w=.ok (.value (.slice (some ⟨w.heap.size,0,none⟩) n n)) W:=by
  simp only [execOp,ho,Sem.run_bind];have e1:(parts.map fun x=>match x with | (i,x)=>(i,a.eval x))=parts.map fun (p:Nat × Operand)=>(p.1,a.eval p.2):=rfl;rw [e1,hbs];rfl
 have hS:∀ b,S b->b < w.heap.size:=fun b hb=>(hC.sin b hb).1;have hgv:gives e.P o a.eval w fun v w'=>v=.slice (some ⟨w.heap.size,0,none⟩) n n∧w'=W:=by
  unfold gives;rw [hrun];exact ⟨rfl,rfl⟩
 refine ZcZ hgv fun v w' ⟨e1,e2⟩=>⟨_,hK,?_⟩;subst e1 e2;rw [hds];have hq5:Zad w' S rows.flatten (vs.flatMap fun v=>v.cells.toList):=Zad.keep2 hkp.size (hC.cell hkp) (fun _ h=>h) q5;refine h1.bornE (hd d hds) (τ:=none) (b':=0) (v':=.slice (some ⟨w.heap.size,0,none⟩) n n) (S':=S) (fun _ h=>h) (fun _ h=>.inl h) (fun t=>.inl rfl) (fun k x h=>h) (by simp) (by simp) ⟨hkp.os,hkp.tape,hkp.output,hkp.drawn,hkp.size,fun b hb hE=>hkp.block b hb (fun h=>hE (.inl h))⟩ hg ?_ (fun g hg=>?_) (by simp [ARel])
 ·simp only [Own1,if_true];refine ⟨by simp,hs0,q2,.inr ⟨w.heap.size,n,(vs.flatMap fun v=>v.cells.toList).toArray,by rw [q1,hn.1],h0n,om,fun h=>by have:=hS _ h;omega,hnew,om,?_,by simpa using hlen,Zan.of_flat (Zae.of_vals _ _ 0 hq5 hcell)⟩⟩;have:n * 1<=n * sz:=Nat.mul_le_mul_left n hs0;unfold maxLen;omega
 ·simp only [Zas,if_true,vblk] at hg;rw [if_neg om] at hg;injection hg with hg
  subst hg;exact .inr (Tai _)
end
theorem gBs {e:Env} {K:St->Prop} {ds:List (Option Nat)} {os:List Oper} {d t n ty ety sz by':Nat} {p:String} {ed:Array Edge} {parts:List (Nat × Operand)} {s s2:List (Nat × A)} {m m2:List (Nat × Bk)} {rows:List (List C)} (hK:Runs e ds 0 os ⟨(d,.buf d)::s2,(d,.buf none ety sz rows)::m2⟩ K)
  (hb:ZaY e.P t=some (ety,sz,by'):=by exact sfx) (hp:ZdE sz 0 (parts.map fun p=>(p.1,evA s p.2))=some rows:=by exact sfv) (hs:Zak d s=s2:=by exact snv) (hr:remM d m=m2:=by exact snv) (hn:parts.length=n∧n * sz<=16777216:=by decide) (h0n:0 < n:=by decide):Runs e ds 0 (⟨some d,.buildSlice t n parts.toArray,ty,p,ed,none⟩::os) ⟨s,m⟩ K:=by
 subst hs hr;simp only [Runs] at hK ⊢;exact ZbQ rfl (ZxE (o:=⟨some d,.buildSlice t n parts.toArray,ty,p,ed,none⟩) rfl rfl hb (by simpa using hn) h0n (by simpa using hp) hK)
def ROp (name:ByteArray) (res:Int) (args:List Int) (r:List D) (pm:List Bk):Prop:=∃ (a:Option Addr) (cap:Nat),r=[.agg [.lit (.string name),.lit (.slice a 1 cap),.lit (.bool false),.lit (.bool false),.lit (.int .i64 0)]]∧pm=[.buf (some (a,cap)) 94 2 [[.sl (args.map Zaw),.lit (.int .i64 res)]]]
theorem Zmy (name:ByteArray) (res:Int) (args:List Int):ConP e0 59 [.one (.lit (.string name)),.one (.lit (.int .i64 res)),.clip (args.map Zaw)] [] (ROp name res args):=by
 refine gIP (ts:=[.cell 6 64]) [] 71 Tryz.func59 ?_;refine fN 1 @tmz ?_;refine gB ?_;have F:=@tmz;refine gP 4 ?_;clear F;have F:=tmz;refine gBs ?_;clear F;refine gS 11 fun a cap=>?_;refine fR @tmz ?_;exact (have F:=tmz;gTP (R:=ROp name res args) [11] ⟨a,cap,rfl,rfl⟩)
def ZgZ:List (List C):=[[.lit (.string ⟨#[78]⟩)],[.lit (.string ⟨#[80]⟩)],[.lit (.string ⟨#[76]⟩)]]
def subR (i k:Int):List C:=[.lit (.int .i64 i),.lit (.int .i64 k)]
def ZfG:Bool->List (List C)
 | true=>[subR 1 0,subR 0 2]
 | false=>[subR 1 0]
theorem nmU:ZgZ=[[.lit (.string ⟨#[78]⟩)],[.lit (.string ⟨#[80]⟩)],[.lit (.string ⟨#[76]⟩)]]∧ZfG true=[subR 1 0,subR 0 2]∧ZfG false=[subR 1 0]∧∀ i k,subR i k=[.lit (.int .i64 i),.lit (.int .i64 k)]:=⟨rfl,rfl,rfl,fun _ _=>rfl⟩
def opR (name:ByteArray) (res:Int) (args:List Int):List C:=[.lit (.string name),.sl [[.sl (args.map Zaw),.lit (.int .i64 res)]],.lit (.bool false),.lit (.bool false),.lit (.int .i64 0)]
theorem Zk9:∀ n r l,opR n r l=[.lit (.string n),.sl [[.sl (l.map Zaw),.lit (.int .i64 r)]],.lit (.bool false),.lit (.bool false),.lit (.int .i64 0)]:=fun _ _ _=>rfl
def Zdc (args:List Int) (res:Int):List C:=[.sl (args.map Zaw),.lit (.int .i64 res)]
def gOp (u:Bool):List C:=[.lit (.string ⟨#[103]⟩),.sl (Zdc [0] 1::if u then [Zdc [1] 1] else []),.lit (.bool false),.lit (.bool false),.lit (.int .i64 0)]
def fRf (z fa fc fu:Bool):List C:=[.lit (.string ⟨#[102]⟩),.sl (if z then [Zdc [2,2] 2,Zdc [1,1] 1] else [Zdc [0,2] 2]),.lit (.bool fa),.lit (.bool fc),.lit (.int .i64 (if fu then 3 else 0))]
theorem opU:(∀ z fa fc fu,fRf z fa fc fu=[.lit (.string ⟨#[102]⟩),.sl (if z then [Zdc [2,2] 2,Zdc [1,1] 1] else [Zdc [0,2] 2]),.lit (.bool fa),.lit (.bool fc),.lit (.int .i64 (if fu then 3 else 0))])∧(∀ u,gOp u=[.lit (.string ⟨#[103]⟩),.sl (Zdc [0] 1::if u then [Zdc [1] 1] else []),.lit (.bool false),.lit (.bool false),.lit (.int .i64 0)])∧∀ args res,Zdc args res=[.sl (args.map Zaw),.lit (.int .i64 res)]:=⟨fun _ _ _ _=>rfl,fun _=>rfl,fun _ _=>rfl⟩
def hR (c:Bool):List C:=[.lit (.string ⟨#[104]⟩),.sl [Zdc [0,0] 0],.lit (.bool false),.lit (.bool c),.lit (.int .i64 0)]
def mR (w:Bool):List C:=[.lit (.string ⟨#[109]⟩),.sl [Zdc [0,0] 0],.lit (.bool true),.lit (.bool true),.lit (.int .i64 (if w then 1 else 0))]
def opsR (z u hc fa fc fu:Bool) (w:Option Bool):List (List C):=[opR ⟨#[97]⟩ 0 [],opR ⟨#[98]⟩ 1 [],opR ⟨#[101]⟩ 2 [],gOp u,hR hc,fRf z fa fc fu]++(match w with
 | none=>[]
 | some w=>[mR w])
theorem opsU:(∀ z u hc fa fc fu,opsR z u hc fa fc fu none=[opR ⟨#[97]⟩ 0 [],opR ⟨#[98]⟩ 1 [],opR ⟨#[101]⟩ 2 [],gOp u,hR hc,fRf z fa fc fu])∧(∀ z u hc fa fc fu w,opsR z u hc fa fc fu (some w)=[opR ⟨#[97]⟩ 0 [],opR ⟨#[98]⟩ 1 [],opR ⟨#[101]⟩ 2 [],gOp u,hR hc,fRf z fa fc fu,mR w])∧(∀ c,hR c=[.lit (.string ⟨#[104]⟩),.sl [Zdc [0,0] 0],.lit (.bool false),.lit (.bool c),.lit (.int .i64 0)])∧(∀ w,mR w=[.lit (.string ⟨#[109]⟩),.sl [Zdc [0,0] 0],.lit (.bool true),.lit (.bool true),.lit (.int .i64 (if w then 1 else 0))])∧∀ args res,Zdc args res=[.sl (args.map Zaw),.lit (.int .i64 res)]:=⟨fun _ _ _ _ _ _=>rfl,fun _ _ _ _ _ _ _=>rfl,fun _=>rfl,fun _=>rfl,fun _ _=>rfl⟩
theorem ZfM {pm:List Bk}:ZgS pm pm:=fun w S h1 h2=>⟨h1,h2,fun g hg=>hg⟩
theorem Zf9 (name:ByteArray) (res:Int) (args:List Int):Con e0 59 [.one (.lit (.string name)),.one (.lit (.int .i64 res)),.clip (args.map Zaw)] [.agg (opR name res args)]:=by
 rw [opR];refine gI (ts:=[.cell 6 64]) 71 Tryz.func59 ?_;exact fD @tmz
def RSig (r:List D) (pm:List Bk):Prop:=∃ (z u hc fa fc fu:Bool) (w:Option Bool) (a:Option Addr) (k:Nat),(z=true∨(fa=false∧fc=false∧fu=false))∧r=[.agg [.sl ZgZ,.sl (ZfG z),.lit (.slice a (opsR z u hc fa fc fu w).length k)]]∧pm=[.buf (some (a,k)) 64 5 (opsR z u hc fa fc fu w)]
section
variable {x:Src} {b:Nat}
theorem ZjH (hx:x.Ok):ConP (eC x b) 28 [curD b] [] RSig:=by
 have he:=hx.okC (b:=b);have c2:=ZbG (b:=b) hx (n:=2) (by decide) (by decide);refine gIP (ts:=[.cell 2 30]) [] 5149835399278034355786243670525 Tryz.func28 ?_;refine fN 1 @tmC ?_;refine gB ?_;have F:=@tmC;refine gP 2 ?_;clear F;have F:=tmC;refine gBs ?_;clear F;refine gS 11 fun a1 k1=>?_;have F:=@tmC;refine gP 1 ?_;clear F;have F:=tmC;refine gXc ?_;clear F;refine fR @tmC ?_;refine fN 2 @tmC ?_;refine gB ?_
 have F:=@tmC;refine gCE (c2) ?_;clear F;rintro r ⟨y,rfl⟩;refine fR @tmC ?_;refine gM (ι:=Bool) [15] [3,11] (fun z=>[]) (fun z=>[(3,.var none [.sl ZgZ,.sl (ZfG z),.lit (.slice none 0 0)])]) (fun z=>True) ?_ (fun z hz=>Exists.intro _ (ai (Wk.refl _) ?_))
 ·cases y
  ·refine pD 11 [] [3] ?_;have F:=ai @nmU @tmC;refine gG ?_;exact ⟨false,trivial,gw,gw⟩
  ·refine fN 3 @tmC ?_;refine gB ?_;have F:=@tmC;refine gP 3 ?_;clear F;refine gK 18 ?_;have F:=@tmC;refine gP 3 ?_;clear F;refine gS 21 fun a2 k2=>?_;have F:=@tmC;refine gP 3 ?_;clear F;refine gD 21 [] [3] ?_;refine fR @tmC ?_;have F:=ai @nmU @tmC;refine gG ?_;exact ⟨true,trivial,gw,gw⟩
 clear hz;refine pN 1001 64 5 ?_;have hs1:((1:Int) < ((ZfG z).length:Int))=(z=true):=by cases z <;> simp [ZfG]
 refine fN 5 (aj3 @hs1 @Bool.decide_eq_true @tmC) ?_;refine gB ?_;have F:=@tmC;refine gP 2 ?_;clear F;refine fC @tmC ((Zf9 ⟨#[97]⟩ 0 []).cu hx) ?_;refine fC @tmC ((Zf9 ⟨#[98]⟩ 1 []).cu hx) ?_;refine fC @tmC ((Zf9 ⟨#[101]⟩ 2 []).cu hx) ?_;have F:=@tmC;refine gP 1 ?_;clear F;refine gK 30 ?_;have F:=@tmC;refine gP 1 ?_;clear F;refine gS 35 fun a3 k3=>?_;refine fR @tmC ?_;refine fN 6 @tmC ?_;refine gB ?_
 have F:=@tmC;refine gCP [] [1002] ((Zmy ⟨#[103]⟩ 1 [0]).cu hx) ?_;clear F;rintro r pm ⟨a4,k4,rfl,rfl⟩;simp only [setA,retA,zipM,Taf,Tah];refine fR @tmC ?_;refine fN 7 @tmC ?_;refine gB ?_;have F:=@tmC;refine gCE (c2) ?_;clear F;rintro r ⟨y,rfl⟩;refine fR @tmC ?_;refine gM (ι:=Bool) [40] [5,1002] (fun u=>[]) (fun u=>[(5,.var none (gOp u))]) (fun u=>True) ?_ (fun u hu=>Exists.intro _ (ai (Wk.refl _) ?_))
 ·cases y
  ·refine pD 1002 [] [5] ?_;have F:=aj3 @opU @ZaG @tmC;refine gG ?_;exact ⟨false,trivial,gw,gw⟩
  ·refine fN 8 @tmC ?_;refine gB ?_;have F:=@tmC;refine gP 2 ?_;clear F;refine gK 42 ?_;have F:=@tmC;refine gP 4 ?_;clear F;refine gS 46 fun a2 k2=>?_;have F:=@tmC;refine gP 2 ?_;clear F;refine gD 46 [] [5] ?_;refine fR @tmC ?_;have F:=aj3 @opU @ZaG @tmC;refine gG ?_;exact ⟨true,trivial,gw,gw⟩
 clear hu;have lg:(gOp u).length=5:=rfl;have tg:(gOp u).take 5=gOp u:=rfl;have og:(gOp u).all Zay=true:=rfl;refine fN 9 (aj4 @lg @tg @og @tmC) ?_;refine gB ?_;have F:=@tmC;refine gP 2 ?_;clear F;refine gK 49 ?_;have F:=aj4 @lg @tg @og @tmC;refine gP 3 ?_;clear F;refine gS 52 fun a4 k4=>?_;refine fR @tmC ?_;refine fN 10 @tmC ?_;refine gB ?_;have F:=@tmC;refine gP 1 ?_;clear F;refine fC @tmC ((Zf9 ⟨#[104]⟩ 0 [0,0]).cu hx) ?_
 have lh:∀ n r l,(opR n r l).length=5:=fun _ _ _=>rfl;have oh:∀ n r l,(opR n r l).all Zay=true:=fun _ _ _=>rfl;refine fR (aj3 @lh @oh @tmC) ?_;refine fN 11 @tmC ?_;refine gB ?_;have F:=@tmC;refine gCE (c2) ?_;clear F;rintro r ⟨hc,rfl⟩;refine fR (ai @Zk9 @tmC) ?_;refine fN 12 @tmC ?_;refine gB ?_;have F:=@tmC;refine gP 2 ?_;clear F;refine gK 60 ?_;have F:=@tmC;refine gP 3 ?_;clear F;refine gS 63 fun a5 k5=>?_
 refine fR @tmC ?_;refine fN 13 @tmC ?_;refine gB ?_;have F:=@tmC;refine gP 1 ?_;clear F;have F:=@tmC;refine gCP [] [1003] ((Zmy ⟨#[102]⟩ 2 [2,2]).cu hx) ?_;clear F;rintro r pm ⟨a6,k6,rfl,rfl⟩;simp only [setA,retA,zipM,Taf,Tah];refine fR @tmC ?_;refine fN 14 @tmC ?_;refine gB ?_;refine fR @tmC ?_;refine gM (ι:=Bool × Bool × Bool) [67] [7,1003] (fun v=>[]) (fun v=>[(7,.var none (fRf z v.1 v.2.1 v.2.2))]) (fun v=>z=true∨(v.1=false∧v.2.1=false∧v.2.2=false)) ?_ (fun v hv=>Exists.intro _ (ai (Wk.refl _) ?_))
 ·cases z
  ·refine fN 20 @tmC ?_;refine gB ?_;have F:=@tmC;refine gP 2 ?_;clear F;refine gK 85 ?_;have F:=@tmC;refine gP 3 ?_;clear F;have F:=@tmC;refine gP 1 ?_;clear F;refine gD 1003 [] [7] ?_;refine fR @tmC ?_;have F:=aj3 @opU @ZaG @tmC;refine gG ?_;exact ⟨(false,false,false),.inr ⟨rfl,rfl,rfl⟩,gw,gw⟩
  ·refine fN 15 @tmC ?_;refine gB ?_;have F:=@tmC;refine gP 2 ?_;clear F;refine gK 69 ?_;have F:=@tmC;refine gP 4 ?_;clear F;refine gS 73 fun a2 k2=>?_;have F:=@tmC;refine gP 2 ?_;clear F;refine gD 73 [] [7] ?_;refine fR @tmC ?_;refine fN 16 @tmC ?_;refine gB ?_;have F:=@tmC;refine gCE (c2) ?_;clear F;rintro r ⟨fa,rfl⟩;refine fR @tmC ?_;refine fN 17 @tmC ?_;refine gB ?_;have F:=@tmC;refine gCE (c2) ?_;clear F
   rintro r ⟨fc,rfl⟩;refine fR @tmC ?_;refine fN 18 @tmC ?_;refine gB ?_;have F:=@tmC;refine gCE (c2) ?_;clear F;rintro r ⟨fu,rfl⟩;refine fR @tmC ?_
   cases fu
   ·have F:=aj3 @opU @ZaG @tmC;refine gG ?_;exact ⟨(fa,fc,false),.inl rfl,gw,gw⟩
   ·have F:=aj3 @opU @ZaG @tmC;refine gG ?_;exact ⟨(fa,fc,true),.inl rfl,gw,gw⟩
 obtain ⟨fa,fc,fu⟩:=v;dsimp only at hv ⊢;have lf:(fRf z fa fc fu).length=5:=rfl;have tf:(fRf z fa fc fu).take 5=fRf z fa fc fu:=rfl;have of':(fRf z fa fc fu).all Zay=true:=rfl;refine fN 21 @tmC ?_;refine gB ?_;have F:=@tmC;refine gP 2 ?_;clear F;refine gK 90 ?_;have F:=aj4 @lf @tf @of' @tmC;refine gP 3 ?_;clear F;refine gS 93 fun a7 k7=>?_;refine fR @tmC ?_;refine fN 22 @tmC ?_;refine gB ?_;have F:=@tmC;refine gCE (ZbG (b:=b) hx (n:=3) (by decide) (by decide)) ?_;clear F
 rintro r ⟨y,rfl⟩;refine fR @tmC ?_;refine gM (ι:=Option Addr × Nat × Option Bool) [96] [3,93,1004] (fun q=>[]) (fun q=>[(3,.var none [.sl ZgZ,.sl (ZfG z),.lit (.slice q.1 (opsR z u hc fa fc fu q.2.2).length q.2.1)]),(1004,.buf (some (q.1,q.2.1)) 64 5 (opsR z u hc fa fc fu q.2.2))]) (fun q=>True) ?_ (fun q hq=>Exists.intro _ (ai (Wk.refl _) ?_))
 ·cases y
  ·refine pE [93] [1004] ZfM ?_;have F:=aj4 @opsU @Zk9 @ZaG @tmC;refine gG ?_;exact ⟨(a7,k7,none),trivial,gw,gw⟩
  ·refine fN 23 @tmC ?_;refine gB ?_;have F:=@tmC;refine gP 1 ?_;clear F;refine fC @tmC ((Zf9 ⟨#[109]⟩ 0 [0,0]).cu hx) ?_;refine fR (aj3 @lh @oh @tmC) ?_;refine fN 26 (ai @Zk9 @tmC) ?_;refine gB ?_;have F:=@tmC;refine gCE (c2) ?_;clear F;rintro r ⟨w,rfl⟩;refine fR @tmC ?_
   cases w
   ·refine fN 28 @tmC ?_;refine gB ?_;have F:=@tmC;refine gP 2 ?_;clear F;refine gK 105 ?_;have F:=@tmC;refine gP 3 ?_;clear F;refine gS 108 fun a8 k8=>?_;have F:=@tmC;refine gP 2 ?_;clear F;refine gE [108] [1004] ZfM ?_;refine fR @tmC ?_;have F:=aj4 @opsU @Zk9 @ZaG @tmC;refine gG ?_;exact ⟨(a8,k8,some false),trivial,gw,gw⟩
   ·refine fN 28 @tmC ?_;refine gB ?_;have F:=@tmC;refine gP 2 ?_;clear F;refine gK 105 ?_;have F:=@tmC;refine gP 3 ?_;clear F;refine gS 108 fun a8 k8=>?_;have F:=@tmC;refine gP 2 ?_;clear F;refine gE [108] [1004] ZfM ?_;refine fR @tmC ?_;have F:=aj4 @opsU @Zk9 @ZaG @tmC;refine gG ?_;exact ⟨(a8,k8,some true),trivial,gw,gw⟩
 clear hq;obtain ⟨a9,k9,w⟩:=q;dsimp only;refine fG @tmC ?_;exact (have F:=tmC;gTP (R:=RSig) [1004] ⟨z,u,hc,fa,fc,fu,w,a9,k9,hv,rfl,rfl⟩)
end
def nm1 (c:UInt8):ByteArray:=⟨#[c]⟩
theorem Zj1 (c:UInt8):(nm1 c).toList=[c]:=strL [c]
def letB (c:UInt8):Bool:=decide (65<=c.toNat∧c.toNat<=90) || decide (97<=c.toNat∧c.toNat<=122)
theorem Zso {c:UInt8} (h:letB c=true):Za0 (nm1 c)=true:=by
 have hb:Zff (nm1 c) 0=(c.toNat:Int):=rfl;have hs:(nm1 c).size=1:=rfl;unfold Za0 ZaV;rw [Zj1,hs];simp only [letB,Bool.or_eq_true,decide_eq_true_eq] at h;have h1:Zco (Zff (nm1 c) 0)=true:=by
  rw [hb];simp only [Zco,Bool.or_eq_true,decide_eq_true_eq];omega
 have h2:¬ Zff (nm1 c) 0<=57:=by rw [hb];omega
 simp [List.range',h1,h2]
theorem Zmz {l:List UInt8} (h:l.all letB=true) (hn:l.Nodup):∀ (i:Nat) (x:ByteArray),(l.map nm1)[i]?=some x->Za0 x=true∧Za3 ((l.map nm1).take i) x=false:=by
 intro i x hx;rw [Tba,Tav] at hx;obtain ⟨c,hc,rfl⟩:=hx;refine ⟨Zso (List.all_eq_true.1 h c (Tac hc)),?_⟩;unfold Za3;rw [List.any_eq_false];intro t ht;rw [<- List.map_take] at ht;obtain ⟨d,hd,rfl⟩:=Tbi.1 ht;rw [Zj1,Zj1];simp only [beq_iff_eq,List.cons.injEq,and_true];rintro rfl;obtain ⟨hi,rfl⟩:=Tad.1 hc;obtain ⟨j,hj,e⟩:=List.getElem_of_mem hd;rw [Taw] at hj;rw [List.getElem_take] at e;exact absurd e (List.pairwise_iff_getElem.1 hn j i om hi om)
def Zsp (s:Srt) (f d:Dcl):Bool:=decide (d.args.length=f.args.length) && decide (0<=d.res∧d.res < s.names.length) && d.args.all (fun k=>decide (0<=k∧k < s.names.length)) && decide (kd s d.res=kd s f.res) && (d.args.zip f.args).all (fun p=>decide (kd s p.1=kd s p.2))
theorem ZxF {s:Srt} {f d:Dcl} (h:Zsp s f d=true):DeclOk s f d:=by
 simp only [Zsp,Tar,decide_eq_true_eq,List.all_eq_true] at h;obtain ⟨⟨⟨⟨h1,h2⟩,h3⟩,h4⟩,h5⟩:=h;refine ⟨h1,h2,h3,h4,fun i a b ha hb=>?_⟩;exact h5 (a,b) (Tac (i:=i) (List.getElem?_zip_eq_some.2 ⟨ha,hb⟩))
def opB (g:Sgn) (o:Opr):Bool:=match o.decls with
 | []=>false
 | f::r=>decide (o.decls.length<=4) && decide (f.args.length<=3) && o.decls.all (Zsp g.sorts f) && decide (0<=o.unit∧o.unit<=g.ops.length) && (!(o.assoc || o.comm || o.unit != 0) || match f.args with
  | [a,b]=>decide (kd g.sorts a=kd g.sorts b) && (!(o.assoc || o.unit != 0) || decide (kd g.sorts a=kd g.sorts f.res)) && (o.unit==0 || match g.ops[o.unit.toNat - 1]? with
   | none=>true
   | some p=>match p.decls with
    | []=>true
    | u::_=>decide (u.args.length=0) && decide (kd g.sorts u.res=kd g.sorts f.res))
  | _=>false)
theorem Zwg {g:Sgn} {o:Opr} (h:opB g o=true):DeclsOk g.sorts o∧AxOk g o:=by
 unfold opB at h;split at h
 ·cases h
 ·next f r hd =>
  simp only [Tar,decide_eq_true_eq,List.all_eq_true] at h;obtain ⟨⟨⟨⟨h1,h2⟩,h3⟩,h4⟩,h5⟩:=h;have hf:o.decls[0]?=some f:=by rw [hd];rfl
  refine ⟨⟨by rw [hd];simp,h1,fun f' hf'=>?_,fun f' hf' d hdm=>?_⟩,⟨h4.1,h4.2,fun hor d hd0=>?_⟩⟩
  ·rw [hf] at hf';injection hf' with hf';subst hf';exact h2
  ·rw [hf] at hf';injection hf' with hf';subst hf';exact ZxF (h3 d hdm)
  ·rw [hf] at hd0;injection hd0 with hd0
   subst hd0;have hor':(o.assoc || o.comm || o.unit != 0)=true:=by
    simp only [Bool.or_eq_true,bne_iff_ne,ne_eq];rcases hor with q | q | q
    ·exact .inl (.inl q)
    ·exact .inl (.inr q)
    ·exact .inr q
   rw [hor'] at h5;simp only [Bool.not_true,Bool.false_or] at h5;split at h5
   ·next a b hab =>
    simp only [Tar,decide_eq_true_eq,Bool.or_eq_true,Bool.not_eq_true',Bool.or_eq_false_iff,bne_eq_false_iff_eq,beq_iff_eq] at h5;obtain ⟨⟨k1,k2⟩,k3⟩:=h5;refine ⟨by rw [hab];rfl,fun a' b' ha' hb'=>?_⟩;rw [hab] at ha' hb';simp only [Tat,Tau,Taq] at ha' hb';subst ha' hb';refine ⟨k1,fun q=>?_,fun q p u hp hu=>?_⟩
    ·rcases k2 with k2 | k2
     ·rcases q with q | q
      ·rw [k2.1] at q;cases q
      ·exact absurd k2.2 q
     ·exact k2
    ·rcases k3 with k3 | k3
     ·exact absurd k3 q
     ·rw [hp] at k3;simp only at k3;split at k3
      ·next e=>rw [e] at hu;simp at hu
      ·next u' _ e =>
       rw [e] at hu;simp only [Tat,Taq] at hu;subst hu;simpa using k3
   ·cases h5
theorem ZoA {g:Sgn} {l:List UInt8} (hs:SortsOk g.sorts) (hl:g.ops.length<=14) (hn:g.ops.map (·.name)=l.map nm1) (h1:l.all letB=true) (h2:l.Nodup) (h3:g.ops.all (opB g)=true):SgnOk g:=by
 refine ⟨hs,hl,fun i o ho=>?_,fun o ho=>(Zwg (List.all_eq_true.1 h3 o ho)).1,fun o ho=>(Zwg (List.all_eq_true.1 h3 o ho)).2⟩;have:=Zmz h1 h2 i o.name (by rw [<- hn,Tba,ho];rfl)
 rwa [<- hn,<- List.map_take] at this
def gD0 (u:Bool):Opr:=⟨nm1 103,⟨[0],1⟩::if u then [⟨[1],1⟩] else [],false,false,0⟩
def fD0 (z fa fc fu:Bool):Opr:=⟨nm1 102,if z then [⟨[2,2],2⟩,⟨[1,1],1⟩] else [⟨[0,2],2⟩],fa,fc,if fu then 3 else 0⟩
def mD0 (w:Bool):Opr:=⟨nm1 109,[⟨[0,0],0⟩],true,true,if w then 1 else 0⟩
def opsD (z u hc fa fc fu:Bool) (w:Option Bool):List Opr:=[⟨nm1 97,[⟨[],0⟩],false,false,0⟩,⟨nm1 98,[⟨[],1⟩],false,false,0⟩,⟨nm1 101,[⟨[],2⟩],false,false,0⟩,gD0 u,⟨nm1 104,[⟨[0,0],0⟩],false,hc,0⟩,fD0 z fa fc fu]++(match w with
 | none=>[]
 | some w=>[mD0 w])
def srtD (z:Bool):Srt:=⟨[78,80,76].map nm1,if z then [(1,0),(0,2)] else [(1,0)]⟩
def sigD (z u hc fa fc fu:Bool) (w:Option Bool):Sgn:=⟨srtD z,opsD z u hc fa fc fu w⟩
def Zfl (o:Opr):Opr:=⟨o.name,o.decls,false,o.comm,0⟩
def sigE (z u hc fa fc fu:Bool) (w:Option Bool):Sgn:=⟨srtD z,(opsD z u hc fa fc fu w).map Zfl⟩
theorem ZrA (z:Bool):SortsOk (srtD z):=by
 have hn:(srtD z).names=[78,80,76].map nm1:=by cases z <;> rfl
 have hl:(srtD z).names.length=3:=by rw [hn];rfl
 refine ⟨by rw [hl];decide,by rw [hl];decide,by cases z <;> decide,fun i _ x hx=>?_,?_,?_⟩
 ·rw [hn] at hx ⊢;exact Zmz (by decide) (by decide) i x hx
 ·rw [hl];intro p hp
  cases z <;> simp [srtD] at hp
  ·subst hp;simp [Zef]
  ·rcases hp with rfl | rfl <;> simp [Zef]
 ·rw [hl];intro i k hi hk;have h:∀ i,i < 3->∀ k,k < 3->¬ (i≠k∧((up (srtD z)).getD i 0).testBit k=true∧((up (srtD z)).getD k 0).testBit i=true):=by cases z <;> decide +kernel
  exact h i hi k hk
theorem ZoB (z u hc fa fc fu:Bool) (w:Option Bool):ZgZ=(sigD z u hc fa fc fu w).sorts.names.map ZbB∧ZfG z=(sigD z u hc fa fc fu w).sorts.subs.map ZbO∧opsR z u hc fa fc fu w=(sigD z u hc fa fc fu w).ops.map ZaL:=by
 refine ⟨by cases z <;> rfl,by cases z <;> rfl,?_⟩
 cases w <;> cases z <;> cases u <;> cases fu <;> first | rfl | (rename_i w;cases w <;> rfl)
def ZhK:Option Bool->List UInt8
 | none=>[97,98,101,103,104,102]
 | some _=>[97,98,101,103,104,102,109]
theorem Zz2 {z u hc fa fc fu:Bool} {w:Option Bool} (h:z=true∨(fa=false∧fc=false∧fu=false)):SgnOk (sigD z u hc fa fc fu w):=by
 refine ZoA (l:=ZhK w) (ZrA z) (by cases w <;> exact Nat.le_of_ble_eq_true rfl) (by cases w <;> rfl) (by cases w <;> rfl) (by cases w <;> (show List.Nodup _;simp only [ZhK];decide)) ?_;have H:∀ z u hc fa fc fu w',(z=true∨(fa=false∧fc=false∧fu=false))->(sigD z u hc fa fc fu none).ops.all (opB (sigD z u hc fa fc fu none))=true∧(sigD z u hc fa fc fu (some w')).ops.all (opB (sigD z u hc fa fc fu (some w')))=true:=by decide +kernel
 cases w with
 | none=>exact (H z u hc fa fc fu true h).1
 | some w=>exact (H z u hc fa fc fu w h).2
theorem Zz3 {z u hc fa fc fu:Bool} {w:Option Bool} (h:z=true∨(fa=false∧fc=false∧fu=false)):SgnOk (sigE z u hc fa fc fu w):=by
 refine ZoA (l:=ZhK w) (ZrA z) (by cases w <;> exact Nat.le_of_ble_eq_true rfl) (by cases w <;> rfl) (by cases w <;> rfl) (by cases w <;> (show List.Nodup _;simp only [ZhK];decide)) ?_;have H:∀ z u hc fa fc fu w',(z=true∨(fa=false∧fc=false∧fu=false))->(sigE z u hc fa fc fu none).ops.all (opB (sigE z u hc fa fc fu none))=true∧(sigE z u hc fa fc fu (some w')).ops.all (opB (sigE z u hc fa fc fu (some w')))=true:=by decide +kernel
 cases w with
 | none=>exact (H z u hc fa fc fu true h).1
 | some w=>exact (H z u hc fa fc fu w h).2
def Zcj (l:List Opr) (i:Nat):List Opr:=(l.take i).map Zfl++l.drop i
theorem Zwh {l:List Opr} {i:Nat} {o:Opr} (h:l[i]?=some o):(Zcj l i)[i]?=some o:=by
 have hi:=(Tad.1 h).1;have e:((l.take i).map Zfl).length=i:=by simp;omega
 unfold Zcj;rw [Tbq om,e,Nat.sub_self,Tbb];simpa using h
theorem Zwi {l:List Opr} {i:Nat} {o:Opr} (h:l[i]?=some o):(Zcj l i).set i (Zfl o)=Zcj l (i+1):=by
 have hi:=(Tad.1 h).1;have e:((l.take i).map Zfl).length=i:=by simp;omega
 have ho:l.drop i=o::l.drop (i+1):=by
  rw [List.drop_eq_getElem_cons hi,(Tad.1 h).2]
 unfold Zcj;rw [List.set_append_right _ _ om,e,Nat.sub_self,ho,List.set_cons_zero,Zb3 h,Tbv,Tbf];rfl
theorem Zwj (l:List Opr) (i:Nat):(Zcj l i).length=l.length:=by simp [Zcj];omega
section
variable {x:Src} {b:Nat}
def DrF (g:Sgn):Prop:=∃ (z u hc fa fc fu:Bool) (w:Option Bool),(z=true∨(fa=false∧fc=false∧fu=false))∧g=sigE z u hc fa fc fu w
def RSgn (P:Sgn->Prop) (r:List D):Prop:=∃ g,P g∧r=[.agg (Zaf g)]
theorem ZoC (hx:x.Ok):ConE (eC x b) 14 [curD b] (RSgn DrF):=by
 have he:=hx.okC (b:=b);refine gIE (ts:=[.cell 2 30]) 2077 Tryz.func14 ?_;refine fN 1 @tmC ?_;refine gB ?_;have F:=@tmC;refine gCP [] [1000] (ZjH hx) ?_;clear F;rintro r pm ⟨z,u,hc,fa,fc,fu,w,a,k,hz,rfl,rfl⟩;simp only [setA,retA,zipM,Taf,Tah];refine fR @tmC ?_;obtain ⟨e1,e2,e3⟩:=ZoB z u hc fa fc fu w;rw [e3];have hl:(sigD z u hc fa fc fu w).ops.length<=14:=(by cases w <;> exact Nat.le_of_ble_eq_true rfl)
 have hD:DrF (sigE z u hc fa fc fu w):=⟨z,u,hc,fa,fc,fu,w,hz,rfl⟩;have hE:Zaf (sigE z u hc fa fc fu w)=[.sl ZgZ,.sl (ZfG z),.sl (((sigD z u hc fa fc fu w).ops.map Zfl).map ZaL)]:=by rw [e1,e2];rfl
 generalize (sigD z u hc fa fc fu w).ops=ops at hl hE ⊢;have h0:Zcj ops 0=ops:=by simp [Zcj]
 have hend:Zcj ops ops.length=ops.map Zfl:=by simp [Zcj]
 refine fG @tmC ?_;have F:=ai @h0 @tmC;refine gL (ι:=Nat) [4,11] [1000] (fun i=>[(4,A.d (.one (.lit (.int .i64 i))))]) (fun i=>[(1000,.buf (some (a,k)) 64 5 ((Zcj ops i).map ZaL))]) (fun i=>i<=ops.length) (fun i=>ops.length - i) (0) (Taj _) (fun i hi=>?_);clear F;have hll:(Zcj ops i).length=ops.length:=Zwj ops i;by_cases h1:i < ops.length
 ·have q1:=lT i ops.length;have q2:((Zcj ops i).map ZaL).length=ops.length:=by rw [Tay,hll]
  have hi:=Taa h1;have hg:=Zwh hi;have hs:=Zwi hi;generalize ops[i]=o at hi hg hs;have wi:=Zao (k:=i) om;refine fN 5 (aj3 @q1 @q2 @tmC) ?_;refine gB ?_;have F:=aj4 @hll @hg @h1 @tmC;refine gP 5 ?_;clear F;have F:=aj5 @hll @hg @h1 @Zag @tmC;refine gP 1 ?_;clear F;refine fR @tmC ?_;have s1:((Zcj ops i).map ZaL).set i [.lit (.string o.name),.sl (o.decls.map Zfd),.lit (.bool false),.lit (.bool o.comm),.lit (.int .i64 o.unit)]=((Zcj ops i).set i ⟨o.name,o.decls,false,o.comm,o.unit⟩).map ZaL:=by rw [List.map_set];rfl
  rw [s1];have hl2:((Zcj ops i).set i ⟨o.name,o.decls,false,o.comm,o.unit⟩).length=ops.length:=by rw [Taz,hll]
  have hg2:((Zcj ops i).set i ⟨o.name,o.decls,false,o.comm,o.unit⟩)[i]?=some ⟨o.name,o.decls,false,o.comm,o.unit⟩:=Tbn om;have hs2:((Zcj ops i).set i ⟨o.name,o.decls,false,o.comm,o.unit⟩).set i (Zfl o)=Zcj ops (i+1):=by rw [List.set_set,hs]
  generalize (Zcj ops i).set i ⟨o.name,o.decls,false,o.comm,o.unit⟩=L1 at hl2 hg2 hs2 ⊢;refine fN 6 @tmC ?_;refine gB ?_;have F:=aj4 @hl2 @hg2 @h1 @tmC;refine gP 5 ?_;clear F;have F:=aj5 @hl2 @hg2 @h1 @Zag @tmC;refine gP 1 ?_;clear F;refine fR @tmC ?_;have s2:(L1.map ZaL).set i [.lit (.string o.name),.sl (o.decls.map Zfd),.lit (.bool false),.lit (.bool o.comm),.lit (.int .i64 0)]=(Zcj ops (i+1)).map ZaL:=by rw [<- hs2,List.map_set];rfl
  rw [s2];have F:=ai @wi @tmC;refine gG ?_;exact ⟨i+1,om,gw,gw,om⟩
 ·have q1:=lF i ops.length;obtain rfl:i=ops.length:=by omega
  rw [hend];refine fG (ai @q1 @tmC) ?_;refine pD 1000 [] [2,3] ?_;rw [<- hE];exact (have F:=tmC;gTE (R:=RSgn DrF) [] ⟨_,hD,rfl⟩)
def Zsq (r:List D):Prop:=∃ l:List Int,l.length<=14∧r=[.one (.sl (l.map Zaw))]
theorem Zwk (hx:x.Ok) {g:Sgn} (h1:1<=g.ops.length) (h14:g.ops.length<=14):ConE (eC x b) 15 [curD b,.agg (Zaf g)] Zsq:=by
 have he:=hx.okC (b:=b);rw [Zaf];refine gIE (ts:=[.slot 4]) 536875131 Tryz.func15 ?_;refine fG @tmC ?_;have F:=@tmC;refine gL (ι:=List Int) [5,6,12] [5] (fun y=>[(6,A.d (.one (.lit (.int .i64 y.length)))),(5,.buf 5)]) (fun y=>[(5,.buf none 3 1 (y.map Zaw))]) (fun y=>y.length<=g.ops.length) (fun y=>g.ops.length - y.length) ([]) (Taj _) (fun y hy=>?_);clear F;by_cases h2:y.length < g.ops.length
 ·have q1:=lT y.length g.ops.length;have wi:=Zao (k:=y.length) om;have hm:(y.length+1<=maxApp)=True:=eq_true (by unfold maxApp;omega);refine fN 5 (ai @q1 @tmC) ?_;refine gB ?_;have F:=@tmC;refine gCE (Zb1 (b:=b) hx (n:=4) (by decide) (by decide)) ?_;clear F;rintro r ⟨k1,hk1,rfl⟩;have F:=@tmC;refine gCE (Zb1 (b:=b) hx (n:=8) (by decide) (by decide)) ?_;clear F;rintro r ⟨k2,hk2,rfl⟩;have q7:((7:Int)=0)=False:=eq_false (by decide)
  refine fR (aj3 @hm @q7 @tmC) ?_;have hsn:∀ v:Int,y.map Zaw++[[C.lit (.int .i64 v)]]=(y++[v]).map Zaw:=fun v=>by rw [Tbv];rfl
  rw [hsn];generalize IntKind.i64.wrap (IntKind.i64.wrap (8 * (k1:Int))+IntKind.i64.wrap ((y.length:Int) * IntKind.i64.wrap (1 - IntKind.i64.wrap (Int.tdiv (k2:Int) 7))))=v;have hl:(y++[v]).length=y.length+1:=by simp
  have F:=aj3 @wi @hl @tmC;refine gG ?_;exact ⟨y++[v],om,gw,gw,om⟩
 ·have q1:=lF y.length g.ops.length;refine fN 6 (ai @q1 @tmC) ?_;refine gB ?_;have F:=@tmC;refine gCE (ZbG (b:=b) hx (n:=30) (by decide) (by decide)) ?_;clear F;rintro r ⟨k,rfl⟩;refine fR @tmC ?_
  cases k
  ·refine fG @tmC ?_;exact (have F:=tmC;gTE (R:=Zsq) [4] ⟨y,om,rfl⟩)
  ·have q2:(1<=y.length):=om;refine Zcm (Zdh [5] (by simp only [pz,↓reduceIte,Nat.reduceEqDiff,Nat.reduceAdd,Nat.reduceSub,Nat.reduceMul,Nat.reduceLeDiff,Nat.reduceBEq,Tam,decide_true,decide_false,Int.reduceLE,Int.reduceToNat,Int.reduceLT,Int.reduceEq,eq_self,Nat.reduceShiftRight,Nat.reduceAnd,Nat.reduceBneDiff,tmC];exact rfl)) fun σ' hσ=>?_;subst hσ;refine fN 7 (ai @q2 @tmC) ?_;refine gB ?_;have s1:((1:Int)<=(y.length:Int))=True:=eq_true om
   have s2:((y.length:Int)<=(y.length:Int))=True:=eq_true (Int.le_refl _);have s4:((0:Int)<=1)=True:=eq_true (by decide);have s3:List.drop 1 (List.take y.length (List.map Zaw y))=List.map Zaw (y.drop 1):=by rw [<- List.map_take,Tap,List.map_drop]
   refine fR (aj6 @s1 @s2 @s3 @s4 @Zax @tmC) ?_;refine fG @tmC ?_;exact (have F:=tmC;gTE (R:=Zsq) [] ⟨y.drop 1,by rw [Tax];omega,rfl⟩)
end
section
variable {e:Env} {U:Nat->Prop} {base:Nat} {S0:Nat->Prop} {σ:St} {o:Oper} {K:St->Prop}
theorem Zz5 {P:Program} {w:World} (ts:Array TypeId) (t ty e:TypeId) (i:TypeInfo) (h0:ts[0]?=some t) (h1:ts[1]?=some t) (ht:P.underlying t=some (.slice e)) (hi:P.info? e=some i) (b:Option Addr) (n cap:Nat) (hc:n<=cap) (x:Value)
  (hln:(Builtin.lenOf x).run P w=.ok 0 w) (hf:(Builtin.firstCells i.size 0 x).run P w=.ok #[] w) :
  (Builtin.append_ ts ty #[.slice b n cap,x]).run P w=.ok (.slice b n cap) w:=by
 cases b <;> simp [Builtin.append_,h0,h1,run_underlying ht,sizeOf,typeInfo,hi,hln,hf,storeCells,hc]
theorem Zwo {x y:Operand} {t ety sz by':Nat} {rows:List (List C)} (ho:o.op=.call ⟨.builtin .append,#[x,y],#[t,t]⟩) (hb:ZaY e.P t=some (ety,sz,by')) (hx:evA σ.s x=.d (.clip rows)) (hy:evA σ.s y=.d (.one (.sl []))):ZaM e U base S0 σ.m o (evA σ.s) (.d (.clip rows)):=by
 refine Zav fun w S L ρv hC hr=>?_;have hx':=hr x (by simp [ho,Op.operands,Call.operands]);have hy':=hr y (by simp [ho,Op.operands,Call.operands]);rw [hx] at hx';rw [hy] at hy';obtain ⟨i,z,hu,hi,hz,hsz,hby,hzs,hs0,hb4⟩:=Zb6 hb;obtain ⟨b,cap,news,hv,_,_,hn,hf⟩:=Zfa (sz:=sz) (rows:=[]) (fun r hr=>by cases hr) hy';have hx2:=hx'.1;simp only [Rep] at hx2;obtain ⟨A',n,cap',hw,h1,h2,h3,h4⟩:=hx2;refine ⟨ρv x,?_,hx'⟩
 have hne:news=[]:=by simpa [Zad] using hn.len
 subst hne;have hln:(Builtin.lenOf (ρv y)).run e.P w=.ok 0 w:=by rw [hv];simp [Builtin.lenOf]
 have hff:(Builtin.firstCells i.size 0 (ρv y)).run e.P w=.ok #[] w:=by rw [hsz];exact hf _ _ fun _=>rfl
 have:=Zz5 (P:=e.P) (w:=w) #[t,t] t o.type ety i rfl rfl hu hi A' n cap' h2 (ρv y) hln hff;rw [<- hw] at this;simp [execOp,ho,resolve,invoke,builtin,this,Result.andThen]
end
section
variable {e:Env} {K:St->Prop} {ds:List (Option Nat)} {os:List Oper} {d t ty q:Nat} {p:String} {ed:Array Edge} {x y:Operand} {s:List (Nat × A)} {m:List (Nat × Bk)}
theorem gAe {rows:List (List C)} {ety sz by':Nat} (hK:Runs e ds (q - 1) os ⟨(d,.d (.clip rows))::s,m⟩ K) (hx:evA s x=.d (.clip rows):=by exact sfx) (hy:evA s y=.d (.one (.sl [])):=by exact sfx)
  (hb:ZaY e.P t=some (ety,sz,by'):=by exact sfx):Runs e ds q (⟨some d,.call ⟨.builtin .append,#[x,y],#[t,t]⟩,ty,p,ed,none⟩::os) ⟨s,m⟩ K :=
 ZfF rfl rfl rfl (fun U base S0=>Zwo (σ:=⟨s,m⟩) rfl hb hx hy) hK
end
section
variable {e:Env} {mask:Nat} {Q:PX->St->Prop} {ds:List (Option Nat)} {X:Type}
def tabX (ok:Nat->X->Prop) (T:X->Tab) (j:Nat) (σ:St):Prop:=∃ x,ok j x∧tabP (T x) j σ
abbrev DidX (L:List Oper) (cons:Nat->Option Nat) (ok:Nat->X->Prop) (T:X->Tab) (i:Nat) (sb:List (Nat × A)) (mb:List (Nat × Bk)) (s:List (Nat × A)) (m:List (Nat × Bk)) (σ':St):Prop:=Lks sb mb σ'∧tabX ok T i σ'∧∀ j,j≠i->i ∉ ancN L 6 j->cons j≠some i->(∀ k,cons j=some k->k ∉ ancN L 6 i)->tabX ok T j ⟨s,m⟩->tabX ok T j σ'
section
variable {L:List Oper} {cons:Nat->Option Nat} {ok:Nat->X->Prop} {T:X->Tab} {i:Nat} {sb:List (Nat × A)} {mb:List (Nat × Bk)} {s s2:List (Nat × A)} {m m2:List (Nat × Bk)} {d k:Nat} {α:A} {bk:Bk}
theorem ZeU {f:List (Nat × A)->List (Nat × Bk)->Bool} {σ σ':St} (h:∀ x,Ze6 L cons (T x) i f=true) (hf:∀ sb mb,f sb mb=true->Lks sb mb σ->Lks sb mb σ'):∀ j,j≠i->i ∉ ancN L 6 j->cons j≠some i->(∀ k,cons j=some k->k ∉ ancN L 6 i)->tabX ok T j σ->tabX ok T j σ':=fun j h1 h2 h3 h4 ⟨x,hx,hp⟩=>⟨x,hx,ZlI (h x) hf j h1 h2 h3 h4 hp⟩
theorem xS (hB:Lks sb mb ⟨s,m⟩) (hp:tabX ok T i ⟨(d,α)::s,m⟩) (h1:Znc d sb mb=true:=by rfl) (h2:∀ x,Ze6 L cons (T x) i (Znc d)=true:=by intro x;rfl):DidX L cons ok T i sb mb s m ⟨(d,α)::s,m⟩:=⟨hB.slot h1,hp,ZeU h2 fun _ _ h hl=>hl.slot h⟩
theorem xM (hB:Lks sb mb ⟨s,m⟩) (hp:tabX ok T i ⟨s,(d,bk)::remM d m⟩) (h1:Znd d sb mb=true:=by rfl) (h2:∀ x,Ze6 L cons (T x) i (Znd d)=true:=by intro x;rfl):DidX L cons ok T i sb mb s m ⟨s,(d,bk)::remM d m⟩:=⟨hB.own h1,hp,ZeU h2 fun _ _ h hl=>hl.own h⟩
theorem Lks.bornC {κ:Nat} (h:Lks sb mb ⟨s,m⟩) (hf:(sb.all (fun p=>p.1 != d && !keyB κ p.2) && mb.all (fun p=>p.1 != κ))=true):Lks sb mb ⟨(d,α)::Zak κ s,(κ,bk)::remM κ m⟩:=by
 simp only [Tar,List.all_eq_true,bne_iff_ne,ne_eq,Bool.not_eq_true'] at hf;refine Lks.slot (Lks.own (Lks.kill h ?_) ?_) ?_
 ·simp only [List.all_eq_true,Bool.not_eq_true'];exact fun p hp=>(hf.1 p hp).2
 ·simp only [List.all_eq_true,bne_iff_ne,ne_eq];exact hf.2
 ·simp only [List.all_eq_true,bne_iff_ne,ne_eq];exact fun p hp=>(hf.1 p hp).1
def ZdC (d κ:Nat) (sb:List (Nat × A)) (mb:List (Nat × Bk)):Bool:=sb.all (fun p=>p.1 != d && !keyB κ p.2) && mb.all (fun p=>p.1 != κ)
theorem xP {κ:Nat} (hB:Lks sb mb ⟨s,m⟩) (hp:tabX ok T i ⟨(d,α)::Zak κ s,(κ,bk)::remM κ m⟩) (h1:ZdC d κ sb mb=true:=by rfl) (h2:∀ x,Ze6 L cons (T x) i (ZdC d κ)=true:=by intro x;rfl):DidX L cons ok T i sb mb s m ⟨(d,α)::Zak κ s,(κ,bk)::remM κ m⟩:=⟨hB.bornC h1,hp,ZeU h2 fun _ _ h hl=>hl.bornC h⟩
end
theorem gGp {id:Nat} {l:List Oper} {s:List (Nat × A)} {m:List (Nat × Bk)} (sb:List (Nat × A)) (mb:List (Nat × Bk)) (P:Nat->St->Prop) (cons:Nat->Option Nat) (ini:List Nat) (hB:Lks sb mb ⟨s,m⟩) (hI:∀ j∈ini,P j ⟨s,m⟩) (hS:ZeL e (l.map (·.dst)) l cons ini (Lks sb mb) P 0 l) (hK:∀ s' m',Lks sb mb ⟨s',m'⟩->(∀ i,i < l.length∨i∈ini->(∀ k,cons i=some k->l.length<=k)->P i ⟨s',m'⟩)->∃ sf mf,Lks sf mf ⟨s',m'⟩∧Q .normal ⟨sf,mf⟩)
  (hb:ZiV l=true:=by decide +kernel) (hini:ini.all (fun j=>decide (l.length<=j))=true:=by decide +kernel) (hT:regT l.toArray 0=true:=by decide +kernel):pwp e mask (.region id l.toArray true) ⟨s,m⟩ Q:=fun he U w0 S0 nt a w hok hs=>by
 refine ZjR he hT (K:=fun σ'=>∃ sf mf,Lks sf mf σ'∧Q .normal ⟨sf,mf⟩) (fun a w σ' ⟨sf,mf,h1,h2⟩ h3=>⟨⟨sf,mf⟩,h2,h3.weak (fun t=>ZkD t h1.1) (fun t bk=>ZkE t bk h1.2)⟩) (Zkw hok) hs ?_;simp only [List.take_zero,Runs]
 have:=ZjF (K:=fun σ'=>∃ sf mf,Lks sf mf σ'∧Q .normal ⟨sf,mf⟩) hb hini hS hK l.length (Zbi l.length 0) ⟨s,m⟩ (by simp [Zbi]) (by
  rw [List.countP_eq_length.2]
  ·simp
  ·intro i hi;have hi':=List.mem_range.1 hi;simp [Zbi,hi']) hB (fun j hj=>by
   have h0:(Zbi l.length 0).getD j false=false:=by
    by_cases hjl:j < l.length
    ·simp [Zbi,hjl]
    ·simp [Zbi,hjl]
   rw [h0] at hj
   cases hj) (fun j hj=>.inl (hI j hj))
 simpa using this
theorem gGx {id:Nat} {l:List Oper} {s:List (Nat × A)} {m:List (Nat × Bk)} (sb:List (Nat × A)) (mb:List (Nat × Bk)) (ok:Nat->X->Prop) (T:X->Tab) (cons:Nat->Option Nat) (ini:List Nat) (hB:Lks sb mb ⟨s,m⟩) (hI:∀ j∈ini,tabX ok T j ⟨s,m⟩) (hS:ZeL e (l.map (·.dst)) l cons ini (Lks sb mb) (tabX ok T) 0 l) (hK:∀ s' m',Lks sb mb ⟨s',m'⟩->(∀ i,i < l.length∨i∈ini->(∀ k,cons i=some k->l.length<=k)->tabX ok T i ⟨s',m'⟩)->∃ sf mf,Lks sf mf ⟨s',m'⟩∧Q .normal ⟨sf,mf⟩)
  (hb:ZiV l=true:=by decide +kernel) (hini:ini.all (fun j=>decide (l.length<=j))=true:=by decide +kernel) (hT:regT l.toArray 0=true:=by decide +kernel):pwp e mask (.region id l.toArray true) ⟨s,m⟩ Q:=gGp sb mb (tabX ok T) cons ini hB hI hS hK hb hini hT
theorem ZaC {ok:Nat->X->Prop} {T:X->Tab} {i:Nat} {s:List (Nat × A)} {m:List (Nat × Bk)}:tabX ok T i ⟨s,m⟩ ↔ ∃ x,ok i x∧lkS ((T x).getD i ([],[])).1 s∧lkM ((T x).getD i ([],[])).2 m:=exists_congr fun x=>and_congr_right fun _=>ZbU
end
section
variable {e:Env} {σ:St} {o:Oper} {K:St->Prop}
theorem Zwt {t:TypeId} {x lo hi mx:Operand} (ho:o.op=.slice t x (some lo) (some hi) (some mx)) {k cap ety sz l h c:Nat} {a:Option Addr} {rows:List (List C)} (hx:nrm σ.m (evA σ.s x)=.buf k) (hm:gm σ.m k=some (.buf (some (a,cap)) ety sz rows)) (ht:Zbf e.P t=some sz)
  (hlo:evA σ.s lo=.d (.one (.lit (.int .i64 (l:Int))))) (hhi:evA σ.s hi=.d (.one (.lit (.int .i64 (h:Int))))) (hmx:evA σ.s mx=.d (.one (.lit (.int .i64 (c:Int))))) (hb:l<=h∧h<=c∧c<=rows.length) (hK:K ⟨setA σ.s o.dst (.d (.one (.lit (sliced a l h c sz)))),σ.m⟩):Zbr e o σ K:=by
 intro he U w0 S0 nt ac w Q hd ⟨S,L,h1⟩;refine Oper.wp_mono (fun a' w' hs=>⟨_,hK,hs⟩) (Zdo h1 hd (Zav fun w S L ρv hC hr=>?_));have hx':=Zcl hC (hr x (by simp [ho,Op.operands]));rw [hx] at hx';have hx':ρv x=L.v k:=hx';obtain ⟨hpl,_,_,hbuf⟩:=hC.own k _ hm;have hv:L.v k=.slice a rows.length cap:=hpl (a,cap) rfl;have hcap:rows.length<=cap:=by
  rcases hbuf with ⟨h4,_⟩ | ⟨g,cap',cur,h4,_,_,_,_,h5,_⟩
  ·rw [h4];exact Taj _
  ·rw [hv] at h4;injection h4 with _ _ h4;rw [h4];exact h5
 have hel:∃ ety i,e.P.underlying t=some (.slice ety)∧e.P.info? ety=some i∧i.size=sz:=by
  unfold Zbf at ht;split at ht
  ·rename_i ety hu;simp only [Tav] at ht;obtain ⟨i,hi,hs⟩:=ht;exact ⟨ety,i,hu,hi,hs⟩
  ·cases ht
 obtain ⟨el,i,hu,hi',hsz⟩:=hel;have e1:=hr lo (by simp [ho,Op.operands]);have e2:=hr hi (by simp [ho,Op.operands]);have e3:=hr mx (by simp [ho,Op.operands]);rw [hlo] at e1;rw [hhi] at e2;rw [hmx] at e3;have e1:=ZaO e1;have e2:=ZaO e2;have e3:=ZaO e3;refine ⟨sliced a l h c sz,?_,by simp [ARel,DRel,Rep]⟩;have hbnd:(Instr.sliceBounds true rows.length cap (some (ρv lo)) (some (ρv hi)) (some (ρv mx))).run e.P w=.ok (l,h,c) w:=by
  have b1:(l:Int)<=(h:Int):=om;have b2:(h:Int)<=(c:Int):=om;have b3:(c:Int)<=(cap:Int):=om;simp [Instr.sliceBounds,e1,e2,e3,Result.andThen,run_sliceBound,b1,b2,b3]
 simp only [execOp,ho,Sem.run_bind,hx',hv,Instr.sliceAt,Instr.slice,underlying,run_program,Result.andThen_ok,hu,Sem.run_pure,Option.map_some,hbnd,sizeOf,typeInfo,hi',hsz,sliced]
theorem Zwu {t:TypeId} {x lo hi:Operand} (ho:o.op=.slice t x (some lo) (some hi) none) {k n0 cap ety sz l h:Nat} {a:Option Addr} {rows:List (List C)} (hx:evA σ.s x=.d (.one (.lit (.slice a n0 cap)))) (hm:gm σ.m k=some (.buf (some (a,cap)) ety sz rows)) (ht:Zbf e.P t=some sz)
  (hlo:evA σ.s lo=.d (.one (.lit (.int .i64 (l:Int))))) (hhi:evA σ.s hi=.d (.one (.lit (.int .i64 (h:Int))))) (hb:l<=h∧h<=rows.length) (hK:K ⟨setA σ.s o.dst (.d (.one (.lit (sliced a l h cap sz)))),σ.m⟩):Zbr e o σ K:=by
 intro he U w0 S0 nt ac w Q hd ⟨S,L,h1⟩;refine Oper.wp_mono (fun a' w' hs=>⟨_,hK,hs⟩) (Zdo h1 hd (Zav fun w S L ρv hC hr=>?_));have hx':=hr x (by simp [ho,Op.operands]);rw [hx] at hx';have hx':=ZaO hx';obtain ⟨hpl,_,_,hbuf⟩:=hC.own k _ hm;have hv:L.v k=.slice a rows.length cap:=hpl (a,cap) rfl;have hcap:rows.length<=cap:=by
  rcases hbuf with ⟨h4,_⟩ | ⟨g,cap',cur,h4,_,_,_,_,h5,_⟩
  ·rw [h4];exact Taj _
  ·rw [hv] at h4;injection h4 with _ _ h4;rw [h4];exact h5
 have hel:∃ ety i,e.P.underlying t=some (.slice ety)∧e.P.info? ety=some i∧i.size=sz:=by
  unfold Zbf at ht;split at ht
  ·rename_i ety hu;simp only [Tav] at ht;obtain ⟨i,hi,hs⟩:=ht;exact ⟨ety,i,hu,hi,hs⟩
  ·cases ht
 obtain ⟨el,i,hu,hi',hsz⟩:=hel;have e1:=hr lo (by simp [ho,Op.operands]);have e2:=hr hi (by simp [ho,Op.operands]);rw [hlo] at e1;rw [hhi] at e2;have e1:=ZaO e1;have e2:=ZaO e2;refine ⟨sliced a l h cap sz,?_,by simp [ARel,DRel,Rep]⟩;have hbnd:(Instr.sliceBounds true n0 cap (some (ρv lo)) (some (ρv hi)) none).run e.P w=.ok (l,h,cap) w:=by
  have b1:(l:Int)<=(h:Int):=om;have b2:(h:Int)<=(cap:Int):=om;simp [Instr.sliceBounds,e1,e2,Result.andThen,run_sliceBound,b1,b2]
 simp only [execOp,ho,Sem.run_bind,hx',Instr.sliceAt,Instr.slice,underlying,run_program,Result.andThen_ok,hu,Sem.run_pure,Option.map_some,Option.map_none,hbnd,sizeOf,typeInfo,hi',hsz,sliced]
theorem Zsx {x y:Operand} {t ety sz by' k d i j cap:Nat} {a0:Option Addr} {rows:List (List C)} (ho:o.op=.call ⟨.builtin .append,#[x,y],#[t,t]⟩) (hdd:o.dst=some d) (hb:ZaY e.P t=some (ety,sz,by'))
  (hx:evA σ.s x=.d (.one (.lit (.slice a0 i cap)))) (hy:evA σ.s y=.d (.one (.lit (sliced a0 j rows.length cap sz)))) (hm:gm σ.m k=some (.buf (some (a0,cap)) ety sz rows)) (hij:i < j∧j<=rows.length)
  (hK:K ⟨(d,.d (.one (.lit (.slice a0 (i+(rows.length - j)) cap))))::σ.s,(k,.buf (some (a0,cap)) ety sz (rows.take i++rows.drop j++rows.drop (i+(rows.length - j))))::remM k σ.m⟩):Zbr e o σ K:=by
 intro he U w0 S0 nt ac w Q hd ⟨S,L,h1⟩;have hx':=h1.eval x;rw [hx] at hx';have hx':=ZaO hx';have hy':=h1.eval y;rw [hy] at hy';have hy':=ZaO hy';obtain ⟨hpl,hbj⟩:=h1.cls.own k _ hm;have hv:L.v k=.slice a0 rows.length cap:=hpl (a0,cap) rfl;rw [hv] at hbj;obtain ⟨yb,yc,news,y1,y2,y3⟩:=ZkT hbj (l:=j) (h:=rows.length) ⟨hij.2,Tai _⟩;rw [Tap] at y1 y2 y3;have hln:(rows.drop j).length=rows.length - j:=Tax
 obtain ⟨q,z,hu,hi,hzz,hsz,hby,hzs,hs0,hb4⟩:=Zb6 hb;obtain ⟨_,hrl,hbuf⟩:=hbj;rcases hbuf with ⟨h4,_⟩ | ⟨g,cap',cur,h4,h6,hg1,hg2,hh0,h5,hcm,hcs,hrows⟩
 ·rw [h4] at hij;simp only [Tak] at hij;omega
 ·injection h4 with h7 _ h8
  subst h7 h8;have hsl:rowsLen sz (rows.drop j):=fun r hr=>hrl r (List.mem_of_mem_drop hr);obtain ⟨w',hst,hsim⟩:=h1.storeRows he (l:=i) (g:=g) hm (by rw [hv];simp only [vblk];rw [if_neg om]) (by rw [hln];omega) hsl y2;rw [hln] at hsim;obtain ⟨S',L',hsim⟩:=hsim;have hneed:i+(rows.length - j)<=cap:=om;have hrun:(execOp ac.eval o).run e.P w=.ok (.value (.slice (some ⟨g,0,none⟩) (i+(rows.length - j)) cap)) w':=by
   have hlo:∀ w',(Builtin.lenOf (sliced (some ⟨g,0,none⟩) j rows.length cap sz)).run e.P w'=.ok (rows.length - j) w':=fun w'=>by rw [y1,hln];simp [Builtin.lenOf]
   have hf:=y3 e.P w (fun _=>rfl);rw [hln] at hf;simp [execOp,ho,resolve,invoke,builtin,hx',hy',Builtin.append_,run_underlying hu,sizeOf,typeInfo,hi,hlo,hneed,hsz,hf,Addr.add_lit,hst,Result.andThen]
  unfold Oper.wp;rw [hrun,Oper.upon_value];refine ⟨_,hK,S',L',?_⟩;have:=hsim.put (α:=.d (.one (.lit (.slice (some ⟨g,0,none⟩) (i+(rows.length - j)) cap)))) (v:=.slice (some ⟨g,0,none⟩) (i+(rows.length - j)) cap) (by simp [ARel,DRel,Rep]) hd;rw [hdd] at this ⊢;exact this
end
theorem ZAR {e:Env} {K:St->Prop} {ds:List (Option Nat)} {os:List Oper} {d t ty cap ety sz:Nat} {p:String} {ed:Array Edge} {x lo hi mx:Operand} {s:List (Nat × A)} {m:List (Nat × Bk)} {a:Option Addr} {rows:List (List C)} (k l h c:Nat) (hb:l<=h∧h<=c∧c<=rows.length) (hK:Runs e ds 0 os ⟨(d,.d (.one (.lit (sliced a l h c sz))))::s,m⟩ K)
  (hx:nrm m (evA s x)=.buf k:=by exact sfx) (hm:gm m k=some (.buf (some (a,cap)) ety sz rows):=by exact snv) (ht:Zbf e.P t=some sz:=by exact snx)
  (hlo:evA s lo=.d (.one (.lit (.int .i64 (l:Int)))):=by exact sfx) (hhi:evA s hi=.d (.one (.lit (.int .i64 (h:Int)))):=by exact sfx) (hmx:evA s mx=.d (.one (.lit (.int .i64 (c:Int)))):=by exact sfx):Runs e ds 0 (⟨some d,.slice t x (some lo) (some hi) (some mx),ty,p,ed,none⟩::os) ⟨s,m⟩ K:=by
 simp only [Runs] at hK ⊢;exact ZbQ rfl (Zwt (o:=⟨some d,.slice t x (some lo) (some hi) (some mx),ty,p,ed,none⟩) rfl hx hm ht hlo hhi hmx hb (by simpa only [setA] using hK))
theorem ZAS {e:Env} {K:St->Prop} {ds:List (Option Nat)} {os:List Oper} {d t ty cap ety sz n0:Nat} {p:String} {ed:Array Edge} {x lo hi:Operand} {s:List (Nat × A)} {m:List (Nat × Bk)} {a:Option Addr} {rows:List (List C)} (k l h:Nat) (hb:l<=h∧h<=rows.length) (hK:Runs e ds 0 os ⟨(d,.d (.one (.lit (sliced a l h cap sz))))::s,m⟩ K)
  (hx:evA s x=.d (.one (.lit (.slice a n0 cap))):=by exact sfx) (hm:gm m k=some (.buf (some (a,cap)) ety sz rows):=by exact snv) (ht:Zbf e.P t=some sz:=by exact snx)
  (hlo:evA s lo=.d (.one (.lit (.int .i64 (l:Int)))):=by exact sfx) (hhi:evA s hi=.d (.one (.lit (.int .i64 (h:Int)))):=by exact sfx):Runs e ds 0 (⟨some d,.slice t x (some lo) (some hi) none,ty,p,ed,none⟩::os) ⟨s,m⟩ K:=by
 simp only [Runs] at hK ⊢;exact ZbQ rfl (Zwu (o:=⟨some d,.slice t x (some lo) (some hi) none,ty,p,ed,none⟩) rfl hx hm ht hlo hhi hb (by simpa only [setA] using hK))
theorem gAin {e:Env} {K:St->Prop} {ds:List (Option Nat)} {os:List Oper} {d t ty ety by' sz i j cap:Nat} {p:String} {ed:Array Edge} {x y:Operand} {rows:List (List C)} {a0:Option Addr} {s:List (Nat × A)} {m m2:List (Nat × Bk)} (k:Nat) (hij:i < j∧j<=rows.length) (hK:Runs e ds 0 os ⟨(d,.d (.one (.lit (.slice a0 (i+(rows.length - j)) cap))))::s,(k,.buf (some (a0,cap)) ety sz (rows.take i++rows.drop j++rows.drop (i+(rows.length - j))))::m2⟩ K)
  (hb:ZaY e.P t=some (ety,sz,by'):=by exact sfx) (hx:evA s x=.d (.one (.lit (.slice a0 i cap))):=by exact sfx) (hy:evA s y=.d (.one (.lit (sliced a0 j rows.length cap sz))):=by exact snx) (hm:gm m k=some (.buf (some (a0,cap)) ety sz rows):=by exact snx)
  (hr:remM k m=m2:=by exact snv):Runs e ds 0 (⟨some d,.call ⟨.builtin .append,#[x,y],#[t,t]⟩,ty,p,ed,none⟩::os) ⟨s,m⟩ K:=by
 subst hr;simp only [Runs] at hK ⊢;exact ZbQ rfl (Zsx (o:=⟨some d,.call ⟨.builtin .append,#[x,y],#[t,t]⟩,ty,p,ed,none⟩) rfl rfl hb hx hy hm hij hK)
theorem Zg3 (z:Tm):∀ (l m:List Tm),cntT z (l++m)=cntT z l+cntT z m
 | [],m=>by simp [cntT]
 | x::l,m=>by simp only [Taf,cntT,Zg3 z l m];omega
open Classical in
theorem Zlf {z t:Tm} {l:List Tm} {i:Nat} (h:l[i]?=some t):cntT z (l.take (i+1))=cntT z (l.take i)+(if t=z then 1 else 0):=by
 rw [List.take_add_one,h,Zg3];simp [cntT]
open Classical in
theorem Zz8 {z t:Tm} {l:List Tm} {k:Nat} (h:l[k]?=some t):cntT z (l.take k++l.drop (k+1))+(if t=z then 1 else 0)=cntT z l:=by
 obtain ⟨h1,h2⟩:=Tad.1 h;have e:l=l.take k++(t::l.drop (k+1)):=by
  rw [<- h2,<- List.drop_eq_getElem_cons h1,Tbm]
 conv=>rhs;rw [e]
 rw [Zg3,Zg3];simp only [cntT];omega
structure LeftOk (a b:List Tm) (i:Nat) (R B:List Tm):Prop where
 le:i<=a.length
 cr:∀ z,cntT z R=cntT z (a.take i) - cntT z b
 cb:∀ z,cntT z B=cntT z b - cntT z (a.take i)
 rm:∀ x∈R,x∈a
 bm:∀ x∈B,x∈b
 rl:R.length<=i
 bl:B.length<=b.length
theorem LeftOk.start {a b:List Tm}:LeftOk a b 0 [] b:=⟨Taj _,fun z=>by simp [cntT],fun z=>by simp [cntT],fun x h=>absurd h (by simp),fun x h=>h,Tai _,Tai _⟩
theorem LeftOk.cut {a b:List Tm} {i k:Nat} {R B:List Tm} {t:Tm} (h:LeftOk a b i R B) (ht:a[i]?=some t) (hk:B[k]?=some t):LeftOk a b (i+1) R (B.take k++B.drop (k+1)):=by
 have hB:=ZbT.2 (Tac hk);have hi:=(Tad.1 ht).1;refine ⟨hi,fun z=>?_,fun z=>?_,h.rm,fun x hx=>h.bm x ((Tbh.1 hx).elim List.mem_of_mem_take List.mem_of_mem_drop),Nat.le_succ_of_le h.rl,?_⟩
 ·rw [h.cr,Zlf ht];by_cases e:t=z
  ·subst e;have:=h.cb t;rw [if_pos rfl];omega
  ·rw [if_neg e];rfl
 ·have h1:=Zz8 (z:=z) hk;have h2:=h.cb z;rw [Zlf ht];omega
 ·have:=h.bl;simp only [Tae,Taw,Tax];have:=(Tad.1 hk).1;omega
theorem LeftOk.add {a b:List Tm} {i:Nat} {R B:List Tm} {t:Tm} (h:LeftOk a b i R B) (ht:a[i]?=some t) (hk:t ∉ B):LeftOk a b (i+1) (R++[t]) B:=by
 have hB:cntT t B=0:=Nat.eq_zero_of_not_pos fun q=>hk (ZbT.1 q);have hi:=(Tad.1 ht).1;refine ⟨hi,fun z=>?_,fun z=>?_,fun x hx=>?_,h.bm,by have:=h.rl;simp;omega,h.bl⟩
 ·rw [Zg3,h.cr,Zlf ht];simp only [cntT];by_cases e:t=z
  ·subst e;have:=h.cb t;rw [if_pos rfl];omega
  ·rw [if_neg e];omega
 ·rw [h.cb,Zlf ht];by_cases e:t=z
  ·subst e;have:=h.cb t;rw [if_pos rfl];omega
  ·rw [if_neg e];rfl
 ·rcases Tbh.1 hx with hx | hx
  ·exact h.rm x hx
  ·rw [Tbj] at hx;subst hx;exact Tac ht
theorem LeftOk.done {rk:Int->Int} {cm:Int->Bool} {a b R B:List Tm} (h:LeftOk a b a.length R B):BagG rk cm a b ↔ (∀ u∈B,∃ t∈R,Gr rk cm t u)∧0 < R.length:=by
 have hr:∀ z,z∈R ↔ cntT z b < cntT z a:=fun z=>by rw [<- ZbT,h.cr,Tap];omega
 have hb:∀ z,z∈B ↔ cntT z a < cntT z b:=fun z=>by rw [<- ZbT,h.cb,Tap];omega
 unfold BagG;constructor
 ·rintro ⟨h1,x,hx⟩;refine ⟨fun u hu=>?_,List.length_pos_of_mem ((hr x).2 hx)⟩;obtain ⟨t,h2,h3⟩:=h1 u ((hb u).1 hu);exact ⟨t,(hr t).2 h2,h3⟩
 ·rintro ⟨h1,h2⟩;obtain ⟨x,hx⟩:=List.exists_mem_of_length_pos h2;refine ⟨fun y hy=>?_,x,(hr x).1 hx⟩;obtain ⟨t,h3,h4⟩:=h1 y ((hb y).2 hy);exact ⟨t,(hr t).1 h3,h4⟩
theorem Zwv {e:Env} {f:FuncId} {r post:List D} {rows:List (List C)} {ty sz:Nat} {a:Option Addr} {cap:Nat} (h:Con e f (.one (.sl rows)::post) r) (hl:r.all litD=true) :
  ConP e f (.one (.lit (.slice a rows.length cap))::post) [.buf (some (a,cap)) ty sz rows] (fun r' q=>r'=r∧q=[.buf (some (a,cap)) ty sz rows]):=by
 refine ⟨h.1,fun w S vs hS hE hG hpm hap hvs=>?_⟩;obtain ⟨h1,hdj⟩:=hpm _ (Tbj.2 rfl);have h1:ZaH w S ty sz rows (.slice a rows.length cap):=h1;have hpb:∀ g,ZaU [.buf (some (a,cap)) ty sz rows] g ↔ vblk (.slice a rows.length cap)=some g:=fun g=>⟨fun ⟨x,hx,hg⟩=>by
  obtain rfl:=Tbj.1 hx;exact hg,fun q=>⟨_,Tbj.2 rfl,q⟩⟩
 have hlt:∀ g,vblk (.slice a rows.length cap)=some g->g < w.heap.size∧¬ S g:=fun g hg=>by
  obtain ⟨_,_,h2⟩:=h1;rcases h2 with ⟨_,a',h3⟩ | ⟨g',cap',cur,h3,h4,h5,h6,_⟩
  ·rw [h3] at hg;cases a' <;> simp [vblk] at hg
  ·rw [h3] at hg;simp only [vblk] at hg;have:g'=g:=by
    have hc:cap'≠0:=om;simpa [hc] using hg
   subst this;exact ⟨h5,h6⟩
 match vs,hvs with
 | v::vs,⟨hv,hvs⟩ =>
  have hv:v=.slice a rows.length cap:=hv;subst hv;have hd:Zaq w (fun b=>S b∨vblk (.slice a rows.length cap)=some b) (.one (.sl rows)::post) (.slice a rows.length cap::vs):=⟨h1.rep,Zaq.keep (Tai _) (fun _ _ _=>rfl) (fun b hb=>.inl hb) hvs⟩;refine (h.2 w (fun b=>S b∨vblk (.slice a rows.length cap)=some b) _ (fun b hb=>hb.elim (hS b) fun q=>⟨(hlt b q).1,hdj b q⟩) hE hG hd).mono fun en w' ⟨v,q1,hk,hg,ha⟩=>?_
  ·refine ⟨v,r,_,q1,⟨rfl,rfl⟩,hk.up fun b q=>.inl q,hg,fun x hx=>?_,⟨fun y hy=>(by cases hy),trivial⟩,Zot hl ha⟩;obtain rfl:=Tbj.1 hx;refine ⟨?_,fun g q=>.inl ((hpb g).2 q)⟩;have hcell:∀ b o,S b->w'.cell? ⟨b,o,none⟩=w.cell? ⟨b,o,none⟩:=fun b o q=>by
    have:=hk.block b (hS b q).1 (hS b q).2;simp only [World.cell?,this]
   exact h1.keep hk.size hcell (fun b q=>⟨.inl q,fun q2=>(hlt b ((hpb b).1 q2)).2 q⟩) fun g q=>⟨hk.block g (hlt g q).1 (hdj g q),fun q2=>q2.2 ((hpb g).2 q)⟩
end Go.Proofs.YteiljfkknokfjaaGreatDoor
