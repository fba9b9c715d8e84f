/-
  Part of a proof: Qm9, Qmf, Qmg, Qma, Qmb, Qmc, Qmd, Tt, Qme, Qf, LString, LSub, LSorts, LInt.
-/
import Derived.Test.YtffmjghcpgpfpaaGreatDoorBIsUnifierCard0
import Derived.Test.YtffmjghcpgpfpaaGreatDoorChecked
import Derived.Test.YtffmjghcpgpfpaaGreatDoorRows
import Derived.Deep.QuietTactic
import Derived.BigQuiet
import Derived.Deep.RegionHeld3
set_option linter.unusedSimpArgs false
set_option linter.unusedVariables false
namespace Go.Proofs.YtffmjghcpgpfpaaGreatDoor
open Go.RowKit
section
variable {e:Env} {U:Nat->Prop} {w0:World} {S0:Nat->Prop} {nt:Nat} {σ:St} {a:Act} {w:World} {S:Nat->Prop} {L:Lay} {o:Oper} {Q:Exit->Act->World->Prop}
theorem thenV_wp (he:e.Ok) (h:SimE e U w0 S0 nt σ a w) (hd:∀ d,o.dst=some d->d < nt) {σ':St} (hp:putE σ o.dst (stepV e.P σ.m (evA σ.s) o.op)=some σ'):o.wp e.P a w (SimE e U w0 S0 nt σ') Q:=by
 obtain ⟨S,L,h⟩:=h
 unfold putE at hp
 split at hp
 ·rename_i α hα
  injection hp with hp;subst hp
  exact gives_then h hd (stepV_gives he hα)
 ·cases hp
theorem thenVq_wp (he:e.Ok) (h:SimE e U w0 S0 nt σ a w) (hd:∀ d,o.dst=some d->d < nt) {σ':St} {q:Bool} {ks:List Nat} (hp:thenV e.P o.dst o.op (frzQ q ks σ)=some σ'):o.wp e.P a w (SimE e U w0 S0 nt σ') Q:=by
 unfold thenV at hp
 split at hp
 ·rename_i σ1 hf
  exact thenV_wp he (frzQ_sim h he hf) hd hp
 ·cases hp
theorem newE_wp (he:e.Ok) (h:SimE e U w0 S0 nt σ a w) (hd:∀ d,o.dst=some d->d < nt) {σ':St} {t:TypeId} {x:Operand} (ho:o.op=.box t x) (hp:newE σ o.dst (cellsA (evA σ.s x))=some σ'):o.wp e.P a w (SimE e U w0 S0 nt σ') Q:=by
 obtain ⟨S,L,h⟩:=h
 unfold newE at hp
 split at hp
 ·rename_i d cs hds hz
  injection hp with hp;subst hp
  obtain ⟨h1,_⟩:=cellsA_spec hz (h.eval x)
  have hn:=h.new he (us:=(a.eval x).cells) (ty:=t) (hd d hds) h1
  unfold Oper.wp
  have hrun:(execOp a.eval o).run e.P w=.ok (.value (.pointer (some ⟨w.heap.size,0,none⟩))) (w.alloc (.cells (a.eval x).cells t)):=by
   simp [execOp,ho,Instr.box,newVar,newRow,Result.andThen]
  rw [hrun,Oper.upon_value,hds]
  exact hn
 ·cases hp
theorem alloc_wp (he:e.Ok) (h:SimE e U w0 S0 nt σ a w) (hd:∀ d,o.dst=some d->d < nt) {σ':St} {t:TypeId} (ho:o.op=.alloc t) (hp:newE σ o.dst (zeroT e.P t)=some σ'):o.wp e.P a w (SimE e U w0 S0 nt σ') Q:=by
 obtain ⟨S,L,h⟩:=h
 unfold newE at hp
 split at hp
 ·rename_i d cs hds hz
  injection hp with hp;subst hp
  unfold zeroT at hz
  simp only [Option.map_eq_some_iff,Option.bind_eq_some_iff] at hz
  obtain ⟨v,⟨i,hi,hv⟩,rfl⟩:=hz
  have hn:=h.new he (us:=v.cells) (ty:=t) (hd d hds) (RepVals_zero v.cells.toList)
  unfold Oper.wp
  have hrun:(execOp a.eval o).run e.P w=.ok (.value (.pointer (some ⟨w.heap.size,0,none⟩))) (w.alloc (.cells v.cells t)):=by
   simp [execOp,ho,Instr.alloc,zeroValue,typeInfo,hi,hv,newVar,newRow,Result.andThen]
  rw [hrun,Oper.upon_value,hds]
  exact hn
 ·cases hp
theorem store_wp (he:e.Ok) (h:SimE e U w0 S0 nt σ a w) {σ':St} {t:TypeId} {x y:Operand} (ho:o.op=.store t x y) (hp:storeE σ o.dst (nrm σ.m (evA σ.s x)) (cellsA (evA σ.s y)) (sizeT e.P t)=some σ'):o.wp e.P a w (SimE e U w0 S0 nt σ') Q:=by
 obtain ⟨S,L,h⟩:=h
 unfold storeE at hp
 split at hp
 ·rename_i k off us n hds hx hy hn
  unfold Proofs.YtffmjghcpgpfpaaGreatDoor.storeVar at hp
  split at hp
  ·rename_i o' cs hm'
   split at hp
   ·rename_i hc
    injection hp with hp;subst hp
    obtain ⟨hl1,hl2⟩:=hc
    obtain ⟨h1,h2⟩:=cellsA_spec hy (h.eval y)
    have h3:=nrm_rel h.cls (h.eval x)
    rw [hx] at h3
    have h3:a.eval x=.pointer (some ⟨L.b k,off,none⟩):=h3
    obtain ⟨w',h4,h5⟩:=h.store (off:=off) he hm' (by omega) h1 (okCell_all h2 h1)
    simp only [sizeT,Option.map_eq_some_iff] at hn
    obtain ⟨i,hi,hin⟩:=hn
    have hsz:(a.eval y).cells.size=i.size:=by rw [hin,<- hl1,<- h1.len,Array.length_toList]
    unfold Oper.wp
    have hrun:(execOp a.eval o).run e.P w=.ok .skip w':=by
     simp only [execOp,ho,h3,Instr.storeAt,Instr.sureAddr,Go.storeVar,Sem.run_bind,Sem.run_pure,Result.andThen_ok,sizeOf,typeInfo,hi,run_program,hsz,ne_eq,not_true_eq_false,if_false,h4]
    rw [hrun,Oper.upon_skip,hds]
    rw [hl1] at h5
    exact h5
   ·cases hp
  ·cases hp
 ·rename_i k j sz off us n hds hx hy hn
  unfold Proofs.YtffmjghcpgpfpaaGreatDoor.storeRow at hp
  split at hp
  ·rename_i o' ety sz' rows hm
   split at hp
   ·rename_i hss
    subst hss
    split at hp
    ·rename_i r hr
     split at hp
     ·rename_i hc
      injection hp with hp;subst hp
      obtain ⟨hl1,hl2⟩:=hc
      obtain ⟨h1,h2⟩:=cellsA_spec hy (h.eval y)
      have h3:=nrm_rel h.cls (h.eval x)
      rw [hx] at h3
      obtain ⟨g,hg,h3⟩:=h3
      obtain ⟨w',h4,h5⟩:=h.storeRow (off:=off) he hm hr hg (by omega) h1 h2
      simp only [sizeT,Option.map_eq_some_iff] at hn
      obtain ⟨i,hi,hin⟩:=hn
      have hsz:(a.eval y).cells.size=i.size:=by rw [hin,<- hl1,<- h1.len,Array.length_toList]
      unfold Oper.wp
      have hrun:(execOp a.eval o).run e.P w=.ok .skip w':=by
       simp only [execOp,ho,h3,Instr.storeAt,Instr.sureAddr,Go.storeVar,Sem.run_bind,Sem.run_pure,Result.andThen_ok,sizeOf,typeInfo,hi,run_program,hsz,ne_eq,not_true_eq_false,if_false,h4]
      rw [hrun,Oper.upon_skip,hds]
      rw [hl1] at h5
      exact h5
     ·cases hp
    ·cases hp
   ·cases hp
  ·cases hp
 ·cases hp
theorem assign_wp (he:e.Ok) (h:SimE e U w0 S0 nt σ a w) (hd:∀ d,o.dst=some d->d < nt) {σ':St} {x:Operand} (ho:o.op=.assign x) (hp:assignE e.P σ o.dst o.type (evA σ.s x)=some σ'):o.wp e.P a w (SimE e U w0 S0 nt σ') Q:=by
 obtain ⟨S,L,h⟩:=h
 have hrun:(execOp a.eval o).run e.P w=.ok (.value (a.eval x)) w:=by simp [execOp,ho]
 have hx:=h.eval x
 unfold Oper.wp
 rw [hrun,Oper.upon_value]
 unfold assignE at hp
 split at hp
 ·rename_i d k hds hk
  rw [hk] at hx
  have hx:a.eval x=L.v k:=hx
  unfold assignB at hp
  split at hp
  ·rename_i o' ety sz rows hm
   split at hp
   ·rename_i hkd
    subst hkd
    injection hp with hp;subst hp
    rw [hds]
    exact ⟨S,L,h.put (α:=.buf k) hx (dst:=some k) (fun d' hd'=>by injection hd' with hd';subst hd';exact hd _ hds)⟩
   ·injection hp with hp;subst hp
    rw [hds,hx]
    exact h.rename he (hd d hds) hm
  ·cases hp
 ·rename_i d hds hk
  rw [hk] at hx
  unfold newB at hp
  split at hp
  ·rename_i ety sz by' hb
   injection hp with hp;subst hp
   obtain ⟨i,z,hu,hi,hz,hsz,hby,hzs,hs0,hb4⟩:=bytesT_spec hb
   rw [hds]
   exact h.empty he (hd d hds) hs0 hx
  ·injection hp with hp;subst hp
   rw [hds]
   exact ⟨S,L,h.put (α:=.d (.clip [])) hx (dst:=some d) (fun d' hd'=>by injection hd' with hd';subst hd';exact hd _ hds)⟩
 ·injection hp with hp;subst hp
  exact ⟨S,L,h.put hx hd⟩
theorem stepE_wp (he:e.Ok) (h:SimE e U w0 S0 nt σ a w) (hd:∀ d,o.dst=some d->d < nt) {q:Bool} {σ':St} (hp:stepE e.P q σ o.dst o.type o.op=some σ'):o.wp e.P a w (SimE e U w0 S0 nt σ') Q:=by
 unfold stepE at hp
 split at hp
 ·rename_i t ho
  split at hp
  ·cases hp
  ·exact alloc_wp he h hd ho hp
 ·rename_i t x ho
  split at hp
  ·cases hp
  ·unfold thenBox at hp
   split at hp
   ·rename_i σ1 hf;exact newE_wp he (frzQ_sim h he hf) hd ho hp
   ·cases hp
 ·rename_i t x y ho
  split at hp
  ·cases hp
  ·unfold thenStore at hp
   split at hp
   ·rename_i σ1 hf;exact store_wp he (frzQ_sim h he hf) ho hp
   ·cases hp
 ·rename_i x ho
  split at hp
  ·cases hp
  ·exact assign_wp he h hd ho hp
 ·rename_i t l c ho
  split at hp
  ·cases hp
  ·obtain ⟨S,L,h⟩:=h
   cases hds:o.dst with
   | none=>rw [hds] at hp;simp [makeE] at hp
   | some d=>exact h.made he (hd d hds) hds ho hp
 ·rename_i args ts ho
  split at hp
  ·cases hp
  ·obtain ⟨S,L,h⟩:=h
   exact h.appended he hd ho hp
 ·rename_i t parts ho
  rw [<- ho] at hp
  exact thenVq_wp he h hd hp
 ·rename_i t n parts ho
  rw [<- ho] at hp
  exact thenVq_wp he h hd hp
 ·rename_i f fs caps ho
  rw [<- ho] at hp
  exact thenVq_wp he h hd hp
 ·exact thenV_wp he h hd hp
def StepOk (e:Env) (o:Oper) (σ:St) (K:St->Prop):Prop:=e.Ok->∀ (U:Nat->Prop) (w0:World) (S0:Nat->Prop) (nt:Nat) (a:Act) (w:World) (Q:Exit->Act->World->Prop),(∀ d,o.dst=some d->d < nt)->SimE e U w0 S0 nt σ a w->o.wp e.P a w (fun a' w'=>∃ σ',K σ'∧SimE e U w0 S0 nt σ' a' w') Q
def QuietOk (e:Env) (o:Oper) (σ:St) (K:St->Prop):Prop:=e.Ok->∃ α,K ⟨setA σ.s o.dst α,σ.m⟩∧∀ (U:Nat->Prop) (base:Nat) (S0:Nat->Prop),GivesA e U base S0 σ.m o (evA σ.s) α
def Turn (e:Env) (σ:St) (P:St->Prop):Prop:=e.Ok->∀ (U:Nat->Prop) (w0:World) (S0:Nat->Prop) (nt:Nat) (a:Act) (w:World),SimE e U w0 S0 nt σ a w->∃ σ',P σ'∧SimE e U w0 S0 nt σ' a w
def stepQ (e:Env) (q:Bool) (o:Oper) (σ:St) (K:St->Prop):Prop:=if q then QuietOk e o σ K else StepOk e o σ K
end
section
variable {e:Env} {σ:St} {o:Oper} {K:St->Prop}
theorem step_E {σ':St} (hp:stepE e.P false σ o.dst o.type o.op=some σ') (hK:K σ'):StepOk e o σ K:=fun he U w0 S0 nt a w Q hd h=>Oper.wp_mono (fun a' w' hs=>⟨σ',hK,hs⟩) (stepE_wp he h hd hp)
theorem quiet_E {σ':St} (h1:stepE e.P true σ o.dst o.type o.op=some σ') (h2:K σ'):QuietOk e o σ K:=fun he=>by
 have put:∀ (σ':St),putE σ o.dst (stepV e.P σ.m (evA σ.s) o.op)=some σ'->K σ'->∃ α,K ⟨setA σ.s o.dst α,σ.m⟩∧∀ (U:Nat->Prop) (base:Nat) (S0:Nat->Prop),GivesA e U base S0 σ.m o (evA σ.s) α:=fun σ' h1 h2=>by
  unfold putE at h1
  split at h1
  ·rename_i α hα
   injection h1 with h1;subst h1
   exact ⟨α,h2,fun U base S0=>stepV_gives he hα⟩
  ·cases h1
 have putq:∀ (σ':St) (ks:List Nat),thenV e.P o.dst o.op (frzQ true ks σ)=some σ'->K σ'->∃ α,K ⟨setA σ.s o.dst α,σ.m⟩∧∀ (U:Nat->Prop) (base:Nat) (S0:Nat->Prop),GivesA e U base S0 σ.m o (evA σ.s) α:=fun σ' ks h1 h2=>by
  unfold thenV frzQ at h1
  cases ks with
  | nil=>exact put σ' h1 h2
  | cons k ks=>simp at h1
 unfold stepE at h1
 split at h1
 ·simp at h1
 ·simp at h1
 ·simp at h1
 ·simp at h1
 ·simp at h1
 ·simp at h1
 ·rename_i t parts ho;rw [<- ho] at h1;exact putq σ' _ h1 h2
 ·rename_i t n parts ho;rw [<- ho] at h1;exact putq σ' _ h1 h2
 ·rename_i f fs caps ho;rw [<- ho] at h1;exact putq σ' _ h1 h2
 ·exact put σ' h1 h2
theorem step_turn {P:St->Prop} (hT:Turn e σ P) (h:∀ σ',P σ'->StepOk e o σ' K):StepOk e o σ K:=fun he U w0 S0 nt a w Q hd hs=>by
 obtain ⟨σ',h1,h2⟩:=hT he U w0 S0 nt a w hs
 exact h σ' h1 he U w0 S0 nt a w Q hd h2
theorem turn_frzs (ks:List Nat) {σ':St} (h:frzs ks σ=σ'):Turn e σ (fun x=>x=σ'):=fun he U w0 S0 nt a w hs=>⟨σ',rfl,h ▸ SimE.frzs he ks σ hs⟩
end
theorem ARel_ret {w:World} {S:Nat->Prop} {L L':Lay} {r:List D} {v:Value} (h:ARel w S L (retA r) v):ARel w S L' (retA r) v:=by
 cases r with
 | nil=>exact h
 | cons y ys =>
  cases ys with
  | nil=>exact h
  | cons z zs=>exact h
section
variable {e:Env} {σ:St} {o:Oper} {K:St->Prop} {c:Operand} {args:Array Operand} {ts:Array TypeId} {f:FuncId} {caps:List C} {xs:List D}
theorem step_con (ho:o.op=.call ⟨.value c,args,ts⟩) {q:Bool} {σ1:St} {r:List D} (hf:frzQ q (keysA (args.toList.map (evA σ.s))) σ=some σ1) (hc:calleeA (evA σ1.s c)=some (f,caps)) (hx:dsA (args.toList.map (evA σ1.s))=some xs) (hcon:Con e f (xs++caps.map .one) r) (hK:K ⟨setA σ1.s o.dst (retA r),σ1.m⟩):stepQ e q o σ K:=by
 cases q with
 | true =>
  intro he
  have hs:σ1=σ:=by
   unfold frzQ at hf
   split at hf
   ·injection hf with hf;exact hf.symm
   ·simp at hf
  subst hs
  exact ⟨_,hK,fun U base S0=>gives_call ho hc hx hcon⟩
 | false =>
  intro he U w0 S0 nt a w Q hd h
  obtain ⟨S,L,h1⟩:=frzQ_sim h he hf
  exact Oper.wp_mono (fun a' w' hs=>⟨_,hK,hs⟩) (gives_then h1 hd (gives_call ho hc hx hcon))
theorem step_makeMap {t:TypeId} (ho:o.op=.makeMap t none) (hK:∀ b:Nat,K ⟨setA σ.s o.dst (.d (.one (.lit (.map (some b))))),σ.m⟩):StepOk e o σ K:=by
 intro he U w0 S0 nt a w Q hd ⟨S,L,h1⟩
 have hb:Below w.heap.size w (w.alloc (.map #[] 0)):=belowA w _
 have hk:Kept e.D e.E w.heap.size w (w.alloc (.map #[] 0)):=Kept.of_below hb (fun _=>Nat.le_refl _)
 have hC:=h1.cls
 have hC':Cls e U w0.heap.size S0 σ.m (w.alloc (.map #[] 0)) S L:=hC.later hk (he.keep _ _ hb.size (fun b hE=>hb.block b (Nat.lt_of_lt_of_le (hC.ein b hE) hC.bsz)) hC.g) (fun _ h=>h) (fun _ h=>.inl h)
 unfold Oper.wp
 have hrun:(execOp a.eval o).run e.P w=.ok (.value (.map (some w.heap.size))) (w.alloc (.map #[] 0)):=by
  simp [execOp,ho,Instr.makeMap,newObj,Result.andThen]
  rfl
 rw [hrun,Oper.upon_value]
 exact ⟨_,hK w.heap.size,S,L,(h1.later hC' hk (fun _ h=>h)).put (by simp [ARel,DRel,Rep]) hd⟩
end
def pinned:Bk->Bool
 | .var (some _) _=>true
 | .buf (some _) _ _ _=>true
 | .set _ _=>true
 | _=>false
def getM (m:List (Nat × Bk)):List Nat->Option (List Bk)
 | []=>some []
 | k::ks=>match gm m k,getM m ks with
  | some x,some r=>some (x::r)
  | _,_=>none
def zipM:List Nat->List Bk->List (Nat × Bk)
 | k::ks,x::xs=>(k,x)::zipM ks xs
 | _,_=>[]
def remMs:List Nat->List (Nat × Bk)->List (Nat × Bk)
 | [],m=>m
 | k::ks,m=>remMs ks (remM k m)
def killKs:List Nat->List (Nat × A)->List (Nat × A)
 | [],s=>s
 | k::ks,s=>killKs ks (killK k s)
def layB (z:List (Nat × Bk)) (L:Lay):Lay :=
 ⟨fun k=>match gm z k with
  | some (.var (some b) _)=>b
  | _=>L.b k,fun k=>match gm z k with
  | some (.buf (some (a,cap)) _ _ rows)=>.slice a rows.length cap
  | _=>L.v k⟩
theorem own_of_pin {w:World} {S:Nat->Prop} {z:List (Nat × Bk)} {L:Lay} {k:Nat} {x:Bk} (h:PinRel w S x) (hz:gm z k=some x):Own1 w S (layB z L) k x∧∀ g,blkOf (layB z L) k x g ↔ pblk x g:=by
 cases x with
 | var o cs =>
  cases o with
  | none=>exact h.elim
  | some b =>
   have e:(layB z L).b k=b:=by simp only [layB,hz]
   simp only [Own1,blkOf,pblk,e]
   exact ⟨⟨fun b' hb'=>by injection hb',h⟩,fun _=>trivial⟩
 | buf o ty sz rows =>
  cases o with
  | none=>exact h.elim
  | some q =>
   obtain ⟨a,cap⟩:=q
   have e:(layB z L).v k=.slice a rows.length cap:=by simp only [layB,hz]
   simp only [Own1,blkOf,pblk,e]
   exact ⟨⟨fun a' ha'=>by injection ha' with ha';rw [<- ha'],h⟩,fun _=>trivial⟩
 | set E G=>exact ⟨h,fun g=>Iff.rfl⟩
theorem pin_of_own {w:World} {S:Nat->Prop} {L:Lay} {k:Nat} {x:Bk} (h:Own1 w S L k x) (hp:pinned x=true):PinRel w S x∧∀ g,blkOf L k x g ↔ pblk x g:=by
 cases x with
 | var o cs =>
  cases o with
  | none=>simp [pinned] at hp
  | some b =>
   obtain ⟨h0,h1⟩:=h
   have e:=h0 b rfl
   rw [e] at h1
   simp only [PinRel,blkOf,pblk,e]
   exact ⟨h1,fun _=>trivial⟩
 | buf o ty sz rows =>
  cases o with
  | none=>simp [pinned] at hp
  | some q =>
   obtain ⟨a,cap⟩:=q
   obtain ⟨h0,h1⟩:=h
   have e:=h0 (a,cap) rfl
   rw [e] at h1
   simp only [PinRel,blkOf,pblk,e]
   exact ⟨h1,fun _=>trivial⟩
 | set E G=>exact ⟨h,fun g=>Iff.rfl⟩
theorem gm_app {z m:List (Nat × Bk)} {k:Nat}:gm (z++m) k=match gm z k with
  | some x=>some x
  | none=>gm m k:=by
 induction z with
 | nil=>rfl
 | cons q r ih =>
  obtain ⟨k',x⟩:=q
  simp only [List.cons_append,gm]
  split
  ·rfl
  ·exact ih
theorem gm_zipM {ks:List Nat} {pm:List Bk} {k:Nat} {x:Bk} (h:gm (zipM ks pm) k=some x):k∈ks∧x∈pm:=by
 induction ks generalizing pm with
 | nil=>cases h
 | cons q r ih =>
  cases pm with
  | nil=>cases h
  | cons y ys =>
   simp only [zipM,gm] at h
   split at h
   ·rename_i e;injection h with h;exact ⟨by simp [e],by simp [h]⟩
   ·have:=ih h;exact ⟨List.mem_cons_of_mem _ this.1,List.mem_cons_of_mem _ this.2⟩
theorem zip_apart {ks:List Nat} {pm:List Bk} (ha:Apart pm) {k k':Nat} {x x':Bk} {g:Nat} (h:gm (zipM ks pm) k=some x) (h':gm (zipM ks pm) k'=some x') (hb:pblk x g) (hb':pblk x' g):k=k':=by
 induction ks generalizing pm with
 | nil=>cases h
 | cons q r ih =>
  cases pm with
  | nil=>cases h
  | cons y ys =>
   simp only [zipM,gm] at h h'
   obtain ⟨a1,a2⟩:=ha
   split at h
   ·rename_i e
    injection h with h;subst h
    split at h'
    ·rename_i e';rw [e,e']
    ·exact (a1 _ (gm_zipM h').2 g hb hb').elim
   ·split at h'
    ·injection h' with h';subst h'
     exact (a1 _ (gm_zipM h).2 g hb' hb).elim
    ·exact ih a2 h h'
theorem gm_remMs {ks:List Nat} {m:List (Nat × Bk)} {k:Nat}:gm (remMs ks m) k=if k∈ks then none else gm m k:=by
 induction ks generalizing m with
 | nil=>simp [remMs]
 | cons q r ih =>
  simp only [remMs,ih,gm_remM,List.mem_cons]
  by_cases h1:k∈r
  ·simp [h1]
  ·by_cases h2:k=q <;> simp [h1,h2]
theorem gs_killKs (t:Nat):∀ (ks:List Nat) (s:List (Nat × A)),(gs (killKs ks s) t=gs s t∧∀ k∈ks,¬ hasKey k (gs s t))∨gs (killKs ks s) t=.undef
 | [],s=>.inl ⟨rfl,by simp⟩
 | k::ks,s=>by
  rcases gs_killKs t ks (killK k s) with ⟨h1,h2⟩ | h1
  ·rcases gs_killK k t s with ⟨h3,h4⟩ | h3
   ·refine .inl ⟨h1.trans h3,fun k' hk'=>?_⟩
    rcases List.mem_cons.1 hk' with rfl | hk'
    ·exact h4
    ·rw [<- h3];exact h2 k' hk'
   ·exact .inr (h1.trans h3)
  ·exact .inr h1
theorem getM_mem {m:List (Nat × Bk)}:∀ {ks:List Nat} {pm:List Bk},getM m ks=some pm->∀ x∈pm,∃ k∈ks,gm m k=some x
 | [],pm,h,x,hx=>by simp only [getM,Option.some.injEq] at h;subst h;cases hx
 | k::ks,pm,h,x,hx=>by
  simp only [getM] at h
  split at h
  ·rename_i y r h1 h2
   injection h with h;subst h
   rcases List.mem_cons.1 hx with rfl | hx
   ·exact ⟨k,by simp,h1⟩
   ·obtain ⟨k',h3,h4⟩:=getM_mem h2 x hx;exact ⟨k',List.mem_cons_of_mem _ h3,h4⟩
  ·cases h
theorem getM_apart {m:List (Nat × Bk)} {w:World} {S:Nat->Prop} {L:Lay} (hown:∀ k x,gm m k=some x->Own1 w S L k x) (hinj:∀ k k' x x' g,gm m k=some x->gm m k'=some x'->blkOf L k x g->blkOf L k' x' g->k=k') :
  ∀ {ks:List Nat} {pm:List Bk},ks.Nodup->getM m ks=some pm->(∀ x∈pm,pinned x=true)->Apart pm
 | [],pm,_,h,_=>by simp only [getM,Option.some.injEq] at h;subst h;trivial
 | k::ks,pm,hn,h,hp=>by
  simp only [getM] at h
  split at h
  ·rename_i y r h1 h2
   injection h with h;subst h
   rw [List.nodup_cons] at hn
   refine ⟨fun x hx g hy hxg=>?_,getM_apart hown hinj hn.2 h2 (fun x hx=>hp x (List.mem_cons_of_mem _ hx))⟩
   obtain ⟨k',h3,h4⟩:=getM_mem h2 x hx
   have e:=hinj k k' y x g h1 h4 (((pin_of_own (hown k y h1) (hp y (by simp))).2 g).2 hy) (((pin_of_own (hown k' x h4) (hp x (List.mem_cons_of_mem _ hx))).2 g).2 hxg)
   exact hn.1 (e ▸ h3)
  ·cases h
section
variable {e:Env} {σ:St} {o:Oper} {K:St->Prop} {c:Operand} {args:Array Operand} {ts:Array TypeId} {f:FuncId} {caps:List C} {xs:List D}
theorem step_P (ho:o.op=.call ⟨.value c,args,ts⟩) (ks ks':List Nat) {pm:List Bk} {R:List D->List Bk->Prop} (hn:ks.Nodup) (hpm:getM σ.m ks=some pm) (hpn:pm.all pinned=true) (hc:calleeA (evA σ.s c)=some (f,caps)) (hx:dsA (args.toList.map (evA σ.s))=some xs) (hcon:ConP e f (xs++caps.map .one) pm R)
  (hK:∀ r pm',R r pm'->K ⟨setA (killKs (ks++ks') σ.s) o.dst (retA r),zipM ks' pm'++remMs (ks++ks') σ.m⟩):StepOk e o σ K:=by
 intro he U w0 S0 nt a w Q hd ⟨S,L,h1⟩
 have hpn:∀ x∈pm,pinned x=true:=fun x hx=>List.all_eq_true.1 hpn x hx
 obtain ⟨us,hv,hus⟩:=calleeA_spec hc (h1.eval c)
 have hds':DsRel w S xs (args.toList.map a.eval):=DsRel_of hx (by simp) (mapx (fun p _=>h1.eval p))
 obtain ⟨hbody,hcon⟩:=hcon
 have hat:∀ g,pblks pm g->∃ k x,k∈ks∧gm σ.m k=some x∧blkOf L k x g:=fun g ⟨x,hx,hg⟩=>by
  obtain ⟨k,hk,hkx⟩:=getM_mem hpm x hx
  exact ⟨k,x,hk,hkx,((pin_of_own (h1.cls.own k x hkx) (hpn x hx)).2 g).2 hg⟩
 have hcl:=hcon w S _ h1.cls.sin (fun b hb=>Nat.lt_of_lt_of_le (h1.cls.ein b hb) h1.cls.bsz) h1.cls.g (fun x hx=>by
  obtain ⟨k,hk,hkx⟩:=getM_mem hpm x hx
  have:=pin_of_own (h1.cls.own k x hkx) (hpn x hx)
  exact ⟨this.1,fun g hg=>h1.cls.notE hkx ((this.2 g).2 hg)⟩) (getM_apart h1.cls.own h1.cls.inj hn hpm hpn) (hds'.append (DsRel.caps hus))
 have hg:gives e.P o a.eval w fun v w'=>∃ r pm',R r pm'∧Kept e.D (fun b=>e.E b∨pblks pm b) w.heap.size w w'∧e.G w' ∧
   (∀ x∈pm',PinRel w' (fun b=>(S b∨pblks pm b∨(w.heap.size<=b∧b < w'.heap.size))∧¬ pblks pm' b) x∧∀ g,pblk x g->pblks pm g∨w.heap.size<=g)∧Apart pm' ∧
   ARel w' (fun b=>(S b∨pblks pm b∨(w.heap.size<=b∧b < w'.heap.size))∧¬ pblks pm' b) ⟨fun _=>0,fun _=>Go.undef⟩ (retA r) v:=by
  unfold gives
  rw [enter_run ho hv hbody]
  exact hcl.mono fun en w' ⟨v,r,pm',q0,q1⟩=>⟨v,q0,r,pm',q1⟩
 refine gives_wp hg fun v w' ⟨r,pm',hR,k1,k2,k3,k4,k5⟩=>⟨_,hK r pm' hR,?_⟩
 have hlt:∀ g,pblks pm g->g < w.heap.size∧¬ S g∧¬ e.E g∧(w0.heap.size<=g∨U g):=fun g hg=>by
  obtain ⟨k,x,_,hkx,hb⟩:=hat g hg
  have:=(h1.cls.own k x hkx).lt hb
  exact ⟨this.1,this.2,h1.cls.notE hkx hb,h1.cls.mine k x g hkx hb⟩
 have hz:∀ k x,gm (zipM ks' pm'++remMs (ks++ks') σ.m) k=some x->(gm (zipM ks' pm') k=some x∧k∈ks++ks'∧x∈pm')∨(¬ k∈ks++ks'∧gm (zipM ks' pm') k=none∧gm σ.m k=some x):=fun k x hx=>by
  rw [gm_app] at hx
  cases hzz:gm (zipM ks' pm') k with
  | some y =>
   rw [hzz] at hx
   injection hx with hx;subst hx
   have:=gm_zipM hzz
   exact .inl ⟨rfl,List.mem_append.2 (.inr this.1),this.2⟩
  | none =>
   rw [hzz] at hx
   simp only [gm_remMs] at hx
   split at hx
   ·cases hx
   ·rename_i hne;exact .inr ⟨hne,rfl,hx⟩
 obtain ⟨t1,t2,t3⟩:=h1.touchM (p:=fun k=>k∈ks++ks') (m':=zipM ks' pm'++remMs (ks++ks') σ.m) (w':=w') (S':=fun b=>(S b∨pblks pm b∨(w.heap.size<=b∧b < w'.heap.size))∧¬ pblks pm' b) (L':=layB (zipM ks' pm') L) (τ:=pblks pm)
  (fun b hs=>⟨.inl hs,fun ⟨x,hx,hg⟩=>by
   rcases (k3 x hx).2 b hg with q | q
   ·exact (hlt b q).2.1 hs
   ·have:=(h1.cls.sin b hs).1;omega⟩)
  (fun b hb=>hb.1.elim .inl (fun q=>.inr (q.elim (fun q=>.inl ⟨q,(hlt b q).1⟩) .inr)))
  (fun k x hp hx=>by
   rcases hz k x hx with ⟨_,h2,_⟩ | ⟨_,_,h3⟩
   ·exact (hp h2).elim
   ·exact h3)
  (fun k hp=>by
   have hzn:gm (zipM ks' pm') k=none:=by
    cases hzz:gm (zipM ks' pm') k with
    | none=>rfl
    | some y=>exact (hp (List.mem_append.2 (.inr (gm_zipM hzz).1))).elim
   simp only [layB,hzn,and_self])
  (fun g hg=>(hlt g hg).2)
  (fun k x g hp hx hg hb=>by
   obtain ⟨k',x',hk',hkx',hb'⟩:=hat g hg
   rcases hz k x hx with ⟨_,h2,_⟩ | ⟨_,_,h3⟩
   ·exact hp h2
   ·have:=h1.cls.inj k k' x x' g h3 hkx' hb hb'
    subst this
    exact hp (List.mem_append.2 (.inl hk')))
  k1 k2
  (fun k x hp hx=>by
   rcases hz k x hx with ⟨h2,_,h3⟩ | ⟨h2,_,_⟩
   ·have:=own_of_pin (L:=L) (k3 x h3).1 h2
    exact ⟨this.1,fun g hg=>(k3 x h3).2 g ((this.2 g).1 hg)⟩
   ·exact (h2 hp).elim)
  (fun k k' x x' g hp hp' hx hx' hb hb'=>by
   rcases hz k x hx with ⟨h2,_,h3⟩ | ⟨h2,_,_⟩
   ·rcases hz k' x' hx' with ⟨h2',_,h3'⟩ | ⟨h2',_,_⟩
    ·have q:=own_of_pin (L:=L) (k3 x h3).1 h2
     have q':=own_of_pin (L:=L) (k3 x' h3').1 h2'
     exact zip_apart k4 h2 h2' ((q.2 g).1 hb) ((q'.2 g).1 hb')
    ·exact (h2' hp').elim
   ·exact (h2 hp).elim)
 have hs2:Sim e U w0 S0 nt ⟨killKs (ks++ks') σ.s,zipM ks' pm'++remMs (ks++ks') σ.m⟩ a w' (fun b=>(S b∨pblks pm b∨(w.heap.size<=b∧b < w'.heap.size))∧¬ pblks pm' b) (layB (zipM ks' pm') L):=by
  refine ⟨t1,fun t=>?_,h1.size,h1.defers,t2⟩
  show ARel w' _ _ (gs (killKs (ks++ks') σ.s) t) _
  rcases gs_killKs t (ks++ks') σ.s with ⟨q1,q2⟩ | q1
  ·rw [q1]
   exact t3 _ _ (fun k hp hk=>(q2 k hp hk).elim) (h1.rel t)
  ·rw [q1];trivial
 exact ⟨_,_,hs2.put (ARel_ret k5) hd⟩
end
def mapS (f:A->A):List (Nat × A)->List (Nat × A)
 | []=>[]
 | (t,a)::r=>(t,f a)::mapS f r
theorem gs_mapS {f:A->A} (hf:f .undef=.undef) (t:Nat):∀ (s:List (Nat × A)),gs (mapS f s) t=f (gs s t)
 | []=>by simp [mapS,gs,hf]
 | (t',x)::r=>by
  simp only [mapS,gs]
  split
  ·rfl
  ·exact gs_mapS hf t r
def litV (k b:Nat):A->A
 | .ref k' off=>if k'=k then .d (.one (.lit (.pointer (some ⟨b,off,none⟩)))) else .ref k' off
 | x=>x
def litB (k:Nat) (a:Option Addr) (n cap:Nat):A->A
 | .buf k'=>if k'=k then .d (.one (.lit (.slice a n cap))) else .buf k'
 | x=>x
theorem Cls.swap {e:Env} {U:Nat->Prop} {base:Nat} {S0:Nat->Prop} {m:List (Nat × Bk)} {w:World} {S:Nat->Prop} {L:Lay} (h:Cls e U base S0 m w S L) {k:Nat} {bk bk':Bk} (hm:gm m k=some bk) (ho:Own1 w S L k bk') (hb:∀ g,blkOf L k bk' g->blkOf L k bk g):Cls e U base S0 ((k,bk')::remM k m) w S L:=by
 have key:∀ k' x,gm ((k,bk')::remM k m) k'=some x->(k'=k∧x=bk')∨(k'≠k∧gm m k'=some x):=fun k' x hx=>by
  simp only [gm,gm_remM] at hx
  split at hx
  ·rename_i e;injection hx with hx;exact .inl ⟨e,hx.symm⟩
  ·exact .inr ⟨by assumption,hx⟩
 refine ⟨h.sin,h.sfr,h.ein,h.uin,h.bsz,fun k' x g hx hg=>?_,fun k' x hx=>?_,fun k1 k2 x x' g hx hx' hg hg'=>?_,h.g⟩
 ·rcases key k' x hx with ⟨rfl,rfl⟩ | ⟨_,hx⟩
  ·exact h.mine _ _ g hm (hb g hg)
  ·exact h.mine _ _ g hx hg
 ·rcases key k' x hx with ⟨rfl,rfl⟩ | ⟨_,hx⟩
  ·exact ho
  ·exact h.own _ _ hx
 ·rcases key k1 x hx with ⟨e1,e2⟩ | ⟨_,q1⟩
  ·rcases key k2 x' hx' with ⟨e3,e4⟩ | ⟨_,q2⟩
   ·rw [e1,e3]
   ·subst e1 e2;exact h.inj _ _ _ _ g hm q2 (hb g hg) hg'
  ·rcases key k2 x' hx' with ⟨e3,e4⟩ | ⟨_,q2⟩
   ·subst e3 e4;exact h.inj _ _ _ _ g q1 hm hg (hb g hg')
   ·exact h.inj _ _ _ _ g q1 q2 hg hg'
section
variable {e:Env} {σ:St}
theorem turn_pinV (k:Nat) {cs:List C} (hm:gm σ.m k=some (.var none cs)):Turn e σ (fun σ'=>∃ b,(∀ k' b' cs',k'≠k->gm σ.m k'=some (.var (some b') cs')->b≠b')∧σ'=⟨mapS (litV k b) σ.s,(k,.var (some b) cs)::remM k σ.m⟩):=by
 intro he U w0 S0 nt a w ⟨S,L,h⟩
 have ho:Own1 w S L k (.var none cs):=h.cls.own k _ hm
 refine ⟨_,⟨L.b k,fun k' b' cs' hk hm' hb=>hk ?_,rfl⟩,S,L,h.cls.swap hm (bk':=.var (some (L.b k)) cs) ⟨fun b hb=>by injection hb,ho.2⟩ (fun g hg=>hg),fun t=>?_,h.size,h.defers,h.kept⟩
 ·have h1:=(h.cls.own k' _ hm').1 b' rfl
  exact h.cls.inj k' k _ _ b' hm' hm h1 hb
 ·show ARel w S L (gs (mapS (litV k (L.b k)) σ.s) t) _
  rw [gs_mapS rfl]
  have hr:=h.rel t
  generalize gs σ.s t=x at hr ⊢
  cases x with
  | ref k' off =>
   simp only [litV]
   by_cases hk:k'=k
   ·subst hk
    simp only [if_true]
    have hr:a.tmps.getD t undef=.pointer (some ⟨L.b k',off,none⟩):=hr
    simp [ARel,DRel,Rep,hr]
   ·simp only [hk,if_false];exact hr
  | _=>exact hr
theorem turn_pinB (k:Nat) {ety sz:Nat} {rows:List (List C)} (hm:gm σ.m k=some (.buf none ety sz rows)):Turn e σ (fun σ'=>∃ a cap,σ'=⟨mapS (litB k a rows.length cap) σ.s,(k,.buf (some (a,cap)) ety sz rows)::remM k σ.m⟩):=by
 intro he U w0 S0 nt a w ⟨S,L,h⟩
 obtain ⟨_,ho⟩:_∧BufRel w S ety sz rows (L.v k):=h.cls.own k _ hm
 obtain ⟨p,cap,hv⟩:∃ p cap,L.v k=.slice p rows.length cap:=by
  obtain ⟨_,_,h3⟩:=ho
  rcases h3 with ⟨h4,p,hv⟩ | ⟨g,cap,cur,hv,_⟩
  ·exact ⟨p,0,by rw [hv,h4];rfl⟩
  ·exact ⟨_,cap,hv⟩
 refine ⟨_,⟨p,cap,rfl⟩,S,L,h.cls.swap hm (bk':=.buf (some (p,cap)) ety sz rows) ⟨fun q hq=>by injection hq with hq;rw [<- hq];exact hv,ho⟩ (fun g hg=>hg),fun t=>?_,h.size,h.defers,h.kept⟩
 show ARel w S L (gs (mapS (litB k p rows.length cap) σ.s) t) _
 rw [gs_mapS rfl]
 have hr:=h.rel t
 generalize gs σ.s t=x at hr ⊢
 cases x with
 | buf k' =>
  simp only [litB]
  by_cases hk:k'=k
  ·subst hk
   simp only [if_true]
   have hr:a.tmps.getD t undef=L.v k':=hr
   simp [ARel,DRel,Rep,hr,hv]
  ·simp only [hk,if_false];exact hr
 | _=>exact hr
theorem turn_key (t:Nat):Turn e σ (fun σ'=>σ'=⟨(t,nrm σ.m (gs σ.s t))::σ.s,σ.m⟩):=by
 intro he U w0 S0 nt a w ⟨S,L,h⟩
 refine ⟨_,rfl,S,L,h.cls,fun t'=>?_,h.size,h.defers,h.kept⟩
 simp only [gs]
 split
 ·rename_i e;subst e;exact nrm_rel h.cls (h.rel _)
 ·exact h.rel t'
theorem turn_own (t ety sz:Nat) (hs:0 < sz) (ht:gs σ.s t=.d (.clip [])):Turn e σ (fun σ'=>σ'=⟨(t,.buf t)::killK t σ.s,(t,.buf none ety sz [])::remM t σ.m⟩):=by
 intro he U w0 S0 nt a w ⟨S,L,h⟩
 have hv:=h.rel t
 rw [ht] at hv
 have hlt:t < nt:=by
  rcases Nat.lt_or_ge t nt with hl | hl
  ·exact hl
  ·have:a.tmps.getD t undef=undef:=by rw [Array.getD_eq_getD_getElem?,Array.getElem?_eq_none (by rw [h.size];exact hl)];rfl
   rw [this] at hv
   obtain ⟨_,p,n,hp⟩:=hv
   cases hp
 obtain ⟨S',L',h'⟩:=h.empty (ety:=ety) he hlt hs hv
 refine ⟨_,rfl,S',L',h'.cls,fun t'=>?_,h.size,h.defers,h'.kept⟩
 have:=h'.rel t'
 rw [getD_put (by rw [h.size];exact hlt)] at this
 split at this
 ·rename_i e;rw [e];rw [e] at this;exact this
 ·exact this
end
section
variable {e:Env} {σ:St}
theorem turn_re (ks ks':List Nat) {pm:List Bk} {Φ:List Bk->Prop} (hn:ks.Nodup) (hpm:getM σ.m ks=some pm) (hpn:pm.all pinned=true)
  (hre:∀ (w:World) (S:Nat->Prop),(∀ x∈pm,PinRel w S x)->Apart pm->∃ pm',Φ pm'∧(∀ x∈pm',PinRel w S x)∧Apart pm'∧∀ g,pblks pm' g->pblks pm g) :
  Turn e σ (fun σ'=>∃ pm',Φ pm'∧σ'=⟨killKs (ks++ks') σ.s,zipM ks' pm'++remMs (ks++ks') σ.m⟩):=by
 intro he U w0 S0 nt a w ⟨S,L,h1⟩
 have hpn:∀ x∈pm,pinned x=true:=fun x hx=>List.all_eq_true.1 hpn x hx
 have hat:∀ g,pblks pm g->∃ k x,k∈ks∧gm σ.m k=some x∧blkOf L k x g:=fun g ⟨x,hx,hg⟩=>by
  obtain ⟨k,hk,hkx⟩:=getM_mem hpm x hx
  exact ⟨k,x,hk,hkx,((pin_of_own (h1.cls.own k x hkx) (hpn x hx)).2 g).2 hg⟩
 obtain ⟨pm',hΦ,k3,k4,hsub⟩:=hre w S (fun x hx=>by
  obtain ⟨k,hk,hkx⟩:=getM_mem hpm x hx
  exact (pin_of_own (h1.cls.own k x hkx) (hpn x hx)).1) (getM_apart h1.cls.own h1.cls.inj hn hpm hpn)
 have hlt:∀ g,pblks pm g->g < w.heap.size∧¬ S g∧¬ e.E g∧(w0.heap.size<=g∨U g):=fun g hg=>by
  obtain ⟨k,x,_,hkx,hb⟩:=hat g hg
  have:=(h1.cls.own k x hkx).lt hb
  exact ⟨this.1,this.2,h1.cls.notE hkx hb,h1.cls.mine k x g hkx hb⟩
 have hz:∀ k x,gm (zipM ks' pm'++remMs (ks++ks') σ.m) k=some x->(gm (zipM ks' pm') k=some x∧k∈ks++ks'∧x∈pm')∨(¬ k∈ks++ks'∧gm (zipM ks' pm') k=none∧gm σ.m k=some x):=fun k x hx=>by
  rw [gm_app] at hx
  cases hzz:gm (zipM ks' pm') k with
  | some y =>
   rw [hzz] at hx
   injection hx with hx;subst hx
   have:=gm_zipM hzz
   exact .inl ⟨rfl,List.mem_append.2 (.inr this.1),this.2⟩
  | none =>
   rw [hzz] at hx
   simp only [gm_remMs] at hx
   split at hx
   ·cases hx
   ·rename_i hne;exact .inr ⟨hne,rfl,hx⟩
 obtain ⟨t1,t2,t3⟩:=h1.touchM (p:=fun k=>k∈ks++ks') (m':=zipM ks' pm'++remMs (ks++ks') σ.m) (w':=w) (S':=S) (L':=layB (zipM ks' pm') L) (τ:=pblks pm)
  (fun b hs=>hs) (fun b hb=>.inl hb)
  (fun k x hp hx=>by
   rcases hz k x hx with ⟨_,h2,_⟩ | ⟨_,_,h3⟩
   ·exact (hp h2).elim
   ·exact h3)
  (fun k hp=>by
   have hzn:gm (zipM ks' pm') k=none:=by
    cases hzz:gm (zipM ks' pm') k with
    | none=>rfl
    | some y=>exact (hp (List.mem_append.2 (.inr (gm_zipM hzz).1))).elim
   simp only [layB,hzn,and_self])
  (fun g hg=>(hlt g hg).2)
  (fun k x g hp hx hg hb=>by
   obtain ⟨k',x',hk',hkx',hb'⟩:=hat g hg
   rcases hz k x hx with ⟨_,h2,_⟩ | ⟨_,_,h3⟩
   ·exact hp h2
   ·have:=h1.cls.inj k k' x x' g h3 hkx' hb hb'
    subst this
    exact hp (List.mem_append.2 (.inl hk')))
  (Kept.refl _ _ _ _) h1.cls.g
  (fun k x hp hx=>by
   rcases hz k x hx with ⟨h2,_,h3⟩ | ⟨h2,_,_⟩
   ·have:=own_of_pin (L:=L) (k3 x h3) h2
    exact ⟨this.1,fun g hg=>.inl (hsub g ⟨x,h3,(this.2 g).1 hg⟩)⟩
   ·exact (h2 hp).elim)
  (fun k k' x x' g hp hp' hx hx' hb hb'=>by
   rcases hz k x hx with ⟨h2,_,h3⟩ | ⟨h2,_,_⟩
   ·rcases hz k' x' hx' with ⟨h2',_,h3'⟩ | ⟨h2',_,_⟩
    ·have q:=own_of_pin (L:=L) (k3 x h3) h2
     have q':=own_of_pin (L:=L) (k3 x' h3') h2'
     exact zip_apart k4 h2 h2' ((q.2 g).1 hb) ((q'.2 g).1 hb')
    ·exact (h2' hp').elim
   ·exact (h2 hp).elim)
 refine ⟨_,⟨pm',hΦ,rfl⟩,S,layB (zipM ks' pm') L,t1,fun t=>?_,h1.size,h1.defers,t2⟩
 show ARel w _ _ (gs (killKs (ks++ks') σ.s) t) _
 rcases gs_killKs t (ks++ks') σ.s with ⟨q1,q2⟩ | q1
 ·rw [q1]
  exact t3 _ _ (fun k hp hk=>(q2 k hp hk).elim) (h1.rel t)
 ·rw [q1];trivial
theorem turn_nil (κ ety sz:Nat) (hs:0 < sz):Turn e σ (fun σ'=>σ'=⟨killK κ σ.s,(κ,.buf (some (none,0)) ety sz [])::remM κ σ.m⟩):=by
 intro he U w0 S0 nt a w ⟨S,L,h⟩
 obtain ⟨t1,t2,t3⟩:=h.touchT (d:=κ) (bk:=.buf (some (none,0)) ety sz []) (m':=(κ,.buf (some (none,0)) ety sz [])::remM κ σ.m) (w':=w) (S':=S) (L':=⟨L.b,fun k=>if k=κ then .slice none 0 0 else L.v k⟩) (τ:=fun _=>False)
  (fun _ h=>h) (fun _ h=>.inl h) (fun k x hkd hx=>by simp only [gm,hkd,if_false,gm_remM] at hx;exact hx) (by simp [gm]) (fun k hkd=>by simp [hkd]) (fun g hg=>hg.elim) (fun k x g hkd hx hg=>hg.elim)
  (Kept.refl _ _ _ _) h.cls.g ⟨fun q hq=>by injection hq with hq;subst hq;simp,hs,rowsLen.nil,.inl ⟨rfl,none,by simp⟩⟩ (fun g hg=>by simp [blkOf,vblk] at hg)
 refine ⟨_,rfl,S,_,t1,fun t=>?_,h.size,h.defers,t2⟩
 show ARel w S _ (gs (killK κ σ.s) t) _
 rcases gs_killK κ t σ.s with ⟨q1,q2⟩ | q1
 ·rw [q1];exact t3 _ _ (fun hk=>(q2 hk).elim) (h.rel t)
 ·rw [q1];trivial
def datC (a:Option Addr) (n cap:Nat) (rows:List (List C)):C->C
 | .lit (.slice a' n' cap')=>if a'=a∧n'=n∧cap'=cap then .sl rows else .lit (.slice a' n' cap')
 | c=>c
def datA (a:Option Addr) (n cap:Nat) (rows:List (List C)):A->A
 | .d (.one c)=>.d (.one (datC a n cap rows c))
 | .d (.agg cs)=>.d (.agg (cs.map (datC a n cap rows)))
 | x=>x
def datS (a:Option Addr) (n cap:Nat) (rows:List (List C)):List Nat->List (Nat × A)->List (Nat × A)
 | [],s=>s
 | t::ts,s=>datS a n cap rows ts ((t,datA a n cap rows (gs s t))::s)
def datV (a:Option Addr) (n cap:Nat) (rows:List (List C)) (k:Nat) (m:List (Nat × Bk)):Option Bk->List (Nat × Bk)
 | some (.var o cs)=>(k,.var o (cs.map (datC a n cap rows)))::remM k m
 | _=>m
def datM (a:Option Addr) (n cap:Nat) (rows:List (List C)):List Nat->List (Nat × Bk)->List (Nat × Bk)
 | [],m=>m
 | k::ks,m=>datM a n cap rows ks (datV a n cap rows k m (gm m k))
section
variable {w:World} {S:Nat->Prop} {a:Option Addr} {n cap:Nat} {rows:List (List C)}
theorem datC_rel (hr:Rep w S (.sl rows) (.slice a n cap)) {c:C} {v:Value} (h:Rep w S c v):Rep w S (datC a n cap rows c) v:=by
 unfold datC
 split
 ·rename_i a' n' cap'
  split
  ·rename_i hq
   obtain ⟨rfl,rfl,rfl⟩:=hq
   have hv:v=.slice a' n' cap':=by simpa [Rep] using h
   rw [hv];exact hr
  ·exact h
 ·exact h
theorem datC_row (hr:Rep w S (.sl rows) (.slice a n cap)) {b:Nat}:∀ {cs:List C} {off:Nat},RepRow w S b off cs->RepRow w S b off (cs.map (datC a n cap rows))
 | [],_,h=>h
 | c::cs,off,h=>by
  simp only [List.map_cons,RepRow] at h ⊢
  obtain ⟨⟨u,h1,h2⟩,h3⟩:=h
  exact ⟨⟨u,h1,datC_rel hr h2⟩,datC_row hr h3⟩
theorem datC_vals (hr:Rep w S (.sl rows) (.slice a n cap)):∀ {cs:List C} {us:List Value},RepVals w S cs us->RepVals w S (cs.map (datC a n cap rows)) us
 | [],[],h=>h
 | c::cs,u::us,h=>by
  simp only [List.map_cons,RepVals] at h ⊢
  exact ⟨datC_rel hr h.1,datC_vals hr h.2⟩
 | [],_::_,h=>h
 | _::_,[],h=>h
theorem datA_rel {L:Lay} (hr:Rep w S (.sl rows) (.slice a n cap)) {x:A} {v:Value} (h:ARel w S L x v):ARel w S L (datA a n cap rows x) v:=by
 cases x with
 | d x =>
  cases x with
  | one c=>exact datC_rel hr h
  | agg cs=>obtain ⟨vs,h1,h2⟩:=h;exact ⟨vs,h1,datC_vals hr h2⟩
  | clip rs=>exact h
 | _=>exact h
end
theorem Sim.datS {U:Nat->Prop} {w0:World} {S0:Nat->Prop} {nt:Nat} {ac:Act} {w:World} {S:Nat->Prop} {L:Lay} {a:Option Addr} {n cap:Nat} {rows:List (List C)} (hr:Rep w S (.sl rows) (.slice a n cap)):∀ (ts:List Nat) (σ:St),Sim e U w0 S0 nt σ ac w S L->Sim e U w0 S0 nt ⟨datS a n cap rows ts σ.s,σ.m⟩ ac w S L
 | [],σ,h=>h
 | t::ts,σ,h=>Sim.datS hr ts ⟨(t,datA a n cap rows (gs σ.s t))::σ.s,σ.m⟩ ⟨h.cls,fun t'=>by
   simp only [gs]
   split
   ·rename_i e';subst e';exact datA_rel hr (h.rel _)
   ·exact h.rel t',h.size,h.defers,h.kept⟩
theorem Sim.datM {U:Nat->Prop} {w0:World} {S0:Nat->Prop} {nt:Nat} {ac:Act} {w:World} {S:Nat->Prop} {L:Lay} {a:Option Addr} {n cap:Nat} {rows:List (List C)} (hr:Rep w S (.sl rows) (.slice a n cap)):∀ (ks:List Nat) (σ:St),Sim e U w0 S0 nt σ ac w S L->Sim e U w0 S0 nt ⟨σ.s,datM a n cap rows ks σ.m⟩ ac w S L
 | [],σ,h=>h
 | k::ks,σ,h=>by
  refine Sim.datM hr ks ⟨σ.s,datV a n cap rows k σ.m (gm σ.m k)⟩ ?_
  unfold datV
  split
  ·rename_i o cs hm
   obtain ⟨h0,h1,h2,⟨arr,ty,h3,h4⟩,h5⟩:=h.cls.own k _ hm
   exact ⟨h.cls.swap hm (bk':=.var o (cs.map (datC a n cap rows))) ⟨h0,h1,h2,⟨arr,ty,h3,by rw [List.length_map];exact h4⟩,datC_row hr h5⟩ (fun g hg=>hg),h.rel,h.size,h.defers,h.kept⟩
  ·exact h
theorem turn_dat (k:Nat) (ts ks:List Nat) {a:Option Addr} {cap ety sz:Nat} {rows:List (List C)} (hm:gm σ.m k=some (.buf (some (a,cap)) ety sz rows)) :
  Turn e σ (fun σ'=>σ'=⟨datS a rows.length cap rows ts (frzS k (.buf (some (a,cap)) ety sz rows) σ.s),datM a rows.length cap rows ks (remM k σ.m)⟩):=by
 intro he U w0 S0 nt ac w ⟨S,L,h⟩
 have ho:=h.cls.own k _ hm
 have hv:L.v k=.slice a rows.length cap:=ho.1 (a,cap) rfl
 have hrep:=BufRel.rep ho.2
 rw [hv] at hrep
 obtain ⟨S',L',h',hS'⟩:=h.freeze2 he hm
 have hr:Rep w S' (.sl rows) (.slice a rows.length cap):=hrep.mono fun b hb=>(hS' b).2 (hb.imp id (fun q=>by show vblk (L.v k)=some b;rw [hv];exact q))
 exact ⟨_,rfl,S',L',(Sim.datM hr ks ⟨_,remM k σ.m⟩ (Sim.datS hr ts _ h'))⟩
theorem step_buildX {o:Oper} {K:St->Prop} {t:TypeId} {parts:Array (Nat × Operand)} (ho:o.op=.build t parts) {cs cs':List C} (hz:zeroX e.P t=some cs) (hst:isStructT e.P t=true) (hok:cs.all okCell=true) (hf:fillA e.P t cs (parts.toList.map fun p=>(p.1,evA σ.s p.2))=some cs')
  (hK:K ⟨setA σ.s o.dst (.d (.agg cs')),σ.m⟩):StepOk e o σ K:=by
 intro he U w0 S0 nt a w Q hd ⟨S,L,h⟩
 unfold zeroX at hz
 simp only [Option.map_eq_some_iff,Option.bind_eq_some_iff] at hz
 obtain ⟨v,⟨i,hi,hv⟩,rfl⟩:=hz
 exact Oper.wp_mono (fun a' w' hs=>⟨_,hK,hs⟩) (gives_then h hd (gives_buildG ho hi hv hst hok (fun w S=>RepVals_lits _) hf))
end
section
variable {e:Env} {U:Nat->Prop} {w0:World} {S0:Nat->Prop} {nt:Nat} {σ:St} {a:Act} {w:World} {S:Nat->Prop} {L:Lay} {o:Oper}
theorem join_bind {ops:List Oper} {j d:Nat} (h:((ops.map (·.dst))[j]?).join=some d):(ops.toArray[j]?).bind (·.dst)=some d:=by
 simp only [List.getElem?_map] at h
 simp only [List.getElem?_toArray]
 cases ho:ops[j]? with
 | none=>rw [ho] at h;simp at h
 | some p=>rw [ho] at h;simpa using h
theorem ARel.bool {b:Bool} {v:Value} (h:ARel w S L (.d (.one (.lit (.bool b)))) v):v=.bool b:=by simpa [ARel,DRel,Rep] using h
theorem getD_bool {l:Array Value} {d:Nat} {b:Bool} (h:l.getD d undef=.bool b):l[d]?=some (.bool b):=by
 by_cases hd:d < l.size
 ·simp [hd] at h;simp [hd,h]
 ·simp [hd,undef] at h
theorem wanted_of (h:Sim e U w0 S0 nt σ a w S L) {ops:List Oper} {j:Nat} {want b:Bool} (hg:o.guard=some (j,want)) (hs:(((ops.map (·.dst))[j]?).join.map (gs σ.s))=some (.d (.one (.lit (.bool b))))):Region.wanted o (yielded ops.toArray a.tmps)=decide (b=want):=by
 simp only [Option.map_eq_some_iff] at hs
 obtain ⟨d,h1,h2⟩:=hs
 have h3:=h.rel d
 rw [h2] at h3
 have h4:=getD_bool h3.bool
 have h5:((ops.toArray[j]?).bind (·.dst))=some d:=join_bind h1
 have h6:yielded ops.toArray a.tmps j=some b:=by unfold yielded;rw [h5];simp only [Option.bind_some,h4]
 simp only [Region.wanted,hg,h6]
 cases b <;> cases want <;> rfl
theorem getD_undef {l:Array Value} {d:Nat} (h:l.getD d undef=undef):l[d]?=some undef∨l[d]?=none:=by
 by_cases hd:d < l.size
 ·simp [hd] at h;simp [hd,h]
 ·simp [hd]
theorem wanted_no {ops:Array Oper} {tmps:Array Value} {j d:Nat} {want:Bool} (hg:o.guard=some (j,want)) (hs:(ops[j]?).bind (·.dst)=some d) (h:tmps.getD d undef=undef):Region.wanted o (yielded ops tmps)=false:=by
 have h6:yielded ops tmps j=none:=by
  unfold yielded
  rw [hs]
  rcases getD_undef h with h1 | h1 <;> simp only [Option.bind_some,h1]
  rfl
 simp only [Region.wanted,hg,h6]
 cases want <;> rfl
def RunsS (e:Env) (ds:List (Option Nat)) (os:List Oper) (σ:St) (K:St->Prop):Prop:=e.Ok->∀ (U:Nat->Prop) (w0:World) (S0:Nat->Prop) (nt:Nat) (a:Act) (w:World) (ops:List Oper) (Q:Exit->Act->World->Prop),ops.map (·.dst)=ds->(∀ o∈os,∀ d,o.dst=some d->d < nt) ->
 (∀ a w σ',K σ'->SimE e U w0 S0 nt σ' a w->Q .normal a w)->SimE e U w0 S0 nt σ a w->wpList e.P ops.toArray Q os a w
def Runs (e:Env) (ds:List (Option Nat)):Nat->List Oper->St->(St->Prop)->Prop
 | 0,os,σ,K=>RunsS e ds os σ K
 | _+1,[],σ,K=>K σ
 | n+1,o::os,σ,K=>match o.guard with
  | none=>if n=0∧isAl o=true then ∃ d t cs,o.dst=some d∧o.op=.alloc t∧zeroT e.P t=some cs∧RunsS e ds os ⟨(d,.ref d 0)::killK d σ.s,(d,.var none cs)::remM d σ.m⟩ K
   else QuietOk e o σ (fun σ'=>Runs e ds n os σ' K)
  | some (j,want)=>match (ds[j]?.join).map (gs σ.s) with
   | some (.d (.one (.lit (.bool b))))=>if b=want then QuietOk e o σ (fun σ'=>Runs e ds n os σ' K) else Runs e ds n os ⟨setA σ.s o.dst .no,σ.m⟩ K
   | some .no=>Runs e ds n os ⟨setA σ.s o.dst .no,σ.m⟩ K
   | _=>False
theorem runsS_nil {ds:List (Option Nat)} {K:St->Prop} {σ:St} (h:K σ):RunsS e ds [] σ K:=fun he U w0 S0 nt a w ops Q hds hd hQ hs=>hQ a w σ h hs
theorem runsS_turn {ds:List (Option Nat)} {K:St->Prop} {os:List Oper} {σ:St} {P:St->Prop} (hT:Turn e σ P) (h:∀ σ',P σ'->RunsS e ds os σ' K):RunsS e ds os σ K:=fun he U w0 S0 nt a w ops Q hds hd hQ hs=>by
 obtain ⟨σ',h1,h2⟩:=hT he U w0 S0 nt a w hs
 exact h σ' h1 he U w0 S0 nt a w ops Q hds hd hQ h2
theorem runsS_step {ds:List (Option Nat)} {K:St->Prop} {os:List Oper} {σ:St} {o:Oper} (hg:o.guard=none) (h:StepOk e o σ (fun σ'=>RunsS e ds os σ' K)):RunsS e ds (o::os) σ K:=fun he U w0 S0 nt a w ops Q hds hd hQ hs=>by
 unfold wpList
 have hw:Region.wanted o (yielded ops.toArray a.tmps)=true:=by simp [Region.wanted,hg]
 rw [if_pos hw]
 exact .inl (Oper.wp_mono (fun a' w' ⟨σ',hK,hS⟩=>hK he U w0 S0 nt a' w' ops Q hds (fun o' ho'=>hd o' (by simp [ho'])) hQ hS) (h he U w0 S0 nt a w Q (hd o (by simp)) hs))
theorem runsS_guard {ds:List (Option Nat)} {K:St->Prop} {os:List Oper} {σ:St} {o:Oper} {j:Nat} {want:Bool} (hg:o.guard=some (j,want)) (h:match (ds[j]?.join).map (gs σ.s) with
   | some (.d (.one (.lit (.bool b))))=>if b=want then StepOk e o σ (fun σ'=>RunsS e ds os σ' K) else RunsS e ds os ⟨setA σ.s o.dst .no,σ.m⟩ K
   | some .no=>RunsS e ds os ⟨setA σ.s o.dst .no,σ.m⟩ K
   | _=>False):RunsS e ds (o::os) σ K:=fun he U w0 S0 nt a w ops Q hds hd hQ hs=>by
 unfold wpList
 obtain ⟨S,L,h1⟩:=id hs
 subst hds
 split at h
 ·rename_i b hb
  rw [wanted_of h1 hg hb]
  by_cases hbw:b=want
  ·rw [if_pos hbw] at h
   simp only [hbw,decide_true,if_true]
   exact .inl (Oper.wp_mono (fun a' w' ⟨σ',hK,hS⟩=>hK he U w0 S0 nt a' w' ops Q rfl (fun o' ho'=>hd o' (by simp [ho'])) hQ hS) (h he U w0 S0 nt a w Q (hd o (by simp)) hs))
  ·rw [if_neg hbw] at h
   simp only [hbw,decide_false,Bool.false_eq_true,if_false]
   exact h he U w0 S0 nt _ _ ops Q rfl (fun o' ho'=>hd o' (by simp [ho'])) hQ ⟨S,L,h1.put (α:=.no) rfl (hd o (by simp))⟩
 ·rename_i hb
  simp only [Option.map_eq_some_iff] at hb
  obtain ⟨d,hb1,hb2⟩:=hb
  have h3:=h1.rel d
  rw [hb2] at h3
  rw [wanted_no (d:=d) hg (join_bind hb1) h3]
  simp only [Bool.false_eq_true,if_false]
  exact h he U w0 S0 nt _ _ ops Q rfl (fun o' ho'=>hd o' (by simp [ho'])) hQ ⟨S,L,h1.put (α:=.no) rfl (hd o (by simp))⟩
 ·exact h.elim
theorem Runs_wp (he:e.Ok) (ops:List Oper) {K:St->Prop} {Q:Exit->Act->World->Prop} (hQ:∀ a w σ',K σ'->SimE e U w0 S0 nt σ' a w->Q .normal a w) (os:List Oper) (σ:St) (a:Act) (w:World) (hd:∀ o∈os,∀ d,o.dst=some d->d < nt) (h:SimE e U w0 S0 nt σ a w) (hp:Runs e (ops.map (·.dst)) 0 os σ K):wpList e.P ops.toArray Q os a w:=by
 have hp:RunsS e (ops.map (·.dst)) os σ K:=by simpa only [Runs] using hp
 exact hp he U w0 S0 nt a w ops Q rfl hd hQ h
end
section
variable {e:Env} {U:Nat->Prop} {w0:World} {S0:Nat->Prop} {nt:Nat} {ops:Array Oper} {n:Nat}
structure HeadAt (ops:Array Oper) (n i:Nat) (o:Oper) (d:Nat):Prop where
 op:ops[i]?=some o
 dst:o.dst=some d
 back:∀ e∈o.after,Region.binds .any e=true->e.on < i
 guard:∀ j want,o.guard=some (j,want)->j < n∧Region.waitsFor .any ops i j=true
 dep:∀ (j:Nat) (p:Oper),j < n->ops[j]?=some p->(j≠i->p.dst≠some d)∧(∀ t∈slotsOf o,p.dst=some t->Region.waitsFor .any ops i j=true)
theorem headB.get (h:headB ops n=true) {i:Nat} (hi:i < n):∃ o d,HeadAt ops n i o d:=by
 have h1:=List.all_eq_true.1 h i (List.mem_range.2 hi)
 cases ho:ops[i]? with
 | none=>rw [ho] at h1;simp at h1
 | some o =>
  rw [ho] at h1
  simp only [Bool.and_eq_true] at h1
  obtain ⟨⟨⟨h2,h3⟩,h5⟩,h4⟩:=h1
  obtain ⟨d,hd⟩:=Option.isSome_iff_exists.1 h2
  refine ⟨o,d,ho,hd,fun e he hb=>?_,fun j want hg=>?_,fun j p hj hp=>?_⟩
  ·have:=Array.all_eq_true'.1 h3 e he
   simpa [hb] using this
  ·rw [hg] at h5
   simpa using h5
  ·have h5:=List.all_eq_true.1 h4 j (List.mem_range.2 hj)
   rw [hp] at h5
   simp only [Bool.and_eq_true,Bool.or_eq_true,beq_iff_eq,bne_iff_ne,ne_eq,Bool.not_eq_true'] at h5
   refine ⟨fun hne hpd=>?_,fun t ht hpt=>?_⟩
   ·rcases h5.1 with h | h
    ·exact hne h
    ·exact h (hpd.trans hd.symm)
   ·rcases h5.2 with h | h
    ·have:=List.any_eq_false.1 h t ht
     simp [hpt] at this
    ·exact h
theorem HeadAt.waits {i:Nat} {o:Oper} {d j:Nat} (h:HeadAt ops n i o d) (hw:Region.waitsFor .any ops i j=true):∃ e∈o.after,Region.binds .any e=true∧e.on=j:=by
 obtain ⟨p3,hp3,e,he,hbe,hon⟩:=Region.waitsFor_spec hw
 rw [h.op] at hp3
 injection hp3 with hp3
 subst hp3
 exact ⟨e,he,hbe,hon⟩
def StepA (e:Env) (U:Nat->Prop) (base:Nat) (S0:Nat->Prop) (m:List (Nat × Bk)) (ops:List Oper) (o:Oper) (s:List (Nat × A)) (α:A):Prop :=
 match o.guard with
 | none=>GivesA e U base S0 m o (evA s) α
 | some (j,want)=>(∃ b,((ops.map (·.dst))[j]?).join.map (gs s)=some (.d (.one (.lit (.bool b))))∧if b=want then GivesA e U base S0 m o (evA s) α else α=.no)∨(((ops.map (·.dst))[j]?).join.map (gs s)=some .no∧α=.no)
def Chain (e:Env) (U:Nat->Prop) (base:Nat) (S0:Nat->Prop) (m:List (Nat × Bk)) (ops:List Oper):List Oper->List (Nat × A)->List A->Prop
 | [],_,[]=>True
 | o::os,s,α::αs=>StepA e U base S0 m ops o s α∧Chain e U base S0 m ops os (setA s o.dst α) αs
 | _,_,_=>False
def after:List (Nat × A)->List Oper->List A->List (Nat × A)
 | s,o::os,α::αs=>after (setA s o.dst α) os αs
 | s,_,_=>s
theorem runs_chain (he:e.Ok) (base:Nat) (S0:Nat->Prop) (l:List Oper) {K:St->Prop} (rest:List Oper) (k:Nat):∀ (os:List Oper) (σ:St),(k=0->∀ o,os.getLast?=some o->isAl o=false)->Runs e (l.map (·.dst)) (os.length+k) (os++rest) σ K ->
  ∃ αs,αs.length=os.length∧Chain e U base S0 σ.m l os σ.s αs∧Runs e (l.map (·.dst)) k rest ⟨after σ.s os αs,σ.m⟩ K
 | [],σ,_,h=>⟨[],rfl,trivial,by rw [List.length_nil,Nat.zero_add] at h;exact h⟩
 | o::os,σ,hl,h=>by
  have ih:=fun (σ':St) (h':Runs e (l.map (·.dst)) (os.length+k) (os++rest) σ' K)=>runs_chain he base S0 l rest k os σ' (fun hk o' ho'=>by
   cases os with
   | nil=>cases ho'
   | cons p ps=>exact hl hk o' (by rw [List.getLast?_cons_cons];exact ho')) h'
  rw [List.length_cons,show os.length+1+k=(os.length+k)+1 by omega] at h
  simp only [List.cons_append,Runs] at h
  cases hg:o.guard with
  | none =>
   rw [hg] at h
   simp only at h
   have hna:¬ (os.length+k=0∧isAl o=true):=fun ⟨h1,h2⟩=>by
    have h3:os=[]:=List.eq_nil_of_length_eq_zero (by omega)
    subst h3
    rw [hl (by omega) o rfl] at h2
    cases h2
   rw [if_neg hna] at h
   obtain ⟨α,h1,h2⟩:=h he
   obtain ⟨αs,h3,h4,h5⟩:=ih _ h1
   exact ⟨α::αs,by simp [h3],⟨by unfold StepA;rw [hg];exact h2 U base S0,h4⟩,h5⟩
  | some jw =>
   obtain ⟨j,want⟩:=jw
   rw [hg] at h
   simp only at h
   split at h
   ·rename_i b hb
    by_cases hbw:b=want
    ·rw [if_pos hbw] at h
     obtain ⟨α,h1,h2⟩:=h he
     obtain ⟨αs,h3,h4,h5⟩:=ih _ h1
     exact ⟨α::αs,by simp [h3],⟨by unfold StepA;rw [hg];exact .inl ⟨b,hb,by rw [if_pos hbw];exact h2 U base S0⟩,h4⟩,h5⟩
    ·rw [if_neg hbw] at h
     obtain ⟨αs,h3,h4,h5⟩:=ih _ h
     exact ⟨.no::αs,by simp [h3],⟨by unfold StepA;rw [hg];exact .inl ⟨b,hb,by rw [if_neg hbw]⟩,h4⟩,h5⟩
   ·rename_i hb
    obtain ⟨αs,h3,h4,h5⟩:=ih _ h
    exact ⟨.no::αs,by simp [h3],⟨by unfold StepA;rw [hg];exact .inr ⟨hb,rfl⟩,h4⟩,h5⟩
   ·exact h.elim
theorem Chain.get {base:Nat} {m:List (Nat × Bk)} {l:List Oper}:∀ {os:List Oper} {s:List (Nat × A)} {αs:List A},Chain e U base S0 m l os s αs->∀ (i:Nat) (o:Oper),os[i]?=some o->∃ α,αs[i]?=some α∧StepA e U base S0 m l o (after s (os.take i) (αs.take i)) α
 | [],_,_,_,i,o,h=>by simp at h
 | p::os,s,[],h,_,_,_=>by simp [Chain] at h
 | p::os,s,α::αs,h,0,o,ho=>by
  simp at ho
  subst ho
  exact ⟨α,by simp,by simpa [after] using h.1⟩
 | p::os,s,α::αs,h,i+1,o,ho=>by
  obtain ⟨β,h1,h2⟩:=Chain.get h.2 i o (by simpa using ho)
  exact ⟨β,by simpa using h1,by simpa [after] using h2⟩
theorem gs_after_out {t:Nat}:∀ (os:List Oper) (αs:List A) (s:List (Nat × A)),(∀ o∈os,o.dst≠some t)->gs (after s os αs) t=gs s t
 | [],αs,s,_=>by cases αs <;> rfl
 | o::os,[],s,_=>rfl
 | o::os,α::αs,s,h=>by
  simp only [after]
  rw [gs_after_out os αs _ (fun p hp=>h p (by simp [hp]))]
  cases hd:o.dst with
  | none=>rfl
  | some d =>
   have:t≠d:=fun e=>h o (by simp) (by rw [hd,e])
   simp [setA,gs,this]
theorem gs_after_in {t:Nat}:∀ (os:List Oper) (αs:List A) (s:List (Nat × A)) (i:Nat) (o:Oper) (α:A),os[i]?=some o->αs[i]?=some α->o.dst=some t->(∀ (j:Nat) (p:Oper),j≠i->os[j]?=some p->p.dst≠some t)->gs (after s os αs) t=α
 | [],_,_,_,_,_,h,_,_,_=>by simp at h
 | _::_,[],_,_,_,_,_,h,_,_=>by simp at h
 | p::os,β::αs,s,0,o,α,h1,h2,h3,h4=>by
  simp at h1 h2
  subst h1 h2
  simp only [after]
  rw [gs_after_out os αs _ (fun q hq=>by obtain ⟨j,hj⟩:=List.mem_iff_getElem?.1 hq;exact h4 (j+1) q (by omega) (by simpa using hj))]
  simp [h3,setA,gs]
 | p::os,β::αs,s,i+1,o,α,h1,h2,h3,h4=>by
  simp only [after]
  exact gs_after_in os αs _ i o α (by simpa using h1) (by simpa using h2) h3 (fun j q hj hq=>h4 (j+1) q (by omega) (by simpa using hq))
structure InvA (e:Env) (U:Nat->Prop) (w0:World) (S0:Nat->Prop) (nt:Nat) (m:List (Nat × Bk)) (ops:Array Oper) (n:Nat) (s:List (Nat × A)) (αs:List A) (L:Lay) (listed:Array Bool) (a:Act) (w:World) (S:Nat->Prop):Prop where
 head:HeadInv .any ops n listed
 size:a.tmps.size=nt
 defers:a.defers=[]
 cls:Cls e U w0.heap.size S0 m w S L
 kept:Kept e.D (fun b=>e.E b∨U b) w0.heap.size w0 w
 out:∀ t,(∀ (i:Nat) (o:Oper),i < n->ops[i]?=some o->o.dst≠some t)->ARel w S L (gs s t) (a.tmps.getD t undef)
 done:∀ (i:Nat) (o:Oper) (d:Nat) (α:A),i < n->listed.getD i false=true->ops[i]?=some o->o.dst=some d->αs[i]?=some α->ARel w S L α (a.tmps.getD d undef)
variable {m:List (Nat × Bk)} {s:List (Nat × A)} {αs:List A} {L:Lay}
theorem InvA.operand (hH:headB ops n=true) (hn:n<=ops.size) {listed:Array Bool} {a:Act} {w:World} {S:Nat->Prop} (hI:InvA e U w0 S0 nt m ops n s αs L listed a w S) (hal:αs.length=n) {i:Nat} {o:Oper} {d:Nat} (hA:HeadAt ops n i o d) (hi:i < n)
  (hall:∀ e∈o.after,Region.binds .any e=true->listed.getD e.on false=true) {t:Nat} (hw:∀ (j:Nat) (p:Oper),j < n->ops[j]?=some p->p.dst=some t->Region.waitsFor .any ops i j=true) :
  ARel w S L (gs (after s (ops.toList.take i) (αs.take i)) t) (a.tmps.getD t undef):=by
 by_cases hex:∃ (j:Nat) (p:Oper),j < n∧ops[j]?=some p∧p.dst=some t
 ·obtain ⟨j,p,hj,hp,hpt⟩:=hex
  obtain ⟨e',he',hbe,hon⟩:=hA.waits (hw j p hj hp hpt)
  have hl:=hall e' he' hbe
  rw [hon] at hl
  have hji:=hA.back e' he' hbe
  rw [hon] at hji
  obtain ⟨α,hα⟩:∃ α,αs[j]?=some α:=⟨αs[j],List.getElem?_eq_getElem (by omega)⟩
  obtain ⟨p',d',hP⟩:=headB.get hH hj
  have hpp:p'=p:=by have:=hP.op;rw [hp] at this;injection this with this;exact this.symm
  subst hpp
  have hdt:d'=t:=by have:=hP.dst;rw [hpt] at this;injection this with this;exact this.symm
  subst hdt
  rw [gs_after_in (ops.toList.take i) (αs.take i) s j p' α (by rw [List.getElem?_take,if_pos hji];simpa using hp) (by rw [List.getElem?_take,if_pos hji];exact hα) hpt (fun k q hk hq=>by
   rw [List.getElem?_take] at hq
   split at hq
   ·exact (hP.dep k q (by omega) (by simpa using hq)).1 hk
   ·cases hq)]
  exact hI.done j p' d' α hj hl hp hpt hα
 ·have hno:∀ (j:Nat) (p:Oper),j < n->ops[j]?=some p->p.dst≠some t:=fun j p hj hp hd=>hex ⟨j,p,hj,hp,hd⟩
  rw [gs_after_out _ _ _ (fun p hp=>by
   obtain ⟨j,hj⟩:=List.mem_iff_getElem?.1 hp
   rw [List.getElem?_take] at hj
   split at hj
   ·exact hno j p (by omega) (by simpa using hj)
   ·cases hj)]
  exact hI.out t hno
theorem InvA.put (hH:headB ops n=true) {listed:Array Bool} {a:Act} {w w':World} {S S':Nat->Prop} (hI:InvA e U w0 S0 nt m ops n s αs L listed a w S) {i:Nat} {o:Oper} {d:Nat} {α:A} {v:Value} (hA:HeadAt ops n i o d) (hi:i < n) (hr:i∈Region.ready .any ops listed) (hdn:d < nt)
  (hα:αs[i]?=some α) (hS:∀ b,S b->S' b) (hC:Cls e U w0.heap.size S0 m w' S' L) (hk:Kept e.D e.E w.heap.size w w') (hv:ARel w' S' L α v) :
  InvA e U w0 S0 nt m ops n s αs L (listed.setIfInBounds i true) (a.put o.dst v) w' S':=by
 have hlt:d < a.tmps.size:=by rw [hI.size];exact hdn
 rw [hA.dst]
 refine ⟨hI.head.set hr hi,by simp [Act.put,hI.size],by simp [Act.put,hI.defers],hC,hI.kept.trans ⟨hk.os,hk.tape,hk.output,hk.drawn,hk.size,fun b hb hE=>hk.block b (by have:=hI.cls.bsz;omega) (fun h1=>hE (.inl h1))⟩,fun t ht=>?_,fun j p dj β hj hl hp hdj hβ=>?_⟩
 ·rw [getD_put hlt]
  have:t≠d:=fun eq=>ht i o hi hA.op (by rw [hA.dst,eq])
  rw [if_neg this]
  exact (hI.out t ht).keep hk.size (hI.cls.cell hk) hS
 ·rw [getD_put hlt]
  by_cases hji:j=i
  ·subst hji
   rw [hA.op] at hp
   injection hp with hp
   subst hp
   rw [hA.dst] at hdj
   injection hdj with hdj
   subst hdj
   rw [hα] at hβ
   injection hβ with hβ
   subst hβ
   simpa using hv
  ·have hne:dj≠d:=fun eq=>(hA.dep j p hj hp).1 hji (by rw [hdj,eq])
   rw [if_neg hne]
   rw [getD_set_ne false (Ne.symm hji)] at hl
   exact (hI.done j p dj β hj hl hp hdj hβ).keep hk.size (hI.cls.cell hk) hS
theorem first_readyA (hH:headB ops n=true) {listed:Array Bool} (hh:HeadInv .any ops n listed) {i:Nat} (hi:i < n) (hun:listed.getD i true=false):Region.ready .any ops listed≠[]:=by
 induction i using Nat.strongRecOn with
 | _ i ih =>
  obtain ⟨o,d,hA⟩:=headB.get hH hi
  by_cases hall:∀ e∈o.after,Region.binds .any e=true->listed.getD e.on false=true
  ·intro h0
   have:=mem_ready.2 ⟨hun,o,hA.op,hall⟩
   rw [h0] at this
   cases this
  ·simp only [Classical.not_forall] at hall
   obtain ⟨e,he,hb,hl⟩:=hall
   have hlt:=hA.back e he hb
   have hs:e.on < listed.size:=by rw [hh.size];have:=(Array.getElem?_eq_some_iff.1 hA.op).1;omega
   exact ih e.on hlt (by omega) (by rw [getD_ftt hs];simpa using hl)
def GoStep (e:Env) (U:Nat->Prop) (w0:World) (S0:Nat->Prop) (nt:Nat) (m:List (Nat × Bk)) (ops:Array Oper) (n:Nat) (s:List (Nat × A)) (αs:List A) (L:Lay) (J:Array Bool->Act->World->(Nat->Prop)->Prop) (Q:Exit->Act->World->Prop):Prop :=
 ∀ (listed:Array Bool) (a:Act) (w:World) (S:Nat->Prop) (i:Nat) (o:Oper) (d:Nat) (α:A),InvA e U w0 S0 nt m ops n s αs L listed a w S->J listed a w S->HeadAt ops n i o d->i < n->i∈Region.ready .any ops listed->d < nt->αs[i]?=some α ->
  (∀ x∈o.op.operands,ARel w S L (evA (after s (ops.toList.take i) (αs.take i)) x) (a.eval x))->GivesA e U w0.heap.size S0 m o (evA (after s (ops.toList.take i) (αs.take i))) α ->
  o.wp e.P a w (fun a' w'=>∃ S',InvA e U w0 S0 nt m ops n s αs L (listed.setIfInBounds i true) a' w' S'∧J (listed.setIfInBounds i true) a' w' S') Q
theorem goStep_true (hH:headB ops n=true) (Q:Exit->Act->World->Prop):GoStep e U w0 S0 nt m ops n s αs L (fun _ _ _ _=>True) Q :=
 fun listed a w S i o d α hI _ hA hin hr hdn hα hop hG=>gives_wp (hG w S L a.eval hI.cls hop) fun v w' ⟨S',hS,hC,hk,hv⟩=>⟨S',hI.put hH hA hin hr hdn hα hS.1 hC hk hv,trivial⟩
theorem wpAny_headA {J:Array Bool->Act->World->(Nat->Prop)->Prop} (he:e.Ok) (hH:headB ops n=true) (hn:n<=ops.size) (hs:n < ops.size->Region.sinkB .any ops n=true∧Region.chainB .any ops n=true) (hsq:Region.seqB .any ops (ops.size - n) n (headArr ops.size n)=true)
  (hsz:∀ (i:Nat) (o:Oper) (d:Nat),i < n->ops[i]?=some o->o.dst=some d->d < nt) (hal:αs.length=n) (hch:Chain e U w0.heap.size S0 m ops.toList (ops.toList.take n) s αs) {Q:Exit->Act->World->Prop} (hgo:GoStep e U w0 S0 nt m ops n s αs L J Q)
  (hsk:∀ (listed:Array Bool) (a:Act) (w:World) (S:Nat->Prop) (i:Nat) (o:Oper) (d:Nat),J listed a w S->InvA e U w0 S0 nt m ops n s αs L listed a w S->HeadAt ops n i o d->i < n->i∈Region.ready .any ops listed->d < nt->o.guard≠none->J (listed.setIfInBounds i true) (a.put o.dst undef) w S)
  (hend:∀ listed a w S,InvA e U w0 S0 nt m ops n s αs L listed a w S->J listed a w S->(∀ i,i < n->listed.getD i false=true)->wpList e.P ops Q (ops.toList.drop n) a w) :
  ∀ (k:Nat) (listed:Array Bool) (a:Act) (w:World) (S:Nat->Prop),InvA e U w0 S0 nt m ops n s αs L listed a w S->J listed a w S->(List.range n).countP (fun i=>!listed.getD i true)=k->wpAny e.P .any ops Q (k+(ops.size - n)) listed a w
 | 0,listed,a,w,S,hI,hJ,hc=>by
  have hall:∀ i,i < n->listed.getD i true=true:=fun i hi=>by
   have:=List.countP_eq_zero.1 hc i (List.mem_range.2 hi)
   simpa using this
  have heq:=listed_eq hI.head hn hall
  have hdl:(ops.toList.drop n).length=ops.size - n:=by simp
  have hE:=hend listed a w S hI hJ (fun i hi=>by
   have hl:i < listed.size:=by rw [hI.head.size];omega
   rw [<- getD_ftt hl];exact hall i hi)
  have:=wpAny_of_seq (md:=.any) (Q':=Q) (ops.toList.drop n) n listed a w (fun j=>by simp [List.getElem?_drop]) (by rw [hdl,heq];exact hsq) hE
  rw [hdl] at this
  simpa using this
 | k+1,listed,a,w,S,hI,hJ,hc=>by
  obtain ⟨i0,hi0,hu0⟩:∃ i,i < n∧listed.getD i true=false:=by
   have:0 < (List.range n).countP (fun i=>!listed.getD i true):=by omega
   obtain ⟨i,hi,hp⟩:=List.countP_pos_iff.1 this
   exact ⟨i,List.mem_range.1 hi,by simpa using hp⟩
  rw [show k+1+(ops.size - n)=(k+(ops.size - n))+1 by omega]
  refine ⟨fun h0=>absurd h0 (first_readyA hH hI.head hi0 hu0),fun i hr=>?_⟩
  obtain ⟨hun,oi,hoi,hall⟩:=mem_ready.1 hr
  have hin:i < n:=by
   rcases Nat.lt_or_ge i n with h | h
   ·exact h
   ·have hns:n < ops.size:=Nat.lt_of_le_of_lt h (Array.getElem?_eq_some_iff.1 hoi).1
    exact absurd hr (tail_waits (hs hns).1 (hs hns).2 hns hI.head _ i0 rfl hi0 hu0 i h)
  obtain ⟨o,d,hA⟩:=headB.get hH hin
  have hoo:oi=o:=by have:=hA.op;rw [hoi] at this;injection this
  subst hoo
  have hls:i < listed.size:=by rw [hI.head.size];exact (Array.getElem?_eq_some_iff.1 hoi).1
  obtain ⟨α,hα,hst⟩:=hch.get i oi (by rw [List.getElem?_take,if_pos hin];simpa using hoi)
  have htk:(ops.toList.take n).take i=ops.toList.take i:=by rw [List.take_take,Nat.min_eq_left (by omega)]
  rw [htk] at hst
  have hdn:=hsz i oi d hin hoi hA.dst
  have hcount:(List.range n).countP (fun j=>!(listed.setIfInBounds i true).getD j true)=k:=by
   have h1:(List.range n).countP (fun j=>!(listed.setIfInBounds i true).getD j true)+1=(List.range n).countP (fun j=>!listed.getD j true):=by
    have hperm:=List.perm_cons_erase (List.mem_range.2 hin)
    rw [hperm.countP_eq,hperm.countP_eq,List.countP_cons,List.countP_cons]
    have hcong:((List.range n).erase i).countP (fun j=>!(listed.setIfInBounds i true).getD j true)=((List.range n).erase i).countP (fun j=>!listed.getD j true):=by
     refine List.countP_congr fun j hj=>?_
     have hne:j≠i:=fun e=>by
      subst e
      exact List.Nodup.not_mem_erase (List.nodup_range) hj
     rw [getD_set_ne true (Ne.symm hne)]
    rw [hcong,hun]
    simp [hls]
   omega
  have hop:∀ x∈oi.op.operands,ARel w S L (evA (after s (ops.toList.take i) (αs.take i)) x) (a.eval x):=fun x hx=>by
   cases x with
   | tmp t =>
    exact hI.operand hH hn hal hA hin hall (fun j p hj hp hpt=>(hA.dep j p hj hp).2 t (List.mem_filterMap.2 ⟨.tmp t,by simpa using hx,rfl⟩) hpt)
   | const v =>
    simp only [evA,Act.eval]
    unfold constA
    split
    ·simp only [ARel,DRel,Rep]
     exact ⟨⟨none,0,0,rfl,rfl,Nat.le_refl _,by decide,fun h=>absurd h (by decide)⟩,none,0,rfl⟩
    ·rename_i vs;exact ⟨vs.toList,rfl,RepVals_zero _⟩
    ·simp [ARel,DRel,Rep]
   | func f =>
    simp only [evA,Act.eval,ARel,DRel,Rep]
    exact ⟨[],rfl,by simp [RepVals]⟩
   | global g=>trivial
  have go:GivesA e U w0.heap.size S0 m oi (evA (after s (ops.toList.take i) (αs.take i))) α->oi.wp e.P a w (wpAny e.P .any ops Q (k+(ops.size - n)) (listed.setIfInBounds i true)) Q:=fun hG =>
   Oper.wp_mono (fun a' w' ⟨S',hI',hJ'⟩=>wpAny_headA he hH hn hs hsq hsz hal hch hgo hsk hend k _ _ _ S' hI' hJ' hcount) (hgo listed a w S i oi d α hI hJ hA hin hr hdn hα hop hG)
  unfold wpOp
  simp only [hoi]
  unfold StepA at hst
  cases hg:oi.guard with
  | none =>
   rw [hg] at hst
   have hwt:Region.wanted oi (yielded ops a.tmps)=true:=by simp [Region.wanted,hg]
   rw [if_pos hwt]
   exact .inl (go hst)
  | some jw =>
   obtain ⟨j,want⟩:=jw
   rw [hg] at hst
   obtain ⟨hjn,hjw⟩:=hA.guard j want hg
   have hrelD:∀ dj,((ops[j]?).bind (·.dst))=some dj->ARel w S L (gs (after s (ops.toList.take i) (αs.take i)) dj) (a.tmps.getD dj undef):=fun dj hdj=>hI.operand hH hn hal hA hin hall (t:=dj) (fun j' p hj' hp hpt=>by
    obtain ⟨p0,d0,hP0⟩:=headB.get hH hjn
    have hd0:d0=dj:=by have:=hdj;rw [hP0.op] at this;simp [hP0.dst] at this;exact this
    by_cases hjj:j'=j
    ·rw [hjj];exact hjw
    ·exact absurd (by rw [hpt,hd0]) ((hP0.dep j' p hj' hp).1 hjj))
   rcases hst with ⟨b,hb1,hb2⟩ | ⟨hb1,hb2⟩
   rotate_left
   ·simp only [Option.map_eq_some_iff] at hb1
    obtain ⟨dj,hd1,hd2⟩:=hb1
    have hdj:((ops[j]?).bind (·.dst))=some dj:=by simpa using join_bind hd1
    have hrel:=hrelD dj hdj
    rw [hd2] at hrel
    rw [wanted_no hg hdj hrel]
    subst hb2
    simp only [Bool.false_eq_true,if_false]
    exact wpAny_headA he hH hn hs hsq hsz hal hch hgo hsk hend k _ _ _ S (hI.put hH hA hin hr hdn hα (fun _ h=>h) hI.cls (Kept.refl _ _ _ _) rfl) (hsk listed a w S i oi d hJ hI hA hin hr hdn (by rw [hg];simp)) hcount
   simp only [Option.map_eq_some_iff] at hb1
   obtain ⟨dj,hd1,hd2⟩:=hb1
   have hdj:((ops[j]?).bind (·.dst))=some dj:=by simpa using join_bind hd1
   have hrel:=hrelD dj hdj
   rw [hd2] at hrel
   have h4:=getD_bool hrel.bool
   have hwt:Region.wanted oi (yielded ops a.tmps)=decide (b=want):=by
    have h6:yielded ops a.tmps j=some b:=by unfold yielded;rw [hdj];simp only [Option.bind_some,h4]
    simp only [Region.wanted,hg,h6]
    cases b <;> cases want <;> rfl
   rw [hwt]
   by_cases hbw:b=want
   ·rw [if_pos hbw] at hb2
    simp only [hbw,decide_true,if_true]
    exact .inl (go hb2)
   ·rw [if_neg hbw] at hb2
    subst hb2
    simp only [hbw,decide_false,Bool.false_eq_true,if_false]
    exact wpAny_headA he hH hn hs hsq hsz hal hch hgo hsk hend k _ _ _ S (hI.put hH hA hin hr hdn hα (fun _ h=>h) hI.cls (Kept.refl _ _ _ _) rfl) (hsk listed a w S i oi d hJ hI hA hin hr hdn (by rw [hg];simp)) hcount
end
section
variable {e:Env} {U:Nat->Prop} {w0:World} {S0:Nat->Prop} {nt:Nat}
theorem SimE.drew {σ:St} {a:Act} {w:World} (he:e.Ok) (h:SimE e U w0 S0 nt σ a w):SimE e U w0 S0 nt σ a { w with drawn:=w.drawn+1 }:=by
 obtain ⟨S,L,h⟩:=h
 have hk:Kept e.D e.E w.heap.size w { w with drawn:=w.drawn+1 }:=⟨rfl,rfl,rfl,fun _=>Nat.le_succ _,Nat.le_refl _,fun _ _ _=>rfl⟩
 exact ⟨S,L,h.later (h.cls.later hk (he.keep w _ (Nat.le_refl _) (fun _ _=>rfl) h.cls.g) (fun _ h=>h) (fun _ h=>.inl h)) hk (fun _ h=>h)⟩
theorem region_draw (he:e.Ok) {id:Nat} {ops:Array Oper} {n:Nat} (hB:regB ops n=true) (hna:∀ o,(ops.toList.take n).getLast?=some o->isAl o=false) {K:St->Prop} {Q:Exit->Act->World->Prop} (hQ:∀ a w σ',K σ'->SimE e U w0 S0 nt σ' a w->Q .normal a w) {σ:St} {a:Act} {w:World}
  (hd:∀ o∈ops.toList,∀ d,o.dst=some d->d < nt) (h:SimE e U w0 S0 nt σ a w) (hp:Runs e (ops.toList.map (·.dst)) n ops.toList σ K):(Code.region id ops true).wp e.P Q a w:=by
 simp only [regB,Bool.and_eq_true,Bool.or_eq_true,decide_eq_true_eq] at hB
 obtain ⟨⟨⟨hH,hn⟩,hs⟩,hsq⟩:=hB
 obtain ⟨S,L,h1⟩:=h.drew he
 refine wp_region_any he.mixed ?_
 have hsplit:ops.toList=ops.toList.take n++ops.toList.drop n:=(List.take_append_drop n _).symm
 have hlen:(ops.toList.take n).length=n:=by simp;omega
 have hp':Runs e (ops.toList.map (·.dst)) ((ops.toList.take n).length+0) (ops.toList.take n++ops.toList.drop n) σ K:=by rw [<- hsplit,hlen];exact hp
 obtain ⟨αs,hal,hch,hrest⟩:=runs_chain (U:=U) he w0.heap.size S0 ops.toList (ops.toList.drop n) 0 (ops.toList.take n) σ (fun _=>hna) hp'
 rw [hlen] at hal
 have inv0:InvA e U w0 S0 nt σ.m ops n σ.s αs L (Array.replicate ops.size false) a { w with drawn:=w.drawn+1 } S :=
  ⟨⟨by simp,fun j oj _ hl=>(by rw [getD_replicate_false] at hl;cases hl),fun t _ ht=>getD_in (by simpa using ht) (getD_replicate_false _ _)⟩,h1.size,h1.defers,h1.cls,h1.kept,fun t _=>h1.rel t,fun i o d α _ hl=>(by rw [getD_replicate_false] at hl;cases hl)⟩
 have H:=wpAny_headA (e:=e) (L:=L) (Q:=Q) he hH hn (fun hlt=>by
   rcases hs with hs | hs
   ·omega
   ·exact hs) hsq (fun i o d hi ho hdd=>hd o (List.mem_iff_getElem?.2 ⟨i,by simpa using ho⟩) d hdd) hal hch (goStep_true hH Q) (fun _ _ _ _ _ _ _ _ _ _ _ _ _ _=>trivial) (fun listed a' w' S' hI _ hall=>?_) n _ a _ S inv0 trivial ?_
 ·rw [show n+(ops.size - n)=ops.size by omega] at H
  exact H
 ·have hsim:SimE e U w0 S0 nt ⟨after σ.s (ops.toList.take n) αs,σ.m⟩ a' w':=by
   refine ⟨S',L,hI.cls,fun t=>?_,hI.size,hI.defers,hI.kept⟩
   by_cases hex:∃ (j:Nat) (p:Oper),j < n∧ops[j]?=some p∧p.dst=some t
   ·obtain ⟨j,p,hj,hp,hpt⟩:=hex
    obtain ⟨p',d',hP⟩:=headB.get hH hj
    have hpp:p'=p:=by have:=hP.op;rw [hp] at this;injection this with this;exact this.symm
    subst hpp
    have hdt:d'=t:=by have:=hP.dst;rw [hpt] at this;injection this with this;exact this.symm
    subst hdt
    obtain ⟨α,hα⟩:∃ α,αs[j]?=some α:=⟨αs[j],List.getElem?_eq_getElem (by omega)⟩
    show ARel w' S' L (gs (after σ.s (ops.toList.take n) αs) d') _
    rw [gs_after_in (ops.toList.take n) αs σ.s j p' α (by rw [List.getElem?_take,if_pos hj];simpa using hp) hα hpt (fun k q hk hq=>by
     rw [List.getElem?_take] at hq
     split at hq
     ·exact (hP.dep k q (by omega) (by simpa using hq)).1 hk
     ·cases hq)]
    exact hI.done j p' d' α hj (hall j hj) hp hpt hα
   ·have hno:∀ (j:Nat) (p:Oper),j < n->ops[j]?=some p->p.dst≠some t:=fun j p hj hp hd=>hex ⟨j,p,hj,hp,hd⟩
    show ARel w' S' L (gs (after σ.s (ops.toList.take n) αs) t) _
    rw [gs_after_out _ _ _ (fun p hp=>by
     obtain ⟨j,hj⟩:=List.mem_iff_getElem?.1 hp
     rw [List.getElem?_take] at hj
     split at hj
     ·exact hno j p (by omega) (by simpa using hj)
     ·cases hj)]
    exact hI.out t hno
  have:=Runs_wp he ops.toList hQ (ops.toList.drop n) _ a' w' (fun o ho=>hd o (List.mem_of_mem_drop ho)) hsim hrest
  simpa using this
 ·rw [List.countP_eq_length.2]
  ·simp
  ·intro i hi
   have hi':=List.mem_range.1 hi
   have hsz:i < (Array.replicate ops.size false).size:=by simp;omega
   rw [getD_ftt hsz,getD_replicate_false]
   rfl
theorem gs_trimS (mask t:Nat):∀ (s:List (Nat × A)),gs (trimS mask s) t=gs s t∨gs (trimS mask s) t=.undef
 | []=>.inl rfl
 | (k,a)::r=>by
  have key:∀ (s:List (Nat × A)),mask.testBit t=false->gs (trimS mask s) t=.undef:=by
   intro s ht
   induction s with
   | nil=>rfl
   | cons p s ih =>
    obtain ⟨k,a⟩:=p
    simp only [trimS]
    split
    ·rename_i hk
     have:t≠k:=fun e=>by rw [e,hk] at ht;cases ht
     simp only [gs,this,if_false]
     exact ih
    ·exact ih
  cases ht:mask.testBit t with
  | false=>exact .inr (key _ ht)
  | true =>
   left
   have key2:∀ (s:List (Nat × A)),gs (trimS mask s) t=gs s t:=by
    intro s
    induction s with
    | nil=>rfl
    | cons p s ih =>
     obtain ⟨k,a⟩:=p
     simp only [trimS]
     split
     ·simp only [gs,ih]
     ·rename_i hk
      have:t≠k:=fun e=>hk (by rw [<- e];exact ht)
      simp only [gs,this,if_false]
      exact ih
   exact key2 _
theorem gs_weakS {s:List (Nat × A)} {t:Nat}:∀ {r:List (Nat × A)},weakS s r->gs r t=gs s t∨gs r t=.undef
 | [],_=>.inr rfl
 | (k,a)::r,h=>by
  simp only [weakS] at h
  simp only [gs]
  split
  ·rename_i e;rw [e];exact .inl h.1.symm
  ·exact gs_weakS h.2
theorem gm_weakM {m:List (Nat × Bk)} {t:Nat}:∀ {r:List (Nat × Bk)} {cs:Bk},weakM m r->gm r t=some cs->gm m t=some cs
 | [],_,_,h=>by simp [gm] at h
 | (k,a)::r,cs,h,hg=>by
  simp only [weakM] at h
  simp only [gm] at hg
  split at hg
  ·rename_i e;rw [e,h.1];exact hg
  ·exact gm_weakM h.2 hg
theorem SimE.weak {σ σ':St} {a:Act} {w:World} (h:SimE e U w0 S0 nt σ a w) (hs:∀ t,gs σ'.s t=gs σ.s t∨gs σ'.s t=.undef) (hm:∀ t cs,gm σ'.m t=some cs->gm σ.m t=some cs):SimE e U w0 S0 nt σ' a w:=by
 obtain ⟨S,L,h⟩:=h
 refine ⟨S,L,⟨h.cls.sin,h.cls.sfr,h.cls.ein,h.cls.uin,h.cls.bsz,fun k x g hk=>h.cls.mine k x g (hm k x hk),fun k x hk=>h.cls.own k x (hm k x hk),fun k k' x x' g h1 h2=>h.cls.inj k k' x x' g (hm _ _ h1) (hm _ _ h2),h.cls.g⟩,fun t=>?_,h.size,h.defers,h.kept⟩
 rcases hs t with h1 | h1
 ·rw [h1];exact h.rel t
 ·rw [h1];trivial
theorem alloc_gives {m:List (Nat × Bk)} {base:Nat} {ρ:Operand->A} {o:Oper} {t:TypeId} {v:Value} {i:TypeInfo} (he:e.Ok) (ho:o.op=.alloc t) (hi:e.P.info? t=some i) (hv:i.zero=some v):GivesA e U base S0 m o ρ .undef:=by
 intro w S L ρv hC hr
 have hb:Below w.heap.size w (w.alloc (.cells v.cells t)):=belowA w _
 unfold gives
 have hrun:(execOp ρv o).run e.P w=.ok (.value (.pointer (some ⟨w.heap.size,0,none⟩))) (w.alloc (.cells v.cells t)):=by
  simp [execOp,ho,Instr.alloc,zeroValue,typeInfo,hi,hv,newVar,newRow,Result.andThen]
 rw [hrun]
 have hk:Kept e.D e.E w.heap.size w (w.alloc (.cells v.cells t)):=Kept.of_below hb (fun _=>Nat.le_refl _)
 exact ⟨S,⟨fun _ h=>h,fun _ h=>.inl h⟩,hC.later hk (he.keep _ _ hb.size (fun b hE=>hb.block b (Nat.lt_of_lt_of_le (hC.ein b hE) hC.bsz)) hC.g) (fun _ h=>h) (fun _ h=>.inl h),hk,trivial⟩
def BornJ (e:Env) (base p d:Nat) (m:List (Nat × Bk)) (L:Lay) (t:TypeId) (v:Value) (listed:Array Bool) (a:Act) (w:World) (S:Nat->Prop):Prop :=
 listed.getD p false=true->∃ b,a.tmps.getD d undef=.pointer (some ⟨b,0,none⟩)∧base<=b∧b < w.heap.size∧¬ S b∧(∀ k bk,gm m k=some bk->¬ blkOf L k bk b)∧w.heap[b]?=some (.cells v.cells t)
theorem Cls.blk_lt {m:List (Nat × Bk)} {base:Nat} {w:World} {S:Nat->Prop} {L:Lay} (h:Cls e U base S0 m w S L) {k:Nat} {bk:Bk} {g:Nat} (hk:gm m k=some bk) (hg:blkOf L k bk g):g < w.heap.size:=by
 have ho:=h.own k bk hk
 exact (Own1.lt ho hg).1
theorem region_drawA_any (he:e.Ok) {ops:Array Oper} {p:Nat} (hAl:isAllocB ops p=true) (hB:regB ops (p+1)=true) {K:St->Prop} {Q:Exit->Act->World->Prop} (hQ:∀ a w σ',K σ'->SimE e U w0 S0 nt σ' a w->Q .normal a w) {σ:St} {a:Act} {w:World}
  (hd:∀ o∈ops.toList,∀ d,o.dst=some d->d < nt) (h:SimE e U w0 S0 nt σ a w) (hp:Runs e (ops.toList.map (·.dst)) (p+1) ops.toList σ K):wpAny e.P .any ops Q ops.size (Array.replicate ops.size false) a w:=by
 simp only [regB,Bool.and_eq_true,Bool.or_eq_true,decide_eq_true_eq] at hB
 obtain ⟨⟨⟨hH,hn⟩,hs⟩,hsq⟩:=hB
 unfold isAllocB at hAl
 split at hAl
 rotate_left
 ·cases hAl
 rename_i o0 hop
 unfold isAl at hAl
 split at hAl
 rotate_left
 ·cases hAl
 rename_i d t ty pos af
 obtain ⟨S,L,h1⟩:=h
 have hsplit:ops.toList=ops.toList.take p++ops.toList.drop p:=(List.take_append_drop p _).symm
 have hlen:(ops.toList.take p).length=p:=by simp;omega
 have hp':Runs e (ops.toList.map (·.dst)) ((ops.toList.take p).length+1) (ops.toList.take p++ops.toList.drop p) σ K:=by rw [<- hsplit,hlen];exact hp
 obtain ⟨αs0,hal0,hch0,hrest0⟩:=runs_chain (U:=U) he w0.heap.size S0 ops.toList (ops.toList.drop p) 1 (ops.toList.take p) σ (fun h=>absurd h (by decide)) hp'
 rw [hlen] at hal0
 have hpl:ops.toList[p]?=some ⟨some d,.alloc t,ty,pos,af,none⟩:=by simpa using hop
 have hdrop:ops.toList.drop p=⟨some d,.alloc t,ty,pos,af,none⟩::ops.toList.drop (p+1):=by
  rw [List.drop_eq_getElem_cons (List.getElem?_eq_some_iff.1 hpl).1,(List.getElem?_eq_some_iff.1 hpl).2]
 have htake:ops.toList.take (p+1)=ops.toList.take p++[⟨some d,.alloc t,ty,pos,af,none⟩]:=take_snoc hpl
 rw [hdrop] at hrest0
 simp only [Runs,isAl,and_self,if_true] at hrest0
 obtain ⟨d0,t0,cs,hd0,ht0,hz,hrest⟩:=hrest0
 injection hd0 with hd0
 subst hd0
 injection ht0 with ht0
 subst ht0
 unfold zeroT at hz
 simp only [Option.map_eq_some_iff,Option.bind_eq_some_iff] at hz
 obtain ⟨v,⟨i,hi,hv⟩,hcs⟩:=hz
 have hG:=fun (ρ:Operand->A)=>alloc_gives (U:=U) (S0:=S0) (m:=σ.m) (base:=w0.heap.size) (ρ:=ρ) (o:=⟨some d,.alloc t,ty,pos,af,none⟩) he rfl hi hv
 have hal:(αs0++[A.undef]).length=p+1:=by simp [hal0]
 have chain_snoc:∀ (os:List Oper) (s:List (Nat × A)) (αs:List A),Chain e U w0.heap.size S0 σ.m ops.toList os s αs->Chain e U w0.heap.size S0 σ.m ops.toList (os++[⟨some d,.alloc t,ty,pos,af,none⟩]) s (αs++[A.undef]):=by
  intro os
  induction os with
  | nil =>
   intro s αs hc
   cases αs with
   | nil=>exact ⟨hG _,trivial⟩
   | cons x xs=>simp [Chain] at hc
  | cons o os ih =>
   intro s αs hc
   cases αs with
   | nil=>simp [Chain] at hc
   | cons x xs=>exact ⟨hc.1,ih _ _ hc.2⟩
 have after_snoc:∀ (os:List Oper) (s:List (Nat × A)) (αs:List A),αs.length=os.length->after s (os++[⟨some d,.alloc t,ty,pos,af,none⟩]) (αs++[A.undef])=(d,A.undef)::after s os αs:=by
  intro os
  induction os with
  | nil =>
   intro s αs hl
   cases αs with
   | nil=>rfl
   | cons x xs=>simp at hl
  | cons o os ih =>
   intro s αs hl
   cases αs with
   | nil=>simp at hl
   | cons x xs=>exact ih _ _ (by simpa using hl)
 have hch:Chain e U w0.heap.size S0 σ.m ops.toList (ops.toList.take (p+1)) σ.s (αs0++[A.undef]):=by rw [htake];exact chain_snoc _ _ _ hch0
 have haf:after σ.s (ops.toList.take (p+1)) (αs0++[A.undef])=(d,A.undef)::after σ.s (ops.toList.take p) αs0:=by rw [htake];exact after_snoc _ _ _ (by rw [hal0,hlen])
 have inv0:InvA e U w0 S0 nt σ.m ops (p+1) σ.s (αs0++[A.undef]) L (Array.replicate ops.size false) a w S :=
  ⟨⟨by simp,fun j oj _ hl=>(by rw [getD_replicate_false] at hl;cases hl),fun t _ ht=>getD_in (by simpa using ht) (getD_replicate_false _ _)⟩,h1.size,h1.defers,h1.cls,h1.kept,fun t _=>h1.rel t,fun i o d α _ hl=>(by rw [getD_replicate_false] at hl;cases hl)⟩
 have hJ0:BornJ e w0.heap.size p d σ.m L t v (Array.replicate ops.size false) a w S:=fun hl=>by rw [getD_replicate_false] at hl;cases hl
 have hA0:∀ {i':Nat} {o':Oper} {d':Nat},HeadAt ops (p+1) i' o' d'->i'≠p->d'≠d:=fun hA hne e'=>by
  have:=(hA.dep p _ (by omega) hop).1 (Ne.symm hne)
  exact this (by rw [e'])
 have hgo:GoStep e U w0 S0 nt σ.m ops (p+1) σ.s (αs0++[A.undef]) L (BornJ e w0.heap.size p d σ.m L t v) Q:=by
  intro listed a w S i' o' d' α hI hJ hA hin hr hdn hα hopd hG'
  by_cases hip:i'=p
  ·subst hip
   have ho':o'=⟨some d,.alloc t,ty,pos,af,none⟩:=by have:=hA.op;rw [hop] at this;injection this with this;exact this.symm
   subst ho'
   have hdd:d'=d:=by have:=hA.dst;injection this with this;exact this.symm
   subst hdd
   have hau:α=A.undef:=by rw [List.getElem?_append_right (by omega),hal0] at hα;simpa using hα.symm
   subst hau
   unfold Oper.wp
   have hrun:(execOp a.eval ⟨some d',.alloc t,ty,pos,af,none⟩).run e.P w=.ok (.value (.pointer (some ⟨w.heap.size,0,none⟩))) (w.alloc (.cells v.cells t)):=by
    simp [execOp,Instr.alloc,zeroValue,typeInfo,hi,hv,newVar,newRow,Result.andThen]
   have hb:Below w.heap.size w (w.alloc (.cells v.cells t)):=belowA w _
   have hk:Kept e.D e.E w.heap.size w (w.alloc (.cells v.cells t)):=Kept.of_below hb (fun _=>Nat.le_refl _)
   have hC:=hI.cls
   have hC':Cls e U w0.heap.size S0 σ.m (w.alloc (.cells v.cells t)) S L:=hC.later hk (he.keep _ _ hb.size (fun b hE=>hb.block b (Nat.lt_of_lt_of_le (hC.ein b hE) hC.bsz)) hC.g) (fun _ h=>h) (fun _ h=>.inl h)
   rw [hrun,Oper.upon_value]
   refine ⟨S,hI.put hH hA hin hr hdn hα (fun _ h=>h) hC' hk trivial,fun _=>⟨w.heap.size,?_,hC.bsz,by simp,fun hs=>by have:=(hC.sin _ hs).1;omega,fun k bk hk hg=>by have:=hC.blk_lt hk hg;omega,heap_alloc_new w _⟩⟩
   rw [getD_put (by rw [hI.size];exact hdn)]
   simp
  ·refine gives_wp (hG' w S L a.eval hI.cls hopd) fun v' w' ⟨S',hS,hC,hk,hv'⟩=>⟨S',hI.put hH hA hin hr hdn hα hS.1 hC hk hv',fun hl=>?_⟩
   rw [getD_set_ne false hip] at hl
   obtain ⟨b,q1,q2,q3,q4,q5,q6⟩:=hJ hl
   refine ⟨b,?_,q2,Nat.lt_of_lt_of_le q3 hk.size,fun hs=>?_,q5,?_⟩
   ·rw [hA.dst,getD_put (by rw [hI.size];exact hdn),if_neg (Ne.symm (hA0 hA hip))]
    exact q1
   ·rcases hS.2 b hs with hs | hs
    ·exact q4 hs
    ·omega
   ·rw [hk.block b q3 (fun hE=>by have:=hI.cls.ein b hE;omega)]
    exact q6
 have hskp:∀ (listed:Array Bool) (a:Act) (w:World) (S:Nat->Prop) (i':Nat) (o':Oper) (d':Nat),BornJ e w0.heap.size p d σ.m L t v listed a w S->InvA e U w0 S0 nt σ.m ops (p+1) σ.s (αs0++[A.undef]) L listed a w S->HeadAt ops (p+1) i' o' d'->i' < p+1->i'∈Region.ready .any ops listed->d' < nt->o'.guard≠none->BornJ e w0.heap.size p d σ.m L t v (listed.setIfInBounds i' true) (a.put o'.dst undef) w S:=by
  intro listed a w S i' o' d' hJ hI hA hin hr hdn hg hl
  have hip:i'≠p:=fun e'=>by
   subst e'
   have:=hA.op
   rw [hop] at this
   injection this with this
   rw [<- this] at hg
   exact hg rfl
  rw [getD_set_ne false hip] at hl
  obtain ⟨b,q1,q2⟩:=hJ hl
  refine ⟨b,?_,q2⟩
  rw [hA.dst,getD_put (by rw [hI.size];exact hdn),if_neg (Ne.symm (hA0 hA hip))]
  exact q1
 have H:=wpAny_headA (e:=e) (L:=L) (Q:=Q) he hH hn (fun hlt=>by
   rcases hs with hs | hs
   ·omega
   ·exact hs) hsq (fun i o d hi ho hdd=>hd o (List.mem_iff_getElem?.2 ⟨i,by simpa using ho⟩) d hdd) hal hch hgo hskp (fun listed a' w' S' hI hJ hall=>?_) (p+1) _ a _ S inv0 hJ0 ?_
 ·rw [show p+1+(ops.size - (p+1))=ops.size by omega] at H
  exact H
 ·have hsim:Sim e U w0 S0 nt ⟨after σ.s (ops.toList.take (p+1)) (αs0++[A.undef]),σ.m⟩ a' w' S' L:=by
   refine ⟨hI.cls,fun t=>?_,hI.size,hI.defers,hI.kept⟩
   by_cases hex:∃ (j:Nat) (p':Oper),j < p+1∧ops[j]?=some p'∧p'.dst=some t
   ·obtain ⟨j,p0,hj,hp,hpt⟩:=hex
    obtain ⟨p',d',hP⟩:=headB.get hH hj
    have hpp:p'=p0:=by have:=hP.op;rw [hp] at this;injection this with this;exact this.symm
    subst hpp
    have hdt:d'=t:=by have:=hP.dst;rw [hpt] at this;injection this with this;exact this.symm
    subst hdt
    obtain ⟨α,hα⟩:∃ α,(αs0++[A.undef])[j]?=some α:=⟨(αs0++[A.undef])[j],List.getElem?_eq_getElem (by omega)⟩
    show ARel w' S' L (gs (after σ.s (ops.toList.take (p+1)) (αs0++[A.undef])) d') _
    rw [gs_after_in (ops.toList.take (p+1)) (αs0++[A.undef]) σ.s j p' α (by rw [List.getElem?_take,if_pos hj];simpa using hp) hα hpt (fun k q hk hq=>by
     rw [List.getElem?_take] at hq
     split at hq
     ·exact (hP.dep k q (by omega) (by simpa using hq)).1 hk
     ·cases hq)]
    exact hI.done j p' d' α hj (hall j hj) hp hpt hα
   ·have hno:∀ (j:Nat) (p':Oper),j < p+1->ops[j]?=some p'->p'.dst≠some t:=fun j p' hj hp hd=>hex ⟨j,p',hj,hp,hd⟩
    show ARel w' S' L (gs (after σ.s (ops.toList.take (p+1)) (αs0++[A.undef])) t) _
    rw [gs_after_out _ _ _ (fun p' hp=>by
     obtain ⟨j,hj⟩:=List.mem_iff_getElem?.1 hp
     rw [List.getElem?_take] at hj
     split at hj
     ·exact hno j p' (by omega) (by simpa using hj)
     ·cases hj)]
    exact hI.out t hno
  rw [haf] at hsim
  obtain ⟨b,q1,q2,q3,q4,q5,q6⟩:=hJ (hall p (by omega))
  have hdn:d < nt:=hd _ (List.mem_iff_getElem?.2 ⟨p,hpl⟩) d rfl
  have hrv:=RepVals_zero (w:=w') (S:=S') v.cells.toList
  rw [hcs] at hrv
  have hsimB:=hsim.bornE (bk:=.var none cs) (w':=w') (b':=b) (v':=undef) (u:=a'.tmps.getD d undef) (τ:=some b) (s1:=(d,A.undef)::after σ.s (ops.toList.take p) αs0) (m1:=σ.m) (α:=.ref d 0) (S':=S') hdn (fun _ h=>h) (fun _ h=>.inl h) (fun t=>.inl rfl) (fun k x h=>h)
   (fun g hg=>by injection hg with hg;subst hg;exact ⟨q4,fun hE=>by have:=hI.cls.ein _ hE;omega,.inl q2⟩) (fun k x g hkd hx hg hb=>by injection hg with hg;subst hg;exact q5 k x hx hb)
   (Kept.refl _ _ _ _) hI.cls.g (by
    simp only [Own1,if_true]
    refine ⟨by simp,q3,q4,⟨v.cells,t,q6,by have:=hrv.len;simpa using this⟩,?_⟩
    exact RepRow.of_vals cs v.cells.toList 0 hrv (fun j u hj=>by
     rw [Nat.zero_add]
     have hj':v.cells[j]?=some u:=by simpa using hj
     simp [World.cell?,q6,hj']))
   (fun g hg=>by simp only [blkOf,if_true] at hg;exact .inl (by rw [hg])) (by simp [ARel,q1])
  have hsimD:SimE e U w0 S0 nt ⟨(d,.ref d 0)::killK d ((d,A.undef)::after σ.s (ops.toList.take p) αs0),(d,.var none cs)::remM d σ.m⟩ a' w':=by
   obtain ⟨S2,L2,k1,k2,k3,k4,k5⟩:=hsimB
   refine ⟨S2,L2,k1,fun t=>?_,hI.size,hI.defers,k5⟩
   have:=k2 t
   rw [getD_put (by rw [hI.size];exact hdn)] at this
   by_cases ht:t=d
   ·rw [if_pos ht] at this;rw [ht];rw [ht] at this;exact this
   ·rw [if_neg ht] at this;exact this
  have hsimC:SimE e U w0 S0 nt ⟨(d,.ref d 0)::killK d (after σ.s (ops.toList.take p) αs0),(d,.var none cs)::remM d σ.m⟩ a' w':=SimE.weak hsimD (fun t=>.inl (by
   by_cases ht:t=d
   ·simp [gs,ht]
   ·simp [gs,ht,killK])) (fun t x hx=>hx)
  have:=hrest he U w0 S0 nt a' w' ops.toList Q rfl (fun o ho=>hd o (List.mem_of_mem_drop ho)) hQ hsimC
  simpa using this
 ·rw [List.countP_eq_length.2]
  ·simp
  ·intro i hi
   have hi':=List.mem_range.1 hi
   have hsz:i < (Array.replicate ops.size false).size:=by simp;omega
   rw [getD_ftt hsz,getD_replicate_false]
   rfl
theorem region_drawA (he:e.Ok) {id:Nat} {ops:Array Oper} {p:Nat} (hAl:isAllocB ops p=true) (hB:regB ops (p+1)=true) {K:St->Prop} {Q:Exit->Act->World->Prop} (hQ:∀ a w σ',K σ'->SimE e U w0 S0 nt σ' a w->Q .normal a w) {σ:St} {a:Act} {w:World}
  (hd:∀ o∈ops.toList,∀ d,o.dst=some d->d < nt) (h:SimE e U w0 S0 nt σ a w) (hp:Runs e (ops.toList.map (·.dst)) (p+1) ops.toList σ K):(Code.region id ops true).wp e.P Q a w:=wp_region_any he.mixed (region_drawA_any he hAl hB hQ hd (h.drew he) hp)
theorem wp_loop_ghost {P:Program} {Q:Exit->Act->World->Prop} {c:Code} {ι:Type} (I:ι->Act->World->Prop) (μ:ι->Nat) (i0:ι) {a:Act} {w:World} (h₀:I i0 a w)
  (round:∀ i a w,I i a w->c.wp P (Exit.then (fun a' w'=>∃ j,I j a' w'∧μ j < μ i) Q) a w):(Code.loop c).wp P Q a w:=by
 intro b k cs
 have key:∀ n i a w,μ i=n->I i a w ->
   ∃ e a' w',Q e a' w'∧Arrives P (lone (b.at a (.code c::.inLoop c::k)) cs w) b k cs e a' w':=by
  intro n
  induction n using Nat.strongRecOn with
  | _ n ih =>
   intro i a w hn hI
   obtain ⟨e,a₁,w₁,hq,harr⟩:=round i a w hI b (.inLoop c::k) cs
   cases e with
   | normal =>
    obtain ⟨j,hI₁,hlt⟩:=hq
    obtain ⟨e₂,a₂,w₂,hq₂,harr₂⟩:=ih (μ j) (hn ▸ hlt) j a₁ w₁ rfl hI₁
    exact ⟨e₂,a₂,w₂,hq₂,.of_steps (Steps.trans harr (.one step_inLoop)) harr₂⟩
   | exit id=>exact ⟨_,a₁,w₁,hq,.pass (x:=.inLoop c) rfl (fun _ _=>.inl (by simp)) harr⟩
   | goto l=>exact ⟨_,a₁,w₁,hq,.pass (x:=.inLoop c) rfl (fun _ _=>.inl (by simp)) harr⟩
   | ret=>exact ⟨_,a₁,w₁,hq,.pass (x:=.inLoop c) rfl (fun _ _=>.inl (by simp)) harr⟩
   | panic ch=>exact ⟨_,a₁,w₁,hq,.pass (x:=.inLoop c) rfl (fun _ _=>.inl (by simp)) harr⟩
   | outgrown=>exact ⟨_,a₁,w₁,hq,.pass (x:=.inLoop c) rfl (fun _ _=>.inl (by simp)) harr⟩
 obtain ⟨e,a',w',hq,harr⟩:=key _ i0 a w rfl h₀
 exact ⟨e,a',w',hq,.of_steps (.one step_loop) harr⟩
def okCode (nt:Nat):Code->Bool
 | .region _ ops _=>ops.toList.all (fun o=>o.dst.all (fun d=>decide (d < nt)))
 | .seq a b=>okCode nt a && okCode nt b
 | .cond _ a b=>okCode nt a && okCode nt b
 | .block _ c=>okCode nt c
 | .loop c=>okCode nt c
 | _=>true
def Then (e:Env) (U:Nat->Prop) (w0:World) (S0:Nat->Prop) (nt:Nat) (K:St->Prop) (a:Act) (w:World):Prop:=∃ σ,K σ∧SimE e U w0 S0 nt σ a w
def LQ (e:Env) (U:Nat->Prop) (w0:World) (S0:Nat->Prop) (nt:Nat) (Q:PX->St->Prop):Exit->Act->World->Prop
 | .normal,a,w=>Then e U w0 S0 nt (Q .normal) a w
 | .exit id,a,w=>Then e U w0 S0 nt (Q (.exit id)) a w
 | .ret,a,w=>Then e U w0 S0 nt (Q .ret) a w
 | _,_,_=>False
def pwp (e:Env) (mask:Nat) (c:Code) (σ:St) (Q:PX->St->Prop):Prop:=e.Ok->∀ (U:Nat->Prop) (w0:World) (S0:Nat->Prop) (nt:Nat) (a:Act) (w:World),okCode nt c=true->SimE e U w0 S0 nt σ a w->c.wp e.P (LQ e U w0 S0 nt Q) a w
def TrimK (mask:Nat) (Q:PX->St->Prop) (σ':St):Prop:=Q .normal ⟨trimS mask σ'.s,σ'.m⟩
end
section
variable {e:Env} {mask:Nat} {σ:St} {Q:PX->St->Prop}
theorem LQ.mono {U:Nat->Prop} {w0:World} {S0:Nat->Prop} {nt:Nat} {Q Q':PX->St->Prop} (hQ:∀ p σ,Q p σ->Q' p σ) {ex:Exit} {a:Act} {w:World} (h:LQ e U w0 S0 nt Q ex a w):LQ e U w0 S0 nt Q' ex a w:=by
 cases ex with
 | normal=>exact h.elim fun σ h=>⟨σ,hQ _ _ h.1,h.2⟩
 | exit id=>exact h.elim fun σ h=>⟨σ,hQ _ _ h.1,h.2⟩
 | ret=>exact h.elim fun σ h=>⟨σ,hQ _ _ h.1,h.2⟩
 | goto l=>exact h
 | panic ch=>exact h
 | outgrown=>exact h
theorem pwp_mono {Q Q':PX->St->Prop} (hQ:∀ p σ,Q p σ->Q' p σ) (c:Code) (σ:St) (h:pwp e mask c σ Q):pwp e mask c σ Q':=fun he U w0 S0 nt a w hok hs=>wp_mono (h he U w0 S0 nt a w hok hs) fun ex a' w' hq=>hq.mono hQ
theorem pwp_turn {P:St->Prop} {c:Code} (hT:Turn e σ P) (h:∀ σ',P σ'->pwp e mask c σ' Q):pwp e mask c σ Q:=fun he U w0 S0 nt a w hok hs=>by
 obtain ⟨σ',h1,h2⟩:=hT he U w0 S0 nt a w hs
 exact h σ' h1 he U w0 S0 nt a w hok h2
theorem pwp_skip (h:Q .normal σ):pwp e mask .skip σ Q:=fun he U w0 S0 nt a w hok hs=>wp_skip ⟨σ,h,hs⟩
theorem pwp_exit {id:Nat} (h:Q (.exit id) σ):pwp e mask (.exit id) σ Q:=fun he U w0 S0 nt a w hok hs=>wp_exit ⟨σ,h,hs⟩
theorem pwp_ret (h:Q .ret σ):pwp e mask .ret σ Q:=fun he U w0 S0 nt a w hok hs=>wp_ret ⟨σ,h,hs⟩
theorem pwp_region {id:Nat} {ops:Array Oper} {draw:Bool} (n:Nat) (hn:(if draw then regX ops n else decide (n=0))=true) (hp:Runs e (ops.toList.map (·.dst)) n ops.toList σ (TrimK mask Q)):pwp e mask (.region id ops draw) σ Q:=fun he U w0 S0 nt a w hok hs=>by
 simp only [okCode] at hok
 have hd:∀ o∈ops.toList,∀ d,o.dst=some d->d < nt:=fun o ho d hd=>by
  have:=List.all_eq_true.1 hok o ho
  rw [hd] at this
  simpa using this
 have hQ:∀ a w σ',TrimK mask Q σ'->SimE e U w0 S0 nt σ' a w->LQ e U w0 S0 nt Q .normal a w:=fun a w σ' h1 h2 =>
  ⟨_,h1,h2.weak (fun t=>gs_trimS mask t σ'.s) (fun _ _ h=>h)⟩
 cases draw with
 | false =>
  have hn:n=0:=by simpa using hn
  subst hn
  refine wp_region_list ?_
  have:=Runs_wp he ops.toList hQ ops.toList _ a w hd hs hp
  simpa using this
 | true =>
  have hn:regB ops n=true:=by simpa [regX] using hn
  cases n with
  | zero=>exact region_draw he hn (by simp) hQ hd hs hp
  | succ p =>
   by_cases hA:isAllocB ops p=true
   ·exact region_drawA he hA hn hQ hd hs hp
   ·refine region_draw he hn (fun o ho=>?_) hQ hd hs hp
    have hle:p+1<=ops.size:=by
     simp only [regB,Bool.and_eq_true,decide_eq_true_eq] at hn
     exact hn.1.1.2
    have hlt:p < ops.size:=by omega
    have e:(ops.toList.take (p+1)).getLast?=ops[p]?:=by
     rw [List.getLast?_eq_getElem?]
     simp only [List.length_take,Array.length_toList,Nat.min_eq_left hle,Nat.add_sub_cancel]
     rw [List.getElem?_take,if_pos (by omega)]
     simp
    rw [e] at ho
    unfold isAllocB at hA
    rw [ho] at hA
    simpa using hA
theorem pwp_seqW {a b:Code} (h:pwp e mask a σ (fun x σ'=>match x with
  | .normal=>∃ σ1,Wk σ' σ1∧pwp e mask b σ1 Q
  | x=>Q x σ')):pwp e mask (.seq a b) σ Q:=fun he U w0 S0 nt ac w hok hs=>by
 simp only [okCode,Bool.and_eq_true] at hok
 refine wp_seq (wp_mono (h he U w0 S0 nt ac w hok.1 hs) fun ex a' w' hq=>?_)
 cases ex with
 | normal=>obtain ⟨σ',⟨σ1,hw,h1⟩,h2⟩:=hq;exact h1 he U w0 S0 nt a' w' hok.2 (h2.weak hw.1 hw.2)
 | exit id=>exact hq
 | ret=>exact hq
 | goto l=>exact hq
 | panic ch=>exact hq
 | outgrown=>exact hq
theorem pwp_cond {c:Operand} {a b:Code} {t:Bool} (hc:evA σ.s c=.d (.one (.lit (.bool t)))) (h1:t=true->pwp e mask a σ Q) (h2:t=false->pwp e mask b σ Q):pwp e mask (.cond c a b) σ Q:=fun he U w0 S0 nt ac w hok hs=>by
 simp only [okCode,Bool.and_eq_true] at hok
 obtain ⟨S,L,h'⟩:=id hs
 have h3:=h'.eval c
 rw [hc] at h3
 refine wp_cond h3.bool ?_
 cases t
 ·simp only [Bool.false_eq_true,if_false];exact h2 rfl he U w0 S0 nt ac w hok.2 hs
 ·simp only [if_true];exact h1 rfl he U w0 S0 nt ac w hok.1 hs
theorem pwp_block {id:Nat} {c:Code} (h:pwp e mask c σ (fun x σ'=>match x with
  | .exit j=>if j=id then Q .normal σ' else Q (.exit j) σ'
  | x=>Q x σ')):pwp e mask (.block id c) σ Q:=fun he U w0 S0 nt ac w hok hs=>by
 simp only [okCode] at hok
 refine wp_block (wp_mono (h he U w0 S0 nt ac w hok hs) fun ex a' w' hq=>?_)
 cases ex with
 | normal=>exact hq
 | exit j =>
  obtain ⟨σ',h1,h2⟩:=hq
  simp only [Exit.inBlock]
  simp only at h1
  split
  ·rename_i hj;rw [if_pos hj] at h1;exact ⟨σ',h1,h2⟩
  ·rename_i hj;rw [if_neg hj] at h1;exact ⟨σ',h1,h2⟩
 | ret=>exact hq
 | goto l=>exact hq
 | panic ch=>exact hq
 | outgrown=>exact hq
theorem pwp_loop {c:Code} {ι:Type} (st:ι->St) (ok:ι->Prop) (μ:ι->Nat) (x0:ι) (h0:ok x0) (hs0:weakS σ.s (st x0).s) (hm0:weakM σ.m (st x0).m)
  (hr:∀ x,ok x->pwp e mask c (st x) (fun p σ''=>match p with
   | .normal=>∃ y,ok y∧weakS σ''.s (st y).s∧weakM σ''.m (st y).m∧μ y < μ x
   | p=>Q p σ'')):pwp e mask (.loop c) σ Q:=fun he U w0 S0 nt ac w hok hs=>by
 simp only [okCode] at hok
 refine wp_loop_ghost (ι:=ι) (fun x a w=>ok x∧SimE e U w0 S0 nt (st x) a w) μ x0 ⟨h0,hs.weak (fun t=>gs_weakS hs0) (fun t cs=>gm_weakM hm0)⟩ fun x1 a1 w1 ⟨h1,h2⟩=>?_
 refine wp_mono (hr x1 h1 he U w0 S0 nt a1 w1 hok h2) fun ex a' w' hq=>?_
 cases ex with
 | normal =>
  obtain ⟨σ',⟨y,h5,h3,h4,h6⟩,h7⟩:=hq
  exact ⟨y,⟨h5,h7.weak (fun t=>gs_weakS h3) (fun t cs=>gm_weakM h4)⟩,h6⟩
 | exit id=>exact hq
 | ret=>exact hq
 | goto l=>exact hq
 | panic ch=>exact hq
 | outgrown=>exact hq
end
def initS:Nat->List D->List (Nat × A)
 | _,[]=>[]
 | k,x::xs=>(k,.d x)::initS (k+1) xs
theorem gs_initS:∀ (xs:List D) (k t:Nat),gs (initS k xs) t=if k<=t then match xs[t - k]? with
   | some x=>.d x
   | none=>.undef
  else .undef
 | [],k,t=>by simp [initS,gs]
 | x::xs,k,t=>by
  simp only [initS,gs]
  by_cases h1:t=k
  ·subst h1;simp
  ·rw [gs_initS xs (k+1) t]
   simp only [h1,if_false]
   by_cases h2:k+1<=t
   ·rw [if_pos h2,if_pos (by omega),show t - k=(t - (k+1))+1 by omega]
    simp
   ·rw [if_neg h2]
    by_cases h3:k<=t
    ·omega
    ·rw [if_neg h3]
inductive RS where
 | slot (t:Nat)
 | cell (t ty:Nat)
def resSlots:List ResultVar->List RS
 | []=>[]
 | .tmp t::r=>.slot t::resSlots r
 | .cell a t::r=>.cell a t::resSlots r
def resA (P:Program) (σ:St):RS->A
 | .slot t=>gs σ.s t
 | .cell t ty=>(loadA (kindT P ty) (ptrA σ.m (gs σ.s t))).getD .undef
def resOk (P:Program) (σ:St):List RS->List D->Prop
 | [],[]=>True
 | t::ts,x::xs=>resA P σ t=.d x∧resOk P σ ts xs
 | _,_=>False
def retQ (P:Program) (slots:List RS) (r:List D):PX->St->Prop
 | .exit _,_=>False
 | _,σ=>∃ ks,resOk P (frzs ks σ) slots r
section
variable {e:Env} {U:Nat->Prop} {w0:World} {S0:Nat->Prop} {nt:Nat} {σ:St} {a:Act} {w:World} {S:Nat->Prop} {L:Lay}
theorem resA_run (h:Sim e U w0 S0 nt σ a w S L) {x:ResultVar} {rs:List RS} {t:RS} (hrs:resSlots [x]=[t]) {y:D} (hy:resA e.P σ t=.d y):∃ v,(match x with
   | .tmp t=>(pure (a.tmps.getD t undef):Sem Value)
   | .cell b t=>do loadVar t (<- asAddr (a.tmps.getD b undef))).run e.P w=.ok v w∧DRel w S y v:=by
 cases x with
 | tmp k =>
  simp only [resSlots,List.cons.injEq,and_true] at hrs
  subst hrs
  have:=h.rel k
  simp only [resA] at hy
  rw [hy] at this
  exact ⟨_,rfl,this⟩
 | cell b ty =>
  simp only [resSlots,List.cons.injEq,and_true] at hrs
  subst hrs
  simp only [resA] at hy
  cases hl:loadA (kindT e.P ty) (ptrA σ.m (gs σ.s b)) with
  | none=>rw [hl] at hy;simp at hy
  | some α =>
   rw [hl] at hy
   simp only [Option.getD_some] at hy
   subst hy
   unfold loadA at hl
   split at hl
   ·rename_i k cs hk hp
    obtain ⟨u,h1,h2⟩:=ptrA_load h.cls hp (h.rel b) hk hl
    refine ⟨u,?_,h2⟩
    have hptr:∃ p,a.tmps.getD b undef=.pointer (some p):=by
     have hr:=h.rel b
     unfold ptrA at hp
     split at hp
     ·rename_i hx;rw [hx] at hr;simp only [ARel,DRel,Rep] at hr;obtain ⟨b',off,hv,_⟩:=hr;exact ⟨_,hv⟩
     ·rename_i hx;rw [hx] at hr;exact ⟨_,hr⟩
     ·rename_i hx;rw [hx] at hr;obtain ⟨g,_,hv⟩:=hr;exact ⟨_,hv⟩
     ·cases hp
    obtain ⟨p,hp'⟩:=hptr
    rw [hp'] at h1
    show Sem.run e.P (do loadVar ty (<- asAddr (a.tmps.getD b undef))) w=_
    rw [hp']
    simpa [Instr.loadAt,Instr.sureAddr,asAddr,Result.andThen] using h1
   ·cases hl
theorem resSlots_run (h:Sim e U w0 S0 nt σ a w S L):∀ {l:List ResultVar} {r:List D},resOk e.P σ (resSlots l) r->∃ vs:List Value,(l.mapM (m:=Sem) fun (x:ResultVar)=>match x with
   | .tmp t=>(pure (a.tmps.getD t undef):Sem Value)
   | .cell b t=>do loadVar t (<- asAddr (a.tmps.getD b undef))).run e.P w=.ok vs w∧DsRel w S r vs
 | [],r,hr=>by
  cases r with
  | nil=>exact ⟨[],by simp,trivial⟩
  | cons x xs=>simp [resSlots,resOk] at hr
 | x::l,r,hr=>by
  have hx:resSlots (x::l)=(resSlots [x]).head (by cases x <;> simp [resSlots])::resSlots l:=by cases x <;> rfl
  rw [hx] at hr
  cases r with
  | nil=>simp [resOk] at hr
  | cons y ys =>
   simp only [resOk] at hr
   obtain ⟨v,h1,h2⟩:=resA_run h (x:=x) (rs:=[]) (by cases x <;> rfl) hr.1
   obtain ⟨vs,h3,h4⟩:=resSlots_run h hr.2
   refine ⟨v::vs,?_,h2,h4⟩
   simp only [List.mapM_cons,Sem.run_bind,Sem.run_pure,Result.andThen_ok]
   rw [h1]
   simp only [Result.andThen_ok]
   rw [h3]
   simp
end
theorem results_run {e:Env} {U:Nat->Prop} {w0:World} {S0:Nat->Prop} {nt:Nat} {σ:St} {a:Act} {w:World} {S:Nat->Prop} {L:Lay} {fn:Func} {r:List D} (h:Sim e U w0 S0 nt σ a w S L) (hr:resOk e.P σ (resSlots fn.results.toList) r) :
  ∃ v,(results fn a.tmps).run e.P w=.ok v w∧ARel w S ⟨fun _=>0,fun _=>Go.undef⟩ (retA r) v:=by
 obtain ⟨vs,h1,h2⟩:=resSlots_run h hr
 have hrun:(fn.results.mapM (m:=Sem) fun (x:ResultVar)=>match x with
   | .tmp t=>(pure (a.tmps.getD t undef):Sem Value)
   | .cell b t=>do loadVar t (<- asAddr (a.tmps.getD b undef))).run e.P w=.ok vs.toArray w:=by
  rw [Array.mapM_eq_mapM_toList]
  simp only [Sem.run_map,h1,Result.andThen_ok]
 have hrun:(results fn a.tmps).run e.P w=.ok (if h:(vs.toArray).size=1 then (vs.toArray)[0] else .tuple vs.toArray) w:=by
  unfold results
  rw [Sem.run_bind]
  exact congrArg (fun (z:Result (Array Value))=>z.andThen (fun a w''=>Sem.run e.P (pure (if h:a.size=1 then a[0] else Value.tuple a)) w'')) hrun
 match r,vs,h2,hrun with
 | [x],[v],hd,hrun=>exact ⟨v,by rw [hrun];simp,hd.1⟩
 | [],[],hd,hrun=>exact ⟨.tuple #[],by rw [hrun];simp,[],rfl,trivial⟩
 | x::y::r',v::v'::vs',hd,hrun=>exact ⟨.tuple (v::v'::vs').toArray,by rw [hrun];simp,_,rfl,hd⟩
 | [],_::_,hd,_=>simp [DsRel] at hd
 | _::_,[],hd,_=>simp [DsRel] at hd
 | [_],_::_::_,hd,_=>simp [DsRel] at hd
 | _::_::_,[_],hd,_=>simp [DsRel] at hd
theorem init_rel {w:World} {S:Nat->Prop} {L:Lay} {args:List D} {vs:List Value} {n:Nat} (hvs:DsRel w S args vs) (t:Nat):ARel w S L (gs (initS 0 args) t) ((vs.toArray++Array.replicate n undef).getD t undef):=by
 rw [gs_initS]
 simp only [Nat.zero_le,if_true,Nat.sub_zero]
 cases hx:args[t]? with
 | none=>trivial
 | some x =>
  obtain ⟨v,h1,h2⟩:=hvs.get hx
  have hlt:t < vs.length:=(List.getElem?_eq_some_iff.1 h1).1
  have e1:(vs.toArray++Array.replicate n undef).getD t undef=v:=by
   rw [Array.getD_eq_getD_getElem?,Array.getElem?_append_left (by simpa using hlt)]
   simp [h1]
  simp only [e1]
  exact h2
theorem con_of_pwp {e:Env} (he:e.Ok) {f:FuncId} {fn:Func} {c:Code} {args r:List D} {ts:List RS} (mask:Nat) (hf:e.P.funcs[f]?=some fn) (hb:fn.body=some c) (hnm:(fn.name == "runtime.NumGoroutine")=false)
  (hok:okCode fn.ntmps c=true) (hal:Nat.ble args.length fn.ntmps=true) (hres:resSlots fn.results.toList=ts) (h:pwp e mask c ⟨initS 0 args,[]⟩ (retQ e.P ts r)):Con e f args r:=by
 refine ⟨by unfold hasBody;rw [hf];simp [hnm,hb],fun w S vs hS hE hG hvs=>?_⟩
 have hvl:=hvs.len
 have hal:=Nat.le_of_ble_eq_true hal
 subst hres
 refine calls_of_wp hf hb ?_
 have hsim:SimE e (fun _=>False) w S fn.ntmps ⟨initS 0 args,[]⟩ { tmps:=vs.toArray++Array.replicate (fn.ntmps - vs.toArray.size) undef,defers:=[] } w:=by
  exact ⟨S,⟨fun _=>0,fun _=>Go.undef⟩,⟨hS,fun b hb=>.inl hb,hE,fun _ h=>h.elim,Nat.le_refl _,fun k x g hk=>by simp [gm] at hk,fun k x hk=>by simp [gm] at hk,fun k k' x x' g hk=>by simp [gm] at hk,hG⟩,fun t=>init_rel hvs t,by simp;omega,rfl,Kept.refl _ _ _ _⟩
 refine wp_mono (h he _ _ _ _ _ w hok hsim) fun ex a' w' hq=>?_
 have fin:∀ σ',(∃ ks,resOk e.P (frzs ks σ') (resSlots fn.results.toList) r)->SimE e (fun _=>False) w S fn.ntmps σ' a' w'->a'.defers=[]∧∃ v,(results fn a'.tmps).run e.P w'=.ok v w'∧∃ u,Ending.returned v=.returned u∧Kept e.D e.E w.heap.size w w'∧e.G w'∧ARel w' (fun b=>S b∨(w.heap.size<=b∧b < w'.heap.size)) ⟨fun _=>0,fun _=>Go.undef⟩ (retA r) u:=by
  intro σ' ⟨ks,h1⟩ h2
  obtain ⟨S',L',h2⟩:=SimE.frzs he ks σ' h2
  obtain ⟨v,h3,h4⟩:=results_run h2 h1
  refine ⟨h2.defers,v,h3,v,rfl,⟨h2.kept.os,h2.kept.tape,h2.kept.output,h2.kept.drawn,h2.kept.size,fun b hb hE=>h2.kept.block b hb (fun h=>h.elim hE id)⟩,h2.cls.g,h4.keep (Nat.le_refl _) (fun _ _ _=>rfl) (fun b hb=>?_)⟩
  rcases h2.cls.sfr b hb with h | h | h
  ·exact .inl h
  ·exact .inr ⟨h,(h2.cls.sin b hb).1⟩
  ·exact h.elim
 cases ex with
 | normal=>obtain ⟨σ',h1,h2⟩:=hq;exact fin σ' h1 h2
 | ret=>obtain ⟨σ',h1,h2⟩:=hq;exact fin σ' h1 h2
 | exit id=>obtain ⟨σ',h1,h2⟩:=hq;exact h1.elim
 | goto l=>exact hq.elim
 | panic ch=>exact hq.elim
 | outgrown=>exact hq.elim
def retQP (P:Program) (slots:List RS) (R:List D->List Bk->Prop):PX->St->Prop
 | .exit _,_=>False
 | _,σ=>∃ r ks pm,getM σ.m ks=some pm∧ks.Nodup∧pm.all pinned=true∧R r pm∧resOk P σ slots r
theorem conP_of_pwp {e:Env} (he:e.Ok) {f:FuncId} {fn:Func} {c:Code} {args:List D} {pm:List Bk} {R:List D->List Bk->Prop} {ts:List RS} (keys:List Nat) (mask:Nat) (hf:e.P.funcs[f]?=some fn) (hb:fn.body=some c) (hnm:(fn.name == "runtime.NumGoroutine")=false)
  (hok:okCode fn.ntmps c=true) (hal:Nat.ble args.length fn.ntmps=true) (hres:resSlots fn.results.toList=ts) (h:pwp e mask c ⟨initS 0 args,zipM keys pm⟩ (retQP e.P ts R)):ConP e f args pm R:=by
 refine ⟨by unfold hasBody;rw [hf];simp [hnm,hb],fun w S vs hS hE hG hpm hap hvs=>?_⟩
 have hvl:=hvs.len
 have hal:=Nat.le_of_ble_eq_true hal
 subst hres
 refine calls_of_wp hf hb ?_
 have hsim:SimE e (pblks pm) w S fn.ntmps ⟨initS 0 args,zipM keys pm⟩ { tmps:=vs.toArray++Array.replicate (fn.ntmps - vs.toArray.size) undef,defers:=[] } w:=by
  have at':∀ k x,gm (zipM keys pm) k=some x->x∈pm∧Own1 w S (layB (zipM keys pm) ⟨fun _=>0,fun _=>Go.undef⟩) k x∧∀ g,blkOf (layB (zipM keys pm) ⟨fun _=>0,fun _=>Go.undef⟩) k x g ↔ pblk x g:=fun k x hx=>by
   have hm:=(gm_zipM hx).2
   exact ⟨hm,own_of_pin (hpm x hm).1 hx⟩
  refine ⟨S,layB (zipM keys pm) ⟨fun _=>0,fun _=>Go.undef⟩,⟨hS,fun b hb=>.inl hb,hE,fun b ⟨x,hx,hg⟩=>(hpm x hx).2 b hg,Nat.le_refl _,fun k x g hx hg=>.inr ⟨x,(at' k x hx).1,((at' k x hx).2.2 g).1 hg⟩,fun k x hx=>(at' k x hx).2.1,fun k k' x x' g hx hx' hg hg'=>?_,hG⟩,fun t=>init_rel hvs t,by simp;omega,rfl,Kept.refl _ _ _ _⟩
  exact zip_apart hap hx hx' (((at' k x hx).2.2 g).1 hg) (((at' k' x' hx').2.2 g).1 hg')
 refine wp_mono (h he _ _ _ _ _ w hok hsim) fun ex a' w' hq=>?_
 have fin:∀ σ',(∃ r ks pm',getM σ'.m ks=some pm'∧ks.Nodup∧pm'.all pinned=true∧R r pm'∧resOk e.P σ' (resSlots fn.results.toList) r)->SimE e (pblks pm) w S fn.ntmps σ' a' w'->a'.defers=[]∧∃ v,(results fn a'.tmps).run e.P w'=.ok v w' ∧
   ∃ u r pm',Ending.returned v=.returned u∧R r pm'∧Kept e.D (fun b=>e.E b∨pblks pm b) w.heap.size w w'∧e.G w' ∧
   (∀ x∈pm',PinRel w' (fun b=>(S b∨pblks pm b∨(w.heap.size<=b∧b < w'.heap.size))∧¬ pblks pm' b) x∧∀ g,pblk x g->pblks pm g∨w.heap.size<=g)∧Apart pm' ∧
   ARel w' (fun b=>(S b∨pblks pm b∨(w.heap.size<=b∧b < w'.heap.size))∧¬ pblks pm' b) ⟨fun _=>0,fun _=>Go.undef⟩ (retA r) u:=by
  intro σ' ⟨r,ks,pm',hg,hn,hp,hR,h1⟩ ⟨S',L',h2⟩
  obtain ⟨v,h3,h4⟩:=results_run h2 h1
  have hp:∀ x∈pm',pinned x=true:=fun x hx=>List.all_eq_true.1 hp x hx
  have hS':∀ b,S' b->(S b∨pblks pm b∨(w.heap.size<=b∧b < w'.heap.size))∧¬ pblks pm' b:=fun b hb=>by
   refine ⟨?_,fun ⟨x,hx,hxg⟩=>?_⟩
   ·rcases h2.cls.sfr b hb with q | q | q
    ·exact .inl q
    ·exact .inr (.inr ⟨q,(h2.cls.sin b hb).1⟩)
    ·exact .inr (.inl q)
   ·obtain ⟨k,hk,hkx⟩:=getM_mem hg x hx
    exact ((h2.cls.own k x hkx).lt (((pin_of_own (h2.cls.own k x hkx) (hp x hx)).2 b).2 hxg)).2 hb
  refine ⟨h2.defers,v,h3,v,r,pm',rfl,hR,h2.kept,h2.cls.g,fun x hx=>?_,getM_apart h2.cls.own h2.cls.inj hn hg hp,ARel_ret (h4.keep (Nat.le_refl _) (fun _ _ _=>rfl) hS')⟩
  obtain ⟨k,hk,hkx⟩:=getM_mem hg x hx
  have ho:=h2.cls.own k x hkx
  have hpo:=pin_of_own ho (hp x hx)
  refine ⟨(pin_of_own (ho.keep (Nat.le_refl _) (fun _ _ _=>rfl) hS' (fun g hg'=>⟨rfl,fun hs=>hs.2 ⟨x,hx,(hpo.2 g).1 hg'⟩⟩)) (hp x hx)).1,fun g hg'=>?_⟩
  rcases h2.cls.mine k x g hkx ((hpo.2 g).2 hg') with q | q
  ·exact .inr q
  ·exact .inl q
 cases ex with
 | normal=>obtain ⟨σ',h1,h2⟩:=hq;exact fin σ' h1 h2
 | ret=>obtain ⟨σ',h1,h2⟩:=hq;exact fin σ' h1 h2
 | exit id=>obtain ⟨σ',h1,h2⟩:=hq;exact h1.elim
 | goto l=>exact hq.elim
 | panic ch=>exact hq.elim
 | outgrown=>exact hq.elim
inductive Res where
 | bad
 | done (σ:St)
 | call (q:Bool) (c:Operand) (args:List Operand) (d:Option Nat) (n:Nat) (os:List Oper) (σ:St)
 | map (q:Bool) (d:Option Nat) (n:Nat) (os:List Oper) (σ:St)
 | stop (n:Nat) (os:List Oper) (σ:St)
def contR (x:Option St) (f:St->Res):Res :=
 match x with
 | some σ=>f σ
 | none=>.bad
def skipR (d:Option Nat) (next:St->Res) (σ:St):Res:=next ⟨setA σ.s d .no,σ.m⟩
def pickR (yes no:St->Res) (σ:St):Bool->Res
 | true=>yes σ
 | false=>no σ
def guardR (want:Bool) (yes no:St->Res) (σ:St):Option A->Res
 | some (.d (.one (.lit (.bool b))))=>pickR yes no σ (b==want)
 | some .no=>no σ
 | _=>.bad
def qB:Nat->Bool
 | 0=>false
 | _+1=>true
def stepR (P:Program) (d:Option Nat) (ty:TypeId) (q n:Nat) (os:List Oper) (next:St->Res):Op->St->Res
 | .alloc t,σ=>contR (if qB q=true then none else newE σ d (zeroT P t)) next
 | .call ⟨.value c,args,_⟩,σ=>.call (qB n) c args.toList d (n - 1) os σ
 | .makeMap _ none,σ=>.map (qB n) d (n - 1) os σ
 | op,σ=>contR (stepE P (qB n) σ d ty op) next
def runOps (P:Program) (ds:List (Option Nat)):Nat->List Oper->St->Res
 | _,[],σ=>.done σ
 | n,⟨d,op,ty,_,_,none⟩::os,σ=>stepR P d ty (n - 1) n os (runOps P ds (n - 1) os) op σ
 | n,⟨d,op,ty,_,_,some (j,want)⟩::os,σ=>guardR want (stepR P d ty n n os (runOps P ds (n - 1) os) op) (skipR d (runOps P ds (n - 1) os)) σ ((ds[j]?.join).map (gs σ.s))
def runN (P:Program) (ds:List (Option Nat)):Nat->Nat->List Oper->St->Res
 | 0,n,os,σ=>.stop n os σ
 | _+1,_,[],σ=>.done σ
 | j+1,n,⟨d,op,ty,_,_,none⟩::os,σ=>stepR P d ty (n - 1) n os (runN P ds j (n - 1) os) op σ
 | j+1,n,⟨d,op,ty,_,_,some (i,want)⟩::os,σ=>guardR want (stepR P d ty n n os (runN P ds j (n - 1) os) op) (skipR d (runN P ds j (n - 1) os)) σ ((ds[i]?.join).map (gs σ.s))
def ResQ (e:Env) (ds:List (Option Nat)) (K:St->Prop):Res->Prop
 | .bad=>False
 | .done σ=>K σ
 | .call q c args d n os σ=>∀ (o:Oper) (ts:Array TypeId),o.op=.call ⟨.value c,args.toArray,ts⟩->o.dst=d->stepQ e q o σ (fun σ'=>Runs e ds n os σ' K)
 | .map q d n os σ=>q=false∧∀ b:Nat,Runs e ds n os ⟨setA σ.s d (.d (.one (.lit (.map (some b))))),σ.m⟩ K
 | .stop n os σ=>Runs e ds n os σ K
theorem stepR_sound {e:Env} {ds:List (Option Nat)} {os:List Oper} {K:St->Prop} {n q:Nat} {next:St->Res} (ih:∀ σ,ResQ e ds K (next σ)->Runs e ds (n - 1) os σ K) {o:Oper} {σ:St} (hq:q=n∨∀ t,o.op≠.alloc t) (h:ResQ e ds K (stepR e.P o.dst o.type q n os next o.op σ)) :
  stepQ e (qB n) o σ (fun σ'=>Runs e ds (n - 1) os σ' K):=by
 unfold stepR at h
 split at h
 ·rename_i t ho
  rcases hq with hq | hq
  ·subst hq
   unfold contR at h
   split at h
   ·rename_i σ' hσ
    cases hq:qB q with
    | true=>rw [hq] at hσ;simp at hσ
    | false =>
     rw [hq] at hσ
     show StepOk e o _ (fun σ'=>Runs e ds (q - 1) os σ' K)
     refine step_E (σ':=σ') ?_ (ih σ' h)
     simp only [ho,stepE]
     exact hσ
   ·exact h.elim
  ·exact (hq t ho).elim
 ·rename_i c args ts ho
  exact h o ts (by rw [ho]) rfl
 ·rename_i t ho
  obtain ⟨h1,h2⟩:=h
  rw [h1]
  exact step_makeMap ho h2
 ·rename_i op σ1 hne0 hne hne2 ho
  unfold contR at h
  split at h
  ·rename_i σ' hσ
   cases hq:qB n with
   | true =>
    rw [hq] at hσ
    show QuietOk e o _ (fun σ'=>Runs e ds (n - 1) os σ' K)
    exact quiet_E hσ (ih σ' h)
   | false =>
    rw [hq] at hσ
    show StepOk e o _ (fun σ'=>Runs e ds (n - 1) os σ' K)
    exact step_E hσ (ih σ' h)
  ·exact h.elim
theorem runs_cons {e:Env} {ds:List (Option Nat)} {K:St->Prop} {n:Nat} {os:List Oper} {o:Oper} {σ:St} {next:St->Res} (hg:o.guard=none) (ih:∀ σ,ResQ e ds K (next σ)->Runs e ds (n - 1) os σ K) (h:ResQ e ds K (stepR e.P o.dst o.type (n - 1) n os next o.op σ)):Runs e ds n (o::os) σ K:=by
 have alloc:∀ t,o.op=.alloc t->qB (n - 1)=false∧∃ d cs,o.dst=some d∧zeroT e.P t=some cs∧Runs e ds (n - 1) os ⟨(d,.ref d 0)::killK d σ.s,(d,.var none cs)::remM d σ.m⟩ K:=fun t ho=>by
  rw [ho] at h
  simp only [stepR] at h
  unfold contR at h
  split at h
  ·rename_i σ' hσ
   split at hσ
   ·cases hσ
   ·rename_i hq
    unfold newE at hσ
    split at hσ
    ·rename_i d cs hd hz
     injection hσ with hσ
     exact ⟨by simpa using hq,d,cs,hd,hz,by rw [hσ];exact ih _ h⟩
    ·cases hσ
  ·exact h.elim
 cases n with
 | zero =>
  simp only [Runs]
  have h1:=stepR_sound (n:=0) (q:=0) ih (.inl rfl) h
  have h1:StepOk e o σ (fun σ'=>Runs e ds 0 os σ' K):=h1
  simp only [Runs] at h1
  exact runsS_step hg h1
 | succ n =>
  simp only [Runs,hg]
  by_cases hal:∃ t,o.op=.alloc t
  ·obtain ⟨t,ho⟩:=hal
   obtain ⟨h1,d,cs,h2,h3,h4⟩:=alloc t ho
   have hn:n=0:=by
    cases n with
    | zero=>rfl
    | succ k=>cases h1
   subst hn
   have hia:isAl o=true:=by
    obtain ⟨od,oo,ot,op,oa,og⟩:=o
    simp only at ho h2 hg
    subst ho h2 hg
    rfl
   simp only [hia,and_self,if_true]
   simp only [Nat.add_sub_cancel,Runs] at h4
   exact ⟨d,t,cs,h2,ho,h3,h4⟩
  ·have hna:¬ (n=0∧isAl o=true):=fun ⟨_,h2⟩=>by
    unfold isAl at h2
    split at h2
    ·exact hal ⟨_,rfl⟩
    ·cases h2
   rw [if_neg hna]
   exact stepR_sound ih (.inr fun t ht=>hal ⟨t,ht⟩) h
theorem runs_consG {e:Env} {ds:List (Option Nat)} {K:St->Prop} {n:Nat} {os:List Oper} {o:Oper} {σ:St} {j:Nat} {want:Bool} (hg:o.guard=some (j,want)) (h:match (ds[j]?.join).map (gs σ.s) with
   | some (.d (.one (.lit (.bool b))))=>if b=want then stepQ e (qB n) o σ (fun σ'=>Runs e ds (n - 1) os σ' K) else Runs e ds (n - 1) os ⟨setA σ.s o.dst .no,σ.m⟩ K
   | some .no=>Runs e ds (n - 1) os ⟨setA σ.s o.dst .no,σ.m⟩ K
   | _=>False):Runs e ds n (o::os) σ K:=by
 cases n with
 | zero =>
  simp only [Runs]
  refine runsS_guard hg ?_
  split at h
  ·rename_i b hb
   try simp only [hb]
   split at h
   ·rename_i hbw
    rw [if_pos hbw]
    have h:StepOk e o σ (fun σ'=>Runs e ds 0 os σ' K):=h
    simpa only [Runs] using h
   ·rename_i hbw
    rw [if_neg hbw]
    have h:Runs e ds 0 os ⟨setA σ.s o.dst .no,σ.m⟩ K:=h
    simpa only [Runs] using h
  ·rename_i hb
   try simp only [hb]
   have h:Runs e ds 0 os ⟨setA σ.s o.dst .no,σ.m⟩ K:=h
   simpa only [Runs] using h
  ·exact h.elim
 | succ n =>
  simp only [Runs,hg]
  exact h
theorem guardR_sound {e:Env} {ds:List (Option Nat)} {K:St->Prop} {n:Nat} {os:List Oper} {d:Option Nat} {op:Op} {ty:TypeId} {pos:String} {aft:Array Edge} {j:Nat} {want:Bool} {next:St->Res} (ih:∀ σ,ResQ e ds K (next σ)->Runs e ds (n - 1) os σ K) {σ:St}
  (h:ResQ e ds K (guardR want (stepR e.P d ty n n os next op) (skipR d next) σ ((ds[j]?.join).map (gs σ.s)))):Runs e ds n (⟨d,op,ty,pos,aft,some (j,want)⟩::os) σ K:=by
 refine runs_consG rfl ?_
 unfold guardR at h
 split at h
 ·rename_i b hb
  simp only [hb]
  unfold pickR at h
  split at h
  ·rename_i hbw
   rw [if_pos (by simpa using hbw)]
   exact stepR_sound (o:=⟨d,op,ty,pos,aft,some (j,want)⟩) ih (.inl rfl) h
  ·rename_i hbw
   rw [if_neg (by simpa using hbw)]
   exact ih _ h
 ·rename_i hb
  simp only [hb]
  exact ih _ h
 ·exact h.elim
theorem runs_nil {e:Env} {ds:List (Option Nat)} {K:St->Prop} {n:Nat} {σ:St} (h:K σ):Runs e ds n [] σ K:=by
 cases n with
 | zero=>simp only [Runs];exact runsS_nil h
 | succ n=>exact h
theorem runs_of {e:Env} {ds:List (Option Nat)} {K:St->Prop}:∀ (os:List Oper) (n:Nat) (σ:St),ResQ e ds K (runOps e.P ds n os σ)->Runs e ds n os σ K
 | [],n,σ,h=>runs_nil h
 | ⟨d,op,ty,pos,aft,none⟩::os,n,σ,h=>runs_cons (o:=⟨d,op,ty,pos,aft,none⟩) rfl (runs_of os (n - 1)) h
 | ⟨d,op,ty,pos,aft,some (j,want)⟩::os,n,σ,h=>guardR_sound (runs_of os (n - 1)) h
theorem runN_of {e:Env} {ds:List (Option Nat)} {K:St->Prop}:∀ (j:Nat) (os:List Oper) (n:Nat) (σ:St),ResQ e ds K (runN e.P ds j n os σ)->Runs e ds n os σ K
 | 0,os,n,σ,h=>h
 | j+1,[],n,σ,h=>runs_nil h
 | j+1,⟨d,op,ty,pos,aft,none⟩::os,n,σ,h=>runs_cons (o:=⟨d,op,ty,pos,aft,none⟩) rfl (runN_of j os (n - 1)) h
 | j+1,⟨d,op,ty,pos,aft,some (i,want)⟩::os,n,σ,h=>guardR_sound (runN_of j os (n - 1)) h
def callX (c:A) (xs:Option (List D)) (σ:St):Option (FuncId × List D × St) :=
 match calleeA c,xs with
 | some (f,caps),some xs=>some (f,xs++caps.map .one,σ)
 | _,_=>none
def callS (c:Operand) (args:List Operand):Option St->Option (FuncId × List D × St)
 | some σ=>callX (evA σ.s c) (dsA (args.map (evA σ.s))) σ
 | none=>none
def callP (q:Bool) (c:Operand) (args:List Operand) (σ:St):Option (FuncId × List D × St):=callS c args (frzQ q (keysA (args.map (evA σ.s))) σ)
def callY (f:Option (FuncId × List C)) (k:Nat) (xs:Option (List D)):Option Bk->Option (FuncId × Nat × Nat × Nat × List (List C) × List D)
 | some (.buf _ ty sz rows)=>match f,xs with
  | some (f,caps),some xs=>some (f,k,ty,sz,rows,xs++caps.map .one)
  | _,_=>none
 | _=>none
def callZ (m:List (Nat × Bk)) (f:Option (FuncId × List C)) (xs:Option (List D)):A->Option (FuncId × Nat × Nat × Nat × List (List C) × List D)
 | .buf k=>callY f k xs (gm m k)
 | _=>none
def callO (c:Operand) (x0:Operand) (rest:List Operand) (σ:St):Option (FuncId × Nat × Nat × Nat × List (List C) × List D):=callZ σ.m (calleeA (evA σ.s c)) (dsA (rest.map (evA σ.s))) (nrm σ.m (evA σ.s x0))
section
variable {e:Env} {mask:Nat} {σ:St} {Q:PX->St->Prop} {ds:List (Option Nat)} {K:St->Prop} {os os':List Oper} {n n':Nat} {s1 s2 s3:List (Nat × A)} {m1 m2 m3:List (Nat × Bk)}
theorem runs_done {σ':St} (h:runOps e.P ds n os σ=.done σ') (hK:K σ'):Runs e ds n os σ K:=runs_of os n σ (by rw [h];exact hK)
theorem frzQ_f {ks:List Nat} {σ σ':St} (hf:frzQ false ks σ=some σ'):frzs ks σ=σ':=by
 unfold frzQ at hf
 split at hf
 ·injection hf with hf
 ·simpa using hf
theorem callP_spec {q:Bool} {c:Operand} {args:List Operand} {f:FuncId} {xs:List D} {σ':St} (h1:callP q c args σ=some (f,xs,σ')):∃ caps ys,frzQ q (keysA (args.map (evA σ.s))) σ=some σ'∧calleeA (evA σ'.s c)=some (f,caps)∧dsA (args.map (evA σ'.s))=some ys∧xs=ys++caps.map .one:=by
 unfold callP callS at h1
 split at h1
 ·rename_i σ1 hf
  unfold callX at h1
  split at h1
  ·rename_i f' caps xs' hcal hds
   simp only [Option.some.injEq,Prod.mk.injEq] at h1
   obtain ⟨rfl,rfl,rfl⟩:=h1
   exact ⟨caps,xs',hf,hcal,hds,rfl⟩
  ·cases h1
 ·cases h1
theorem runs_go {q:Bool} {c:Operand} {args:List Operand} {f:FuncId} {xs:List D} {d:Option Nat} {r:List D} (h:runOps e.P ds n os σ=.call q c args d n' os' ⟨s1,m1⟩) (h1:callP q c args ⟨s1,m1⟩=some (f,xs,⟨s2,m2⟩)) (hc:Con e f xs r) (h2:setA s2 d (retA r)=s3) (hK:Runs e ds n' os' ⟨s3,m2⟩ K):Runs e ds n os σ K:=by
 refine runs_of os n σ ?_
 rw [h]
 intro o ts ho hd
 obtain ⟨caps,ys,hf,hcal,hds,rfl⟩:=callP_spec h1
 exact step_con ho hf hcal hds hc (by rw [hd,h2];exact hK)
theorem runs_goP {c:Operand} {args:List Operand} {f:FuncId} {xs:List D} {d:Option Nat} (ks ks':List Nat) {pm:List Bk} {R:List D->List Bk->Prop} (h:runOps e.P ds n os σ=.call false c args d n' os' ⟨s1,m1⟩) (h1:callP false c args ⟨s1,m1⟩=some (f,xs,⟨s2,m2⟩)) (hc:ConP e f xs pm R) (hpm:getM m2 ks=some pm) (hpn:pm.all pinned=true) (hn:ks.Nodup)
  (hk:killKs (ks++ks') s2=s3) (hr:remMs (ks++ks') m2=m3) (hK:∀ r pm',R r pm'->Runs e ds n' os' ⟨setA s3 d (retA r),zipM ks' pm'++m3⟩ K):Runs e ds n os σ K:=by
 refine runs_of os n σ ?_
 rw [h]
 intro o ts ho hd
 obtain ⟨caps,ys,hf,hcal,hds,rfl⟩:=callP_spec h1
 exact step_turn (turn_frzs _ (frzQ_f hf)) (fun σ'' hσ=>by subst hσ;exact step_P ho ks ks' hn hpm hpn hcal hds hc (fun r pm' hR=>by rw [hd];simp only [hk,hr];exact hK r pm' hR))
theorem runs_turn {P:St->Prop} (hT:Turn e σ P) (h:∀ σ',P σ'->Runs e ds 0 os σ' K):Runs e ds 0 os σ K:=by
 simp only [Runs] at h ⊢
 exact runsS_turn hT h
def stopOf:Res->Option (Nat × List Oper × List (Nat × A) × List (Nat × Bk))
 | .stop n os σ=>some (n,os,σ.s,σ.m)
 | _=>none
theorem runs_part (j:Nat) (h:stopOf (runN e.P ds j n os σ)=some (n',os',s1,m1)) (hK:Runs e ds n' os' ⟨s1,m1⟩ K):Runs e ds n os σ K:=by
 refine runN_of j os n σ ?_
 cases hr:runN e.P ds j n os σ with
 | stop n1 os1 σ1 =>
  rw [hr] at h
  simp only [stopOf,Option.some.injEq,Prod.mk.injEq] at h
  obtain ⟨rfl,rfl,rfl,rfl⟩:=h
  exact hK
 | _=>rw [hr] at h;cases h
theorem runs_buildX {d t ty:Nat} {p:String} {ed:Array Edge} {parts:List (Nat × Operand)} {s:List (Nat × A)} {m:List (Nat × Bk)} {cs cs':List C} (hz:zeroX e.P t=some cs) (hst:isStructT e.P t=true) (hok:cs.all okCell=true) (hf:fillA e.P t cs (parts.map fun p=>(p.1,evA s p.2))=some cs')
  (hK:Runs e ds 0 os ⟨(d,.d (.agg cs'))::s,m⟩ K):Runs e ds 0 (⟨some d,.build t parts.toArray,ty,p,ed,none⟩::os) ⟨s,m⟩ K:=by
 simp only [Runs] at hK ⊢
 exact runsS_step rfl (step_buildX (o:=⟨some d,.build t parts.toArray,ty,p,ed,none⟩) rfl hz hst hok hf hK)
theorem region_F {id:Nat} {l:List Oper} {σ1:St} (ks:List Nat) (hf:frzs ks σ=σ1) (hds:l.map (·.dst)=ds) (h:Runs e ds 0 l σ1 (TrimK mask Q)):pwp e mask (.region id l.toArray false) σ Q :=
 pwp_turn (turn_frzs ks hf) (fun σ' hσ=>by subst hσ;exact pwp_region 0 rfl (by subst hds;exact h))
theorem region_0 {id:Nat} {l:List Oper} (hds:l.map (·.dst)=ds) (h:Runs e ds 0 l σ (TrimK mask Q)):pwp e mask (.region id l.toArray false) σ Q:=region_F [] rfl hds h
theorem region_DF {id:Nat} {l:List Oper} {σ1:St} (n:Nat) (ks:List Nat) (hf:frzs ks σ=σ1) (hr:regX l.toArray n=true) (hds:l.map (·.dst)=ds) (h:Runs e ds n l σ1 (TrimK mask Q)):pwp e mask (.region id l.toArray true) σ Q :=
 pwp_turn (turn_frzs ks hf) (fun σ' hσ=>by subst hσ;exact pwp_region n (by simpa using hr) (by subst hds;exact h))
theorem region_D {id:Nat} {l:List Oper} (n:Nat) (hr:regX l.toArray n=true) (hds:l.map (·.dst)=ds) (h:Runs e ds n l σ (TrimK mask Q)):pwp e mask (.region id l.toArray true) σ Q:=region_DF n [] rfl hr hds h
theorem Wk.refl (σ:St):Wk σ σ:=⟨fun _=>.inl rfl,fun _ _ h=>h⟩
theorem pwp_ct {c:Operand} {a b:Code} (hc:evA σ.s c=.d (.one (.lit (.bool true)))) (h:pwp e mask a σ Q):pwp e mask (.cond c a b) σ Q:=pwp_cond hc (fun _=>h) (fun h=>by cases h)
theorem pwp_cf {c:Operand} {a b:Code} (hc:evA σ.s c=.d (.one (.lit (.bool false)))) (h:pwp e mask b σ Q):pwp e mask (.cond c a b) σ Q:=pwp_cond hc (fun h=>by cases h) (fun _=>h)
theorem ret_ok {P:Program} {ts:List RS} {r:List D} (h:resOk P σ ts r):retQ P ts r .ret σ:=⟨[],h⟩
theorem ret_fz {P:Program} {ts:List RS} {r:List D} {σ1:St} (ks:List Nat) (hf:frzs ks σ=σ1) (h:resOk P σ1 ts r):retQ P ts r .ret σ:=⟨ks,by rw [hf];exact h⟩
end
section
variable {P:Program} {d:Option Nat} {ds:List (Option Nat)} {os:List Oper} {q n:Nat} {ty:TypeId} {nx:St->Res} {s:List (Nat × A)} {m:List (Nat × Bk)} {σ:St}
def contA (nx:St->Res) (s:List (Nat × A)) (m:List (Nat × Bk)) (d:Option Nat):Option A->Res
 | some α=>nx ⟨setA s d α,m⟩
 | none=>.bad
theorem contA_some {α:A}:contA nx s m d (some α)=nx ⟨setA s d α,m⟩:=rfl
theorem contR_putE {x:Option A}:contR (putE ⟨s,m⟩ d x) nx=contA nx s m d x:=by cases x <;> rfl
theorem ro_nil:runOps P ds n [] ⟨s,m⟩=.done ⟨s,m⟩:=rfl
theorem ro_n {op:Op} {t:TypeId} {p:String} {a:Array Edge}:runOps P ds n (⟨d,op,t,p,a,none⟩::os) ⟨s,m⟩=stepR P d t (n - 1) n os (runOps P ds (n - 1) os) op ⟨s,m⟩:=rfl
theorem ro_g {op:Op} {t:TypeId} {p:String} {a:Array Edge} {j:Nat} {w:Bool}:runOps P ds n (⟨d,op,t,p,a,some (j,w)⟩::os) ⟨s,m⟩=guardR w (stepR P d t n n os (runOps P ds (n - 1) os) op) (skipR d (runOps P ds (n - 1) os)) ⟨s,m⟩ ((ds[j]?.join).map (gs s)):=rfl
theorem g_some {y x:St->Res} {b w:Bool}:guardR w y x σ (some (.d (.one (.lit (.bool b)))))=pickR y x σ (b==w):=rfl
theorem pk_t {y x:St->Res}:pickR y x σ true=y σ:=rfl
theorem pk_f {y x:St->Res}:pickR y x σ false=x σ:=rfl
theorem sk_r:skipR d nx ⟨s,m⟩=nx ⟨setA s d .no,m⟩:=rfl
theorem g_no {y x:St->Res} {w:Bool}:guardR w y x σ (some .no)=x σ:=rfl
theorem qB_0:qB 0=false:=rfl
theorem qB_s {k:Nat}:qB (k+1)=true:=rfl
theorem R_move {x:Operand}:stepR P d ty q n os nx (.move x) ⟨s,m⟩=nx ⟨setA s d (evA s x),m⟩:=rfl
theorem R_pick {c a b:Operand}:stepR P d ty q n os nx (.pick c a b) ⟨s,m⟩=contA nx s m d (pickA (evA s a) (evA s b) (evA s c)):=contR_putE
theorem R_load {t:TypeId} {x:Operand}:stepR P d ty q n os nx (.load t x) ⟨s,m⟩=contA nx s m d (loadA (kindT P t) (ptrA m (nrm m (evA s x)))):=contR_putE
theorem R_fieldAddr {t:TypeId} {x:Operand} {f:Nat}:stepR P d ty q n os nx (.fieldAddr t x f) ⟨s,m⟩=contA nx s m d (fieldAddrA (evA s x) (offT P t f)):=contR_putE
theorem R_field {t:TypeId} {x:Operand} {f:Nat}:stepR P d ty q n os nx (.field t x f) ⟨s,m⟩=contA nx s m d (fieldA P (evA s x) (offT P t f)):=contR_putE
theorem R_indexAddr {t:TypeId} {x i:Operand}:stepR P d ty q n os nx (.indexAddr t x i) ⟨s,m⟩=contA nx s m d (indexAddrA m (elemT P t) (nrm m (evA s x)) (evA s i)):=contR_putE
theorem R_index {t:TypeId} {x i:Operand}:stepR P d ty q n os nx (.index t x i) ⟨s,m⟩=contA nx s m d (indexA (P.underlying t) (evA s x) (evA s i)):=contR_putE
theorem R_bin {op:BinOp} {t t':TypeId} {x y:Operand}:stepR P d ty q n os nx (.binOp op t x y t') ⟨s,m⟩=contA nx s m d (binA P t op (evA s x) (evA s y)):=contR_putE
theorem R_un {op:UnOp} {t:TypeId} {x:Operand}:stepR P d ty q n os nx (.unOp op t x) ⟨s,m⟩=contA nx s m d (unA op (evA s x)):=contR_putE
theorem R_extract {x:Operand} {i:Nat}:stepR P d ty q n os nx (.extract x i) ⟨s,m⟩=contA nx s m d (extractA i (evA s x)):=contR_putE
theorem R_nil {x:Operand}:stepR P d ty q n os nx (.nilCheck x) ⟨s,m⟩=contA nx s m d (nilA (evA s x)):=contR_putE
theorem R_conv {a b:TypeId} {x:Operand}:stepR P d ty q n os nx (.convert a b x) ⟨s,m⟩=contA nx s m d (convA P a b (evA s x)):=contR_putE
theorem R_slice {t:TypeId} {x:Operand} {lo hi mx:Option Operand}:stepR P d ty q n os nx (.slice t x lo hi mx) ⟨s,m⟩=contA nx s m d (sliceOpA P t (evA s x) (lo.map (evA s)) (hi.map (evA s)) (mx.map (evA s))):=contR_putE
theorem R_len {args:List Operand} {ts:Array TypeId}:stepR P d ty q n os nx (.call ⟨.builtin .len,args.toArray,ts⟩) ⟨s,m⟩=contA nx s m d (lenA m (lenT P ts) (args.map fun x=>nrm m (evA s x))):=contR_putE
theorem R_max {args:List Operand} {ts:Array TypeId}:stepR P d ty q n os nx (.call ⟨.builtin .max,args.toArray,ts⟩) ⟨s,m⟩=contA nx s m d (maxA (args.map (evA s))):=contR_putE
theorem R_min {args:List Operand} {ts:Array TypeId}:stepR P d ty q n os nx (.call ⟨.builtin .min,args.toArray,ts⟩) ⟨s,m⟩=contA nx s m d (minA (args.map (evA s))):=contR_putE
theorem R_call {c:Operand} {args:List Operand} {ts:Array TypeId}:stepR P d ty q n os nx (.call ⟨.value c,args.toArray,ts⟩) ⟨s,m⟩=.call (qB n) c args d (n - 1) os ⟨s,m⟩:=rfl
def contF (nx:St->Res) (d:Option Nat) (f:List (Nat × A)->List (Nat × Bk)->Option A):Option St->Res
 | some σ=>contA nx σ.s σ.m d (f σ.s σ.m)
 | none=>.bad
theorem cF_some {f:List (Nat × A)->List (Nat × Bk)->Option A}:contF nx d f (some ⟨s,m⟩)=contA nx s m d (f s m):=rfl
theorem contF_eq {op:Op} {x:Option St} {f:List (Nat × A)->List (Nat × Bk)->Option A} (h:∀ s m,stepV P m (evA s) op=f s m):contR (thenV P d op x) nx=contF nx d f x:=by
 cases x with
 | none=>rfl
 | some σ =>
  obtain ⟨s',m'⟩:=σ
  show contR (putE ⟨s',m'⟩ d (stepV P m' (evA s') op)) nx=_
  rw [contR_putE,h]
  rfl
theorem R_build {t:TypeId} {parts:List (Nat × Operand)}:stepR P d ty q n os nx (.build t parts.toArray) ⟨s,m⟩=contF nx d (fun s m=>buildA P t (parts.map fun p=>(p.1,evA s p.2))) (frzQ (qB n) (keysA (parts.map fun p=>evA s p.2)) ⟨s,m⟩):=contF_eq (fun _ _=>rfl)
theorem R_buildSlice {t:TypeId} {k:Nat} {parts:List (Nat × Operand)}:stepR P d ty q n os nx (.buildSlice t k parts.toArray) ⟨s,m⟩=contF nx d (fun s m=>buildSliceA (bytesT P t) k (parts.map fun p=>(p.1,evA s p.2))) (frzQ (qB n) (keysA (parts.map fun p=>evA s p.2)) ⟨s,m⟩):=contF_eq (fun _ _=>rfl)
theorem R_makeFunc {f:FuncId} {caps:List Operand}:stepR P d ty q n os nx (.makeFunc (.func f) #[] caps.toArray) ⟨s,m⟩=contF nx d (fun s m=>fnA f (csA (caps.map (evA s)))) (frzQ (qB n) (keysA (caps.map (evA s))) ⟨s,m⟩):=contF_eq (fun _ _=>rfl)
theorem fq_nil {q:Bool}:frzQ q [] σ=some σ:=rfl
theorem fq_cons {k:Nat} {ks:List Nat}:frzQ false (k::ks) σ=some (frzs (k::ks) σ):=rfl
theorem fz_nil:frzs [] σ=σ:=rfl
theorem fz_cons {k:Nat} {ks:List Nat}:frzs (k::ks) ⟨s,m⟩=frzs ks (frzB k ⟨s,m⟩ (gm m k)):=rfl
theorem fB_some {k:Nat} {bk:Bk}:frzB k ⟨s,m⟩ (some bk)=⟨frzS k bk s,remM k m⟩:=rfl
theorem fB_none {k:Nat}:frzB k ⟨s,m⟩ none=⟨s,m⟩:=rfl
theorem fS_nil {k:Nat} {bk:Bk}:frzS k bk []=[]:=rfl
theorem fS_cons {k t:Nat} {bk:Bk} {a:A} {r:List (Nat × A)}:frzS k bk ((t,a)::r)=(t,frzA k bk a)::frzS k bk r:=rfl
theorem fA_undef {k:Nat} {bk:Bk}:frzA k bk .undef=.undef:=rfl
theorem fA_no {k:Nat} {bk:Bk}:frzA k bk .no=.no:=rfl
theorem fA_d {k:Nat} {bk:Bk} {x:D}:frzA k bk (.d x)=.d x:=rfl
theorem fA_tup {k:Nat} {bk:Bk} {x:List D}:frzA k bk (.tup x)=.tup x:=rfl
theorem fA_vr {k k' off:Nat} {o:Option Nat} {cs:List C}:frzA k (.var o cs) (.ref k' off)=if k'=k then .d (.one (.ptr (cs.drop off))) else .ref k' off:=rfl
theorem fA_br {k k' off e sz:Nat} {o:Option (Option Addr × Nat)} {rows:List (List C)}:frzA k (.buf o e sz rows) (.ref k' off)=if k'=k then .undef else .ref k' off:=rfl
theorem fA_vb {k k':Nat} {o:Option Nat} {cs:List C}:frzA k (.var o cs) (.buf k')=if k'=k then .undef else .buf k':=rfl
theorem fA_bb {k k' e sz:Nat} {o:Option (Option Addr × Nat)} {rows:List (List C)}:frzA k (.buf o e sz rows) (.buf k')=if k'=k then .d (.one (.sl rows)) else .buf k':=rfl
theorem fA_row {k k' j sz off:Nat} {bk:Bk}:frzA k bk (.row k' j sz off)=if k'=k then .undef else .row k' j sz off:=rfl
theorem ky_d {x:D}:keyA (.d x)=[]:=rfl
theorem ky_ref {k off:Nat}:keyA (.ref k off)=[k]:=rfl
theorem ky_buf {k:Nat}:keyA (.buf k)=[k]:=rfl
theorem ky_row {k j sz off:Nat}:keyA (.row k j sz off)=[]:=rfl
theorem kys_nil:keysA []=[]:=rfl
theorem kys_cons {a:A} {r:List A}:keysA (a::r)=keyA a++keysA r:=rfl
theorem R_alloc {t:TypeId}:stepR P d ty q n os nx (.alloc t) ⟨s,m⟩=contR (if qB q=true then none else newE ⟨s,m⟩ d (zeroT P t)) nx:=rfl
theorem R_box {t:TypeId} {x:Operand}:stepR P d ty q n os nx (.box t x) ⟨s,m⟩=contR (if qB n=true then none else thenBox d x (frzQ (qB n) (keyA (evA s x)) ⟨s,m⟩)) nx:=rfl
theorem R_store {t:TypeId} {x y:Operand}:stepR P d ty q n os nx (.store t x y) ⟨s,m⟩=contR (if qB n=true then none else thenStore P d t x y (frzQ (qB n) (keyA (evA s y)) ⟨s,m⟩)) nx:=rfl
theorem R_assign {x:Operand}:stepR P d ty q n os nx (.assign x) ⟨s,m⟩=contR (if qB n=true then none else assignE P ⟨s,m⟩ d ty (evA s x)) nx:=rfl
theorem R_makeSlice {t:TypeId} {l c:Operand}:stepR P d ty q n os nx (.makeSlice t l c) ⟨s,m⟩=contR (if qB n=true then none else makeE P ⟨s,m⟩ d t (evA s l) (evA s c)) nx:=rfl
theorem R_append {args:List Operand} {ts:Array TypeId}:stepR P d ty q n os nx (.call ⟨.builtin .append,args.toArray,ts⟩) ⟨s,m⟩=contR (if qB n=true then none else appendE P ⟨s,m⟩ d ts (args.map fun x=>nrm m (evA s x))) nx:=rfl
theorem k_some:contR (some σ) nx=nx σ:=rfl
theorem n_some {k:Nat} {cs:List C}:newE ⟨s,m⟩ (some k) (some cs)=some ⟨(k,.ref k 0)::killK k s,(k,.var none cs)::remM k m⟩:=rfl
theorem tb_some {x:Operand}:thenBox d x (some ⟨s,m⟩)=newE ⟨s,m⟩ d (cellsA (evA s x)):=rfl
theorem ts_some {t:TypeId} {x y:Operand}:thenStore P d t x y (some ⟨s,m⟩)=storeE ⟨s,m⟩ d (nrm m (evA s x)) (cellsA (evA s y)) (sizeT P t):=rfl
theorem s_ref {k off k2:Nat} {us:List C}:storeE ⟨s,m⟩ none (.ref k off) (some us) (some k2)=storeVar ⟨s,m⟩ k off k2 us (gm m k):=rfl
theorem s_row {k j sz off k2:Nat} {us:List C}:storeE ⟨s,m⟩ none (.row k j sz off) (some us) (some k2)=storeRow ⟨s,m⟩ k j sz off k2 us (gm m k):=rfl
theorem s_var {o:Option Nat} {k off k2:Nat} {us cs:List C}:storeVar ⟨s,m⟩ k off k2 us (some (.var o cs))=if us.length=k2∧off+k2<=cs.length then some ⟨s,(k,.var o (cs.take off++us++cs.drop (off+k2)))::remM k m⟩ else none:=rfl
def storeB (s:List (Nat × A)) (m:List (Nat × Bk)) (o:Option (Option Addr × Nat)) (k j e sz off k2:Nat) (us:List C) (rows:List (List C)):Option (List C)->Option St
 | some r=>if us.length=k2∧off+k2<=r.length then some ⟨s,(k,.buf o e sz (rows.set j (r.take off++us++r.drop (off+k2))))::remM k m⟩ else none
 | none=>none
theorem s_buf {o:Option (Option Addr × Nat)} {k j sz sz' off k2 e:Nat} {us:List C} {rows:List (List C)}:storeRow ⟨s,m⟩ k j sz off k2 us (some (.buf o e sz' rows))=if sz'=sz then storeB s m o k j e sz off k2 us rows rows[j]? else none:=by
 simp only [storeRow]
 split
 ·unfold storeB;cases rows[j]? <;> rfl
 ·rfl
theorem s_bf {o:Option (Option Addr × Nat)} {k j sz off k2 e:Nat} {us r:List C} {rows:List (List C)}:storeB s m o k j e sz off k2 us rows (some r)=if us.length=k2∧off+k2<=r.length then some ⟨s,(k,.buf o e sz (rows.set j (r.take off++us++r.drop (off+k2))))::remM k m⟩ else none:=rfl
theorem va_some {o:Option Nat} {cs:List C}:varA (some (.var o cs))=some cs:=rfl
theorem ra_some {o:Option (Option Addr × Nat)} {j sz sz' e:Nat} {rows:List (List C)}:rowA j sz (some (.buf o e sz' rows))=if sz'=sz then rows[j]? else none:=rfl
theorem a_one {k:Nat} {c:C}:assignE P ⟨s,m⟩ (some k) ty (.d (.one c))=some ⟨(k,.d (.one c))::s,m⟩:=rfl
theorem a_agg {k:Nat} {c:List C}:assignE P ⟨s,m⟩ (some k) ty (.d (.agg c))=some ⟨(k,.d (.agg c))::s,m⟩:=rfl
theorem a_clip {k:Nat} {r:List C} {rs:List (List C)}:assignE P ⟨s,m⟩ (some k) ty (.d (.clip (r::rs)))=some ⟨(k,.d (.clip (r::rs)))::s,m⟩:=rfl
theorem a_nil {k:Nat}:assignE P ⟨s,m⟩ (some k) ty (.d (.clip []))=newB ⟨s,m⟩ k (bytesT P ty):=rfl
theorem a_tup {k:Nat} {x:List D}:assignE P ⟨s,m⟩ (some k) ty (.tup x)=some ⟨(k,.tup x)::s,m⟩:=rfl
theorem a_ref {k k' off:Nat}:assignE P ⟨s,m⟩ (some k) ty (.ref k' off)=some ⟨(k,.ref k' off)::s,m⟩:=rfl
theorem a_buf {k k':Nat}:assignE P ⟨s,m⟩ (some k) ty (.buf k')=assignB ⟨s,m⟩ k' k (gm m k'):=rfl
theorem ab_some {o:Option (Option Addr × Nat)} {k k' e sz:Nat} {rows:List (List C)}:assignB ⟨s,m⟩ k k' (some (.buf o e sz rows))=if k=k' then some ⟨(k',.buf k')::s,m⟩ else some (ownE ⟨s,m⟩ k k' (.buf o e sz rows)):=rfl
theorem nb_some {k e sz b:Nat}:newB ⟨s,m⟩ k (some (e,sz,b))=some ⟨(k,.buf k)::killK k s,(k,.buf none e sz [])::remM k m⟩:=rfl
theorem nb_none {k:Nat}:newB ⟨s,m⟩ k none=some ⟨(k,.d (.clip []))::s,m⟩:=rfl
theorem ow_eq {k k':Nat} {bk:Bk}:ownE ⟨s,m⟩ k k' bk=⟨(k',.buf k')::killK k' (killK k s),(k',bk)::remM k' (remM k m)⟩:=rfl
theorem kl_nil {k:Nat}:killK k []=[]:=rfl
theorem kl_ref {k k' off t:Nat} {r:List (Nat × A)}:killK k ((t,.ref k' off)::r)=(t,if k'=k then .undef else .ref k' off)::killK k r:=rfl
theorem kl_buf {k k' t:Nat} {r:List (Nat × A)}:killK k ((t,.buf k')::r)=(t,if k'=k then .undef else .buf k')::killK k r:=rfl
theorem kl_row {k k' j sz off t:Nat} {r:List (Nat × A)}:killK k ((t,.row k' j sz off)::r)=(t,if k'=k then .undef else .row k' j sz off)::killK k r:=rfl
theorem kl_d {k t:Nat} {x:D} {r:List (Nat × A)}:killK k ((t,.d x)::r)=(t,.d x)::killK k r:=rfl
theorem kl_tup {k t:Nat} {x:List D} {r:List (Nat × A)}:killK k ((t,.tup x)::r)=(t,.tup x)::killK k r:=rfl
theorem kl_undef {k t:Nat} {r:List (Nat × A)}:killK k ((t,.undef)::r)=(t,.undef)::killK k r:=rfl
theorem kl_no {k t:Nat} {r:List (Nat × A)}:killK k ((t,.no)::r)=(t,.no)::killK k r:=rfl
theorem rm_nil {k:Nat}:remM k []=[]:=rfl
theorem rm_cons {k t:Nat} {a:Bk} {r:List (Nat × Bk)}:remM k ((t,a)::r)=if t=k then remM k r else (t,a)::remM k r:=rfl
def appX (s:List (Nat × A)) (m:List (Nat × Bk)) (k e sz:Nat) (y:A) (ys:List (List C)):A->Option St
 | .buf k'=>if isBuf k' y=true then none else appendB ⟨s,m⟩ k k' e sz ys (gm m k')
 | .d (.clip rows)=>if rowsB sz rows=true∧rows.length+ys.length<=maxApp∧(rows.isEmpty || !ys.isEmpty)=true then some ⟨(k,.buf k)::killK k s,(k,.buf none e sz (rows++ys))::remM k m⟩ else none
 | _=>none
def appA (s:List (Nat × A)) (m:List (Nat × Bk)) (k:Nat) (x y:A):Option (TypeId × Nat × Nat)->Option (List (List C))->Option St
 | some (e,sz,_),some ys=>if rowsB sz ys=true then appX s m k e sz y ys x else none
 | _,_=>none
theorem ap_eq {k:Nat} {t:TypeId} {x y:A}:appendE P ⟨s,m⟩ (some k) #[t,t] [x,y]=appA s m k x y (bytesT P t) (slA m y):=by
 unfold appendE appA
 simp only [List.getElem?_toArray,List.getElem?_cons_zero,List.getElem?_cons_succ,if_true]
 cases bytesT P t with
 | none=>rfl
 | some b =>
  obtain ⟨e,sz,b⟩:=b
  cases slA m y with
  | none=>rfl
  | some ys =>
   simp only
   split
   ·cases x with
    | d x=>cases x <;> rfl
    | _=>rfl
   ·rfl
theorem aA_some {k e sz b:Nat} {x y:A} {ys:List (List C)}:appA s m k x y (some (e,sz,b)) (some ys)=if rowsB sz ys=true then appX s m k e sz y ys x else none:=rfl
theorem aX_buf {k k' e sz:Nat} {y:A} {ys:List (List C)}:appX s m k e sz y ys (.buf k')=if isBuf k' y=true then none else appendB ⟨s,m⟩ k k' e sz ys (gm m k'):=rfl
theorem aX_clip {k e sz:Nat} {y:A} {ys rows:List (List C)}:appX s m k e sz y ys (.d (.clip rows))=if rowsB sz rows=true∧rows.length+ys.length<=maxApp∧(rows.isEmpty || !ys.isEmpty)=true then some ⟨(k,.buf k)::killK k s,(k,.buf none e sz (rows++ys))::remM k m⟩ else none:=rfl
theorem aB_some {o:Option (Option Addr × Nat)} {k k' e e' sz sz':Nat} {ys rows:List (List C)}:appendB ⟨s,m⟩ k k' e sz ys (some (.buf o e' sz' rows))=if e'=e∧sz'=sz∧rows.length+ys.length<=maxApp then some (ownE ⟨s,m⟩ k' k (.buf none e' sz (rows++ys))) else none:=rfl
theorem ib_d {k:Nat} {x:D}:isBuf k (.d x)=false:=rfl
theorem ib_buf {k k':Nat}:isBuf k (.buf k')=(k'==k):=rfl
def makeX (s:List (Nat × A)) (m:List (Nat × Bk)) (k e sz:Nat) (a b:Int):Option (List C)->Option St
 | some z=>if a=b∧0<=a∧a<=maxApp∧z.all okCell=true then some ⟨(k,.buf k)::killK k s,(k,.buf none e sz (List.replicate a.toNat z))::remM k m⟩ else none
 | none=>none
def makeY (P:Program) (s:List (Nat × A)) (m:List (Nat × Bk)) (k:Nat):Option Int->Option Int->Option (TypeId × Nat × Nat)->Option St
 | some a,some b,some (e,sz,_)=>makeX s m k e sz a b (zeroT P e)
 | _,_,_=>none
theorem mk_eq {k:Nat} {t:TypeId} {l c:A}:makeE P ⟨s,m⟩ (some k) t l c=makeY P s m k (intA l) (intA c) (bytesT P t):=by
 unfold makeE makeY
 cases intA l with
 | none=>rfl
 | some a =>
  cases intA c with
  | none=>rfl
  | some b =>
   cases bytesT P t with
   | none=>rfl
   | some q =>
    obtain ⟨e,sz,q⟩:=q
    simp only [makeX]
    cases zeroT P e <;> rfl
theorem mY_some {k e sz q:Nat} {a b:Int}:makeY P s m k (some a) (some b) (some (e,sz,q))=makeX s m k e sz a b (zeroT P e):=rfl
theorem mX_some {k e sz:Nat} {a b:Int} {z:List C}:makeX s m k e sz a b (some z)=if a=b∧0<=a∧a<=maxApp∧z.all okCell=true then some ⟨(k,.buf k)::killK k s,(k,.buf none e sz (List.replicate a.toNat z))::remM k m⟩ else none:=rfl
theorem iA_int {j:Int}:intA (.d (.one (.lit (.int .i64 j))))=some j:=rfl
theorem e_tmp {t:Nat}:evA s (.tmp t)=gs s t:=rfl
theorem e_const {v:Value}:evA s (.const v)=constA v:=rfl
theorem e_func {f:FuncId}:evA s (.func f)=.d (.one (.fn f [])):=rfl
theorem t_int {k:IntKind} {i:Int}:constA (.int k i)=.d (.one (.lit (.int k i))):=rfl
theorem t_bool {b:Bool}:constA (.bool b)=.d (.one (.lit (.bool b))):=rfl
theorem t_str {b:ByteArray}:constA (.string b)=.d (.one (.lit (.string b))):=rfl
theorem t_sl:constA (.slice none 0 0)=.d (.clip []):=rfl
theorem t_ptr {p:Option Addr}:constA (.pointer p)=.d (.one (.lit (.pointer p))):=rfl
theorem t_agg {l:List Value}:constA (.agg l.toArray)=.d (.agg (l.map toC)):=rfl
theorem toC_int {k:IntKind} {i:Int}:toC (.int k i)=.lit (.int k i):=rfl
theorem toC_str {b:ByteArray}:toC (.string b)=.lit (.string b):=rfl
theorem toC_bool {b:Bool}:toC (.bool b)=.lit (.bool b):=rfl
theorem toC_sl:toC (.slice none 0 0)=.sl []:=rfl
theorem toC_ptr {p:Option Addr}:toC (.pointer p)=.lit (.pointer p):=rfl
theorem sa_some {k:Nat} {a:A}:setA s (some k) a=(k,a)::s:=rfl
theorem sa_none {a:A}:setA s none a=s:=rfl
theorem p_ptr {cs:List C}:ptrA m (.d (.one (.ptr cs)))=some cs:=rfl
theorem p_ref {k off:Nat}:ptrA m (.ref k off)=(varA (gm m k)).map (·.drop off):=rfl
theorem p_row {k j sz off:Nat}:ptrA m (.row k j sz off)=(rowA j sz (gm m k)).map (·.drop off):=rfl
theorem l_some {k:TK} {cs:List C}:loadA (some k) (some cs)=valT k cs:=rfl
theorem v_one {c:C} {cs:List C}:valT .one (c::cs)=some (.d (.one c)):=rfl
theorem v_agg {k:Nat} {cs:List C}:valT (.agg k) cs=if k<=cs.length then some (.d (.agg (cs.take k))) else none:=rfl
theorem pa_bool {a b:A} {t:Bool}:pickA a b (.d (.one (.lit (.bool t))))=some (if t=true then a else b):=rfl
theorem fa_ptr {cs:List C} {k:Nat} {t:TypeId}:fieldAddrA (.d (.one (.ptr cs))) (some (k,t))=some (.d (.one (.ptr (cs.drop k)))):=rfl
theorem fa_ref {b off k:Nat} {t:TypeId}:fieldAddrA (.ref b off) (some (k,t))=some (.ref b (off+k)):=rfl
theorem fa_row {b j sz off k:Nat} {t:TypeId}:fieldAddrA (.row b j sz off) (some (k,t))=some (.row b j sz (off+k)):=rfl
theorem f_agg {cs:List C} {k:Nat} {t:TypeId}:fieldA P (.d (.agg cs)) (some (k,t))=loadA (kindT P t) (some (cs.drop k)):=rfl
theorem ia_sl {k:Nat} {rows:List (List C)} {kk:IntKind} {j:Int}:indexAddrA m (some k) (.d (.one (.sl rows))) (.d (.one (.lit (.int kk j))))=if 0<=j then if rowsB k rows=true then eltA rows[j.toNat]? else none else none:=rfl
theorem ia_clip {k:Nat} {rows:List (List C)} {kk:IntKind} {j:Int}:indexAddrA m (some k) (.d (.clip rows)) (.d (.one (.lit (.int kk j))))=if 0<=j then if rowsB k rows=true then eltA rows[j.toNat]? else none else none:=rfl
theorem ia_buf {k b:Nat} {kk:IntKind} {j:Int}:indexAddrA m (some k) (.buf b) (.d (.one (.lit (.int kk j))))=rowOfA b k j (gm m b):=rfl
theorem ro_buf {o:Option (Option Addr × Nat)} {k b e sz:Nat} {j:Int} {rows:List (List C)}:rowOfA b k j (some (.buf o e sz rows))=if sz=k then if 0<=j then if j.toNat < rows.length then some (.row b j.toNat sz 0) else none else none else none:=rfl
theorem el_some {r:List C}:eltA (some r)=some (.d (.one (.ptr r))):=rfl
theorem i_str {b:ByteArray} {kk:IntKind} {j:Int}:indexA (some .string) (.d (.one (.lit (.string b)))) (.d (.one (.lit (.int kk j))))=if 0<=j then byteA b[j.toNat]? else none:=rfl
theorem by_some {b:UInt8}:byteA (some b)=some (.d (.one (.lit (.int .u8 b.toNat)))):=rfl
theorem li_some {v:Value}:litA (some v)=some (.d (.one (.lit v))):=rfl
theorem b_lit {op:BinOp} {t:TypeId} {a b:Value}:binA P t op (.d (.one (.lit a))) (.d (.one (.lit b)))=litA (binT P op t a b):=rfl
theorem u_lit {op:UnOp} {a:Value}:unA op (.d (.one (.lit a)))=litA (unV op a):=rfl
theorem un_not {b:Bool}:unV .not (.bool b)=some (.bool (!b)):=rfl
theorem un_neg {a:Int}:unV .neg (.int .i64 a)=some (.int .i64 (IntKind.i64.wrap (0 - a))):=rfl
theorem da_some {x:D}:dA (some x)=some (.d x):=rfl
theorem x_tup {i:Nat} {xs:List D}:extractA i (.tup xs)=dA xs[i]?:=rfl
theorem nl_ptr {cs:List C}:nilA (.d (.one (.ptr cs)))=some (.d (.one (.ptr cs))):=rfl
theorem nl_fn {f:FuncId} {cs:List C}:nilA (.d (.one (.fn f cs)))=some (.d (.one (.fn f cs))):=rfl
theorem nl_ref {k off:Nat}:nilA (.ref k off)=some (.ref k off):=rfl
theorem ln_sl {rows:List (List C)}:lenA m (some true) [.d (.one (.sl rows))]=some (.d (.one (.lit (.int .i64 rows.length)))):=rfl
theorem ln_cl {rows:List (List C)}:lenA m (some true) [.d (.clip rows)]=some (.d (.one (.lit (.int .i64 rows.length)))):=rfl
theorem ln_bf {k:Nat}:lenA m (some true) [.buf k]=lenS (bufA (gm m k)):=rfl
theorem ln_lt {p:Option Addr} {k cap:Nat}:lenA m (some true) [.d (.one (.lit (.slice p k cap)))]=some (.d (.one (.lit (.int .i64 k)))):=rfl
theorem ln_str {b:ByteArray}:lenA m (some false) [.d (.one (.lit (.string b)))]=some (.d (.one (.lit (.int .i64 b.size)))):=rfl
theorem ls_some {rows:List (List C)}:lenS (some rows)=some (.d (.one (.lit (.int .i64 rows.length)))):=rfl
theorem sl_sl {rows:List (List C)}:slA m (.d (.one (.sl rows)))=some rows:=rfl
theorem sl_clip {rows:List (List C)}:slA m (.d (.clip rows))=some rows:=rfl
theorem sl_buf {k:Nat}:slA m (.buf k)=bufA (gm m k):=rfl
theorem bA_some {o:Option (Option Addr × Nat)} {e sz:Nat} {rows:List (List C)}:bufA (some (.buf o e sz rows))=some rows:=rfl
theorem mx_eq {x y:Int}:maxA [.d (.one (.lit (.int .i64 x))),.d (.one (.lit (.int .i64 y)))]=some (.d (.one (.lit (.int .i64 (if y > x then y else x))))):=rfl
theorem mn_eq {x y:Int}:minA [.d (.one (.lit (.int .i64 x))),.d (.one (.lit (.int .i64 y)))]=some (.d (.one (.lit (.int .i64 (if y < x then y else x))))):=rfl
theorem bs_eq {e sz b k:Nat} {parts:List (Nat × A)}:buildSliceA (some (e,sz,b)) k parts=if parts.length=k∧k * sz<=16777216 then clipA (partsA sz 0 parts) else none:=rfl
theorem cl_some {rows:List (List C)}:clipA (some rows)=some (.d (.clip rows)):=rfl
theorem pt_nil {sz i:Nat}:partsA sz i []=some []:=rfl
def partsX (sz:Nat) (r:Option (List (List C))):Option (List C)->Option (List (List C))
 | some cs=>if cs.length=sz then r.map (cs::·) else none
 | none=>none
theorem pt_cons {sz i j:Nat} {x:A} {r:List (Nat × A)}:partsA sz i ((j,x)::r)=if i=j then partsX sz (partsA sz (i+1) r) (cellsA x) else none:=by
 show (if i=j then _ else _)=_
 unfold partsX
 split
 ·cases cellsA x <;> rfl
 ·rfl
theorem px_some {sz:Nat} {r:Option (List (List C))} {cs:List C}:partsX sz r (some cs)=if cs.length=sz then r.map (cs::·) else none:=rfl
def buildX (P:Program) (t:TypeId) (parts:List (Nat × A)):Bool->Option (List C)->Option A
 | true,some cs=>if cs.all okCell=true then aggA (fillA P t cs parts) else none
 | _,_=>none
theorem bu_eq {t:TypeId} {parts:List (Nat × A)}:buildA P t parts=buildX P t parts (isStructT P t) (zeroT P t):=by
 unfold buildA buildX
 cases isStructT P t <;> cases zeroT P t <;> rfl
theorem bx_some {t:TypeId} {parts:List (Nat × A)} {cs:List C}:buildX P t parts true (some cs)=if cs.all okCell=true then aggA (fillA P t cs parts) else none:=rfl
theorem ag_some {cs:List C}:aggA (some cs)=some (.d (.agg cs)):=rfl
theorem fl_nil {t:TypeId} {cs:List C}:fillA P t cs []=some cs:=rfl
def fillX (P:Program) (t:TypeId) (cs:List C) (r:List (Nat × A)):Option (Nat × TypeId)->Option (List C)->Option (List C)
 | some (off,ft),some us=>if sizeT P ft=some us.length∧off+us.length<=cs.length then fillA P t (cs.take off++us++cs.drop (off+us.length)) r else none
 | _,_=>none
theorem fl_cons {t:TypeId} {cs:List C} {f:Nat} {x:A} {r:List (Nat × A)}:fillA P t cs ((f,x)::r)=fillX P t cs r (offT P t f) (cellsA x):=by
 conv=>lhs;unfold fillA
 unfold fillX
 rcases offT P t f with _ | ⟨off,ft⟩ <;> cases cellsA x <;> rfl
theorem fx_some {t ft:TypeId} {cs us:List C} {off:Nat} {r:List (Nat × A)}:fillX P t cs r (some (off,ft)) (some us)=if sizeT P ft=some us.length∧off+us.length<=cs.length then fillA P t (cs.take off++us++cs.drop (off+us.length)) r else none:=rfl
def convX (n:Int):Option TypeDesc->Option IntKind->Option A
 | some _,some k=>some (.d (.one (.lit (.int k (k.wrap n)))))
 | _,_=>none
theorem cv_int {a b:TypeId} {k:IntKind} {j:Int}:convA P a b (.d (.one (.lit (.int k j))))=convX j (P.underlying a) (intKindT (P.underlying b)):=by
 unfold convA convX
 cases P.underlying a <;> cases intKindT (P.underlying b) <;> rfl
theorem cx_some {t:TypeDesc} {k:IntKind} {j:Int}:convX j (some t) (some k)=some (.d (.one (.lit (.int k (k.wrap j))))):=rfl
theorem ik_some {k:IntKind}:intKindT (some (.int k))=some k:=rfl
theorem fn_some {f:FuncId} {cs:List C}:fnA f (some cs)=some (.d (.one (.fn f cs))):=rfl
theorem cs_nil:csA []=some []:=rfl
theorem cs_cons {c:C} {r:List A}:csA (.d (.one c)::r)=(csA r).map (c::·):=rfl
def sliceX (lo hi mx:Option A) (k:Nat):Option (List (List C))->Option A
 | some rows=>if rowsB k rows=true∧(mx.isNone || hi.isSome)=true then dA (sliceA rows (loA lo) (hiA rows.length hi) (mx.map intA)) else none
 | none=>none
def sliceY (P:Program) (t:TypeId) (x:A) (lo hi mx:Option A):Option Nat->Option A
 | some k=>sliceX lo hi mx k (dataSl x)
 | none=>if isStrD (P.underlying t)∧mx=none then match strA x with
   | some s=>dA (substrA s (loA lo) (hiA s.size hi))
   | none=>none
  else none
theorem so_eq {t:TypeId} {x:A} {lo hi mx:Option A}:sliceOpA P t x lo hi mx=sliceY P t x lo hi mx (elemT P t):=by
 unfold sliceOpA sliceY sliceX
 cases elemT P t with
 | none=>rfl
 | some k=>cases dataSl x <;> rfl
theorem sy_some {t:TypeId} {x:A} {lo hi mx:Option A} {k:Nat}:sliceY P t x lo hi mx (some k)=sliceX lo hi mx k (dataSl x):=rfl
theorem sx_some {lo hi mx:Option A} {k:Nat} {rows:List (List C)}:sliceX lo hi mx k (some rows)=if rowsB k rows=true∧(mx.isNone || hi.isSome)=true then dA (sliceA rows (loA lo) (hiA rows.length hi) (mx.map intA)) else none:=rfl
theorem dsl_sl {rows:List (List C)}:dataSl (.d (.one (.sl rows)))=some rows:=rfl
theorem dsl_clip {rows:List (List C)}:dataSl (.d (.clip rows))=some rows:=rfl
theorem lo_none:loA none=some 0:=rfl
theorem lo_some {x:A}:loA (some x)=intA x:=rfl
theorem hi_none {k:Nat}:hiA k none=some (k:Int):=rfl
theorem hi_some {k:Nat} {x:A}:hiA k (some x)=intA x:=rfl
theorem sl_2 {rows:List (List C)} {l h:Int}:sliceA rows (some l) (some h) none=if 0<=l∧l<=h∧h<=rows.length then some (.one (.sl ((rows.take h.toNat).drop l.toNat))) else none:=rfl
theorem sl_3 {rows:List (List C)} {l h k:Int}:sliceA rows (some l) (some h) (some (some k))=if 0<=l∧l<=h∧h<=rows.length∧k=h then some (.clip ((rows.take h.toNat).drop l.toNat)) else none:=rfl
theorem ce_one {c:C}:cellsA (.d (.one c))=if okCell c=true then some [c] else none:=rfl
theorem ce_agg {cs:List C}:cellsA (.d (.agg cs))=if cs.all okCell=true then some cs else none:=rfl
theorem ce_clip {rows:List (List C)}:cellsA (.d (.clip rows))=some [.sl rows]:=rfl
theorem ok_int {k:IntKind} {i:Int}:okCell (.lit (.int k i))=true:=rfl
theorem ok_bool {b:Bool}:okCell (.lit (.bool b))=true:=rfl
theorem ok_str {b:ByteArray}:okCell (.lit (.string b))=true:=rfl
theorem ok_map {b:Option Nat}:okCell (.lit (.map b))=true:=rfl
theorem ok_np {b:Option Addr}:okCell (.lit (.pointer b))=true:=rfl
theorem ok_lsl {a:Option Addr} {n c:Nat}:okCell (.lit (.slice a n c))=true:=rfl
theorem ok_sl {rows:List (List C)}:okCell (.sl rows)=true:=rfl
theorem ok_ptr {cs:List C}:okCell (.ptr cs)=true:=rfl
theorem ok_fn {f:Nat} {cs:List C}:okCell (.fn f cs)=true:=rfl
theorem ds_nil:dsA []=some []:=rfl
theorem ds_cons {x:D} {r:List A}:dsA (.d x::r)=(dsA r).map (x::·):=rfl
theorem cp_eq {q:Bool} {c:Operand} {args:List Operand}:callP q c args ⟨s,m⟩=callS c args (frzQ q (keysA (args.map (evA s))) ⟨s,m⟩):=rfl
theorem cp_s {c:Operand} {args:List Operand}:callS c args (some ⟨s,m⟩)=callX (evA s c) (dsA (args.map (evA s))) ⟨s,m⟩:=rfl
theorem cp_x {f:FuncId} {caps:List C} {xs:List D}:callX (.d (.one (.fn f caps))) (some xs) σ=some (f,xs++caps.map .one,σ):=rfl
theorem co_eq {c x0:Operand} {rest:List Operand}:callO c x0 rest ⟨s,m⟩=callZ m (calleeA (evA s c)) (dsA (rest.map (evA s))) (nrm m (evA s x0)):=rfl
theorem co_z {f:Option (FuncId × List C)} {xs:Option (List D)} {k:Nat}:callZ m f xs (.buf k)=callY f k xs (gm m k):=rfl
theorem co_y {o:Option (Option Addr × Nat)} {f:FuncId} {caps:List C} {xs:List D} {k ty sz:Nat} {rows:List (List C)}:callY (some (f,caps)) k (some xs) (some (.buf o ty sz rows))=some (f,k,ty,sz,rows,xs++caps.map .one):=rfl
theorem ca_fn {f:FuncId} {caps:List C}:calleeA (.d (.one (.fn f caps)))=some (f,caps):=rfl
theorem ra_slot {t:Nat}:resA P ⟨s,m⟩ (.slot t)=gs s t:=rfl
theorem ra_cell {t k:Nat}:resA P ⟨s,m⟩ (.cell t k)=(loadA (kindT P k) (ptrA m (gs s t))).getD .undef:=rfl
theorem r_one {x:D}:retA [x]=.d x:=rfl
theorem r_two {x y:D} {r:List D}:retA (x::y::r)=.tup (x::y::r):=rfl
theorem r_no:retA []=.tup []:=rfl
theorem bv_add {t:TypeId} {a b:Int}:binT P .add t (.int .i64 a) (.int .i64 b)=some (.int .i64 (IntKind.i64.wrap (a+b))):=rfl
theorem bv_sub {t:TypeId} {a b:Int}:binT P .sub t (.int .i64 a) (.int .i64 b)=some (.int .i64 (IntKind.i64.wrap (a - b))):=rfl
theorem bv_mul {t:TypeId} {a b:Int}:binT P .mul t (.int .i64 a) (.int .i64 b)=some (.int .i64 (IntKind.i64.wrap (a * b))):=rfl
theorem bv_lss {t:TypeId} {a b:Int}:binT P .lss t (.int .i64 a) (.int .i64 b)=some (.bool (decide (a < b))):=rfl
theorem bv_leq {t:TypeId} {a b:Int}:binT P .leq t (.int .i64 a) (.int .i64 b)=some (.bool (decide (a<=b))):=rfl
theorem bv_gtr {t:TypeId} {a b:Int}:binT P .gtr t (.int .i64 a) (.int .i64 b)=some (.bool (decide (b < a))):=rfl
theorem bv_geq {t:TypeId} {a b:Int}:binT P .geq t (.int .i64 a) (.int .i64 b)=some (.bool (decide (b<=a))):=rfl
theorem bv_eql {t:TypeId} {a b:Int}:binT P .eql t (.int .i64 a) (.int .i64 b)=some (.bool (decide (a=b))):=rfl
theorem bv_neq {t:TypeId} {a b:Int}:binT P .neq t (.int .i64 a) (.int .i64 b)=some (.bool (!decide (a=b))):=rfl
theorem bw_lss {t:TypeId} {a b:Int}:binT P .lss t (.int .u8 a) (.int .u8 b)=some (.bool (decide (a < b))):=rfl
theorem bw_leq {t:TypeId} {a b:Int}:binT P .leq t (.int .u8 a) (.int .u8 b)=some (.bool (decide (a<=b))):=rfl
theorem bw_gtr {t:TypeId} {a b:Int}:binT P .gtr t (.int .u8 a) (.int .u8 b)=some (.bool (decide (b < a))):=rfl
theorem bw_geq {t:TypeId} {a b:Int}:binT P .geq t (.int .u8 a) (.int .u8 b)=some (.bool (decide (b<=a))):=rfl
theorem bw_eql {t:TypeId} {a b:Int}:binT P .eql t (.int .u8 a) (.int .u8 b)=some (.bool (decide (a=b))):=rfl
theorem bw_neq {t:TypeId} {a b:Int}:binT P .neq t (.int .u8 a) (.int .u8 b)=some (.bool (!decide (a=b))):=rfl
theorem bs_eql {t:TypeId} {a b:ByteArray}:binT P .eql t (.string a) (.string b)=some (.bool (a.toList==b.toList)):=rfl
theorem bs_neq {t:TypeId} {a b:ByteArray}:binT P .neq t (.string a) (.string b)=some (.bool (!(a.toList==b.toList))):=rfl
theorem bs_lss {t:TypeId} {a b:ByteArray}:binT P .lss t (.string a) (.string b)=some (.bool (Go.Op.bytesLess a.toList b.toList)):=rfl
theorem bb_eql {t:TypeId} {a b:Bool}:binT P .eql t (.bool a) (.bool b)=boolT (P.underlying t) (a==b):=rfl
theorem bb_neq {t:TypeId} {a b:Bool}:binT P .neq t (.bool a) (.bool b)=boolT (P.underlying t) (!(a==b)):=rfl
theorem bb_t {v:Bool}:boolT (some .bool) v=some (.bool v):=rfl
theorem bv_and {t:TypeId} {a b:Int}:binT P .and t (.int .i64 a) (.int .i64 b)=some (.int .i64 (bits .and .i64 a b)):=rfl
theorem bv_or {t:TypeId} {a b:Int}:binT P .or t (.int .i64 a) (.int .i64 b)=some (.int .i64 (bits .or .i64 a b)):=rfl
theorem bv_xor {t:TypeId} {a b:Int}:binT P .xor t (.int .i64 a) (.int .i64 b)=some (.int .i64 (bits .xor .i64 a b)):=rfl
theorem bv_andNot {t:TypeId} {a b:Int}:binT P .andNot t (.int .i64 a) (.int .i64 b)=some (.int .i64 (bits .andNot .i64 a b)):=rfl
theorem bv_shl {t:TypeId} {k:IntKind} {a b:Int}:binT P .shl t (.int .i64 a) (.int k b)=if 0<=b then some (.int .i64 (IntKind.i64.wrap (a * 2 ^ (min b.toNat 64)))) else none:=rfl
theorem bv_shr {t:TypeId} {k:IntKind} {a b:Int}:binT P .shr t (.int .i64 a) (.int k b)=if 0<=b then some (.int .i64 (a.fdiv (2 ^ (min b.toNat 64)))) else none:=rfl
theorem bx_shr {t:TypeId} {k:IntKind} {a b:Int}:binT P .shr t (.int .u64 a) (.int k b)=if 0<=b then some (.int .u64 (a.fdiv (2 ^ (min b.toNat 64)))) else none:=rfl
theorem ux_neg {a:Int}:unV .neg (.int .u64 a)=some (.int .u64 (IntKind.u64.wrap (0 - a))):=rfl
theorem bv_quo {t:TypeId} {a b:Int}:binT P .quo t (.int .i64 a) (.int .i64 b)=if b=0 then none else some (.int .i64 (IntKind.i64.wrap (a.tdiv b))):=rfl
theorem bv_rem {t:TypeId} {a b:Int}:binT P .rem t (.int .i64 a) (.int .i64 b)=if b=0 then none else some (.int .i64 (a.tmod b)):=rfl
theorem bs_add {t:TypeId} {a b:ByteArray}:binT P .add t (.string a) (.string b)=if a.size+b.size<=9223372036854775807 then some (.string (a++b)) else none:=rfl
theorem fa_lit {b off k:Nat} {t:TypeId}:fieldAddrA (.d (.one (.lit (.pointer (some ⟨b,off,none⟩))))) (some (k,t))=some (.d (.one (.lit (.pointer (some ⟨b,off+k,none⟩))))):=rfl
theorem nl_lit {p:Addr}:nilA (.d (.one (.lit (.pointer (some p)))))=some (.d (.one (.lit (.pointer (some p))))):=rfl
theorem nr_ptr {b off:Nat}:nrm m (.d (.one (.lit (.pointer (some ⟨b,off,none⟩)))))=nrmVK m b off (varK b m):=rfl
theorem nr_sl {p:Option Addr} {k cap:Nat}:nrm m (.d (.one (.lit (.slice p k cap))))=nrmBK m p k cap (bufK p k cap m):=rfl
theorem nr_p {cs:List C}:nrm m (.d (.one (.ptr cs)))=.d (.one (.ptr cs)):=rfl
theorem nr_s {rows:List (List C)}:nrm m (.d (.one (.sl rows)))=.d (.one (.sl rows)):=rfl
theorem nr_c {rows:List (List C)}:nrm m (.d (.clip rows))=.d (.clip rows):=rfl
theorem nr_i {k:IntKind} {i:Int}:nrm m (.d (.one (.lit (.int k i))))=.d (.one (.lit (.int k i))):=rfl
theorem nr_str {b:ByteArray}:nrm m (.d (.one (.lit (.string b))))=.d (.one (.lit (.string b))):=rfl
theorem nr_ref {k off:Nat}:nrm m (.ref k off)=.ref k off:=rfl
theorem nr_buf {k:Nat}:nrm m (.buf k)=.buf k:=rfl
theorem nr_row {k j sz off:Nat}:nrm m (.row k j sz off)=.row k j sz off:=rfl
theorem vk_nil {b:Nat}:varK b []=none:=rfl
theorem vk_pin {b b' k:Nat} {cs:List C} {r:List (Nat × Bk)}:varK b ((k,.var (some b') cs)::r)=if b=b' then some k else varK b r:=rfl
theorem vk_var {b k:Nat} {cs:List C} {r:List (Nat × Bk)}:varK b ((k,.var none cs)::r)=varK b r:=rfl
theorem vk_buf {b k e sz:Nat} {o:Option (Option Addr × Nat)} {rows:List (List C)} {r:List (Nat × Bk)}:varK b ((k,.buf o e sz rows)::r)=varK b r:=rfl
theorem vk_set {b k:Nat} {E:Nat->Prop} {G:World->Prop} {r:List (Nat × Bk)}:varK b ((k,.set E G)::r)=varK b r:=rfl
theorem bk_nil {p:Option Addr} {k cap:Nat}:bufK p k cap []=none:=rfl
theorem bk_pin {p p':Option Addr} {k cap cap' k' e sz:Nat} {rows:List (List C)} {r:List (Nat × Bk)}:bufK p k cap ((k',.buf (some (p',cap')) e sz rows)::r)=if p=p'∧k=rows.length∧cap=cap' then some k' else bufK p k cap r:=rfl
theorem bk_buf {p:Option Addr} {k cap k' e sz:Nat} {rows:List (List C)} {r:List (Nat × Bk)}:bufK p k cap ((k',.buf none e sz rows)::r)=bufK p k cap r:=rfl
theorem bk_var {p:Option Addr} {k cap k':Nat} {o:Option Nat} {cs:List C} {r:List (Nat × Bk)}:bufK p k cap ((k',.var o cs)::r)=bufK p k cap r:=rfl
theorem bk_set {p:Option Addr} {k cap k':Nat} {E:Nat->Prop} {G:World->Prop} {r:List (Nat × Bk)}:bufK p k cap ((k',.set E G)::r)=bufK p k cap r:=rfl
theorem nv_some {b off k:Nat}:nrmVK m b off (some k)=nrmV b off k (gm m k):=rfl
theorem nv_none {b off:Nat}:nrmVK m b off none=.d (.one (.lit (.pointer (some ⟨b,off,none⟩)))):=rfl
theorem nv_pin {b off k b':Nat} {cs:List C}:nrmV b off k (some (.var (some b') cs))=if b=b' then .ref k off else .d (.one (.lit (.pointer (some ⟨b,off,none⟩)))):=rfl
theorem nb_key {p:Option Addr} {k cap k':Nat}:nrmBK m p k cap (some k')=nrmB p k cap k' (gm m k'):=rfl
theorem nb_no {p:Option Addr} {k cap:Nat}:nrmBK m p k cap none=.d (.one (.lit (.slice p k cap))):=rfl
theorem nb_pin {p p':Option Addr} {k cap cap' k' e sz:Nat} {rows:List (List C)}:nrmB p k cap k' (some (.buf (some (p',cap')) e sz rows))=if p=p'∧k=rows.length∧cap=cap' then .buf k' else .d (.one (.lit (.slice p k cap))):=rfl
theorem rn_0:runN P ds 0 n os ⟨s,m⟩=.stop n os ⟨s,m⟩:=rfl
theorem rn_n {j:Nat} {op:Op} {t:TypeId} {p:String} {a:Array Edge}:runN P ds (j+1) n (⟨d,op,t,p,a,none⟩::os) ⟨s,m⟩=stepR P d t (n - 1) n os (runN P ds j (n - 1) os) op ⟨s,m⟩:=rfl
theorem rn_g {j:Nat} {op:Op} {t:TypeId} {p:String} {a:Array Edge} {i:Nat} {w:Bool}:runN P ds (j+1) n (⟨d,op,t,p,a,some (i,w)⟩::os) ⟨s,m⟩=guardR w (stepR P d t n n os (runN P ds j (n - 1) os) op) (skipR d (runN P ds j (n - 1) os)) ⟨s,m⟩ ((ds[i]?.join).map (gs s)):=rfl
theorem st_o:stopOf (.stop n os ⟨s,m⟩)=some (n,os,s,m):=rfl
theorem ms_nil {f:A->A}:mapS f []=[]:=rfl
theorem ms_cons {f:A->A} {t:Nat} {a:A} {r:List (Nat × A)}:mapS f ((t,a)::r)=(t,f a)::mapS f r:=rfl
theorem lv_ref {k b k' off:Nat}:litV k b (.ref k' off)=if k'=k then .d (.one (.lit (.pointer (some ⟨b,off,none⟩)))) else .ref k' off:=rfl
theorem lv_d {k b:Nat} {x:D}:litV k b (.d x)=.d x:=rfl
theorem lv_buf {k b k':Nat}:litV k b (.buf k')=.buf k':=rfl
theorem lv_row {k b k' j sz off:Nat}:litV k b (.row k' j sz off)=.row k' j sz off:=rfl
theorem lv_tup {k b:Nat} {xs:List D}:litV k b (.tup xs)=.tup xs:=rfl
theorem lv_no {k b:Nat}:litV k b .no=.no:=rfl
theorem lv_un {k b:Nat}:litV k b .undef=.undef:=rfl
theorem lb_buf {k k2 cap k':Nat} {p:Option Addr}:litB k p k2 cap (.buf k')=if k'=k then .d (.one (.lit (.slice p k2 cap))) else .buf k':=rfl
theorem lb_d {k k2 cap:Nat} {p:Option Addr} {x:D}:litB k p k2 cap (.d x)=.d x:=rfl
theorem lb_ref {k k2 cap k' off:Nat} {p:Option Addr}:litB k p k2 cap (.ref k' off)=.ref k' off:=rfl
theorem lb_row {k k2 cap k' j sz off:Nat} {p:Option Addr}:litB k p k2 cap (.row k' j sz off)=.row k' j sz off:=rfl
theorem lb_tup {k k2 cap:Nat} {p:Option Addr} {xs:List D}:litB k p k2 cap (.tup xs)=.tup xs:=rfl
theorem lb_no {k k2 cap:Nat} {p:Option Addr}:litB k p k2 cap .no=.no:=rfl
theorem lb_un {k k2 cap:Nat} {p:Option Addr}:litB k p k2 cap .undef=.undef:=rfl
theorem kk_nil:killKs [] s=s:=rfl
theorem kk_cons {k:Nat} {ks:List Nat}:killKs (k::ks) s=killKs ks (killK k s):=rfl
theorem rr_nil:remMs [] m=m:=rfl
theorem rr_cons {k:Nat} {ks:List Nat}:remMs (k::ks) m=remMs ks (remM k m):=rfl
theorem zm_cons {k:Nat} {ks:List Nat} {x:Bk} {xs:List Bk}:zipM (k::ks) (x::xs)=(k,x)::zipM ks xs:=rfl
theorem zm_nil {xs:List Bk}:zipM [] xs=[]:=rfl
theorem zm_nl {ks:List Nat}:zipM ks []=[]:=by cases ks <;> rfl
def getC:Option Bk->Option (List Bk)->Option (List Bk)
 | some x,some r=>some (x::r)
 | _,_=>none
theorem gt_nil:getM m []=some []:=rfl
theorem gt_cons {k:Nat} {ks:List Nat}:getM m (k::ks)=getC (gm m k) (getM m ks):=by
 show (match gm m k,getM m ks with | some x,some r=>some (x::r) | _,_=>none)=_
 cases gm m k <;> cases getM m ks <;> rfl
theorem gt_c {x:Bk} {r:List Bk}:getC (some x) (some r)=some (x::r):=rfl
theorem pn_var {b:Nat} {cs:List C}:pinned (.var (some b) cs)=true:=rfl
theorem pn_buf {q:Option Addr × Nat} {e sz:Nat} {rows:List (List C)}:pinned (.buf (some q) e sz rows)=true:=rfl
theorem pn_set {E:Nat->Prop} {G:World->Prop}:pinned (.set E G)=true:=rfl
theorem dc_sl {p p':Option Addr} {k cap k' cap':Nat} {rows:List (List C)}:datC p k cap rows (.lit (.slice p' k' cap'))=if p'=p∧k'=k∧cap'=cap then .sl rows else .lit (.slice p' k' cap'):=rfl
theorem dc_int {p:Option Addr} {k cap:Nat} {rows:List (List C)} {kk:IntKind} {i:Int}:datC p k cap rows (.lit (.int kk i))=.lit (.int kk i):=rfl
theorem dc_str {p:Option Addr} {k cap:Nat} {rows:List (List C)} {b:ByteArray}:datC p k cap rows (.lit (.string b))=.lit (.string b):=rfl
theorem dc_bool {p:Option Addr} {k cap:Nat} {rows:List (List C)} {b:Bool}:datC p k cap rows (.lit (.bool b))=.lit (.bool b):=rfl
theorem dc_ptr {p:Option Addr} {k cap:Nat} {rows:List (List C)} {q:Option Addr}:datC p k cap rows (.lit (.pointer q))=.lit (.pointer q):=rfl
theorem dc_map {p:Option Addr} {k cap:Nat} {rows:List (List C)} {q:Option Nat}:datC p k cap rows (.lit (.map q))=.lit (.map q):=rfl
theorem dc_s {p:Option Addr} {k cap:Nat} {rows rs:List (List C)}:datC p k cap rows (.sl rs)=.sl rs:=rfl
theorem dc_p {p:Option Addr} {k cap:Nat} {rows:List (List C)} {cs:List C}:datC p k cap rows (.ptr cs)=.ptr cs:=rfl
theorem dc_f {p:Option Addr} {k cap:Nat} {rows:List (List C)} {f:FuncId} {cs:List C}:datC p k cap rows (.fn f cs)=.fn f cs:=rfl
theorem da_one {p:Option Addr} {k cap:Nat} {rows:List (List C)} {c:C}:datA p k cap rows (.d (.one c))=.d (.one (datC p k cap rows c)):=rfl
theorem da_agg {p:Option Addr} {k cap:Nat} {rows:List (List C)} {cs:List C}:datA p k cap rows (.d (.agg cs))=.d (.agg (cs.map (datC p k cap rows))):=rfl
theorem da_ref {p:Option Addr} {k cap k' off:Nat} {rows:List (List C)}:datA p k cap rows (.ref k' off)=.ref k' off:=rfl
theorem dx_nil {p:Option Addr} {k cap:Nat} {rows:List (List C)}:datS p k cap rows [] s=s:=rfl
theorem dx_cons {p:Option Addr} {k cap t:Nat} {rows:List (List C)} {ts:List Nat}:datS p k cap rows (t::ts) s=datS p k cap rows ts ((t,datA p k cap rows (gs s t))::s):=rfl
theorem dm_nil {p:Option Addr} {k cap:Nat} {rows:List (List C)}:datM p k cap rows [] m=m:=rfl
theorem dm_cons {p:Option Addr} {k cap t:Nat} {rows:List (List C)} {ts:List Nat}:datM p k cap rows (t::ts) m=datM p k cap rows ts (datV p k cap rows t m (gm m t)):=rfl
theorem dv_var {p:Option Addr} {k cap t:Nat} {rows:List (List C)} {o:Option Nat} {cs:List C}:datV p k cap rows t m (some (.var o cs))=(t,.var o (cs.map (datC p k cap rows)))::remM t m:=rfl
def unD:A->Option D
 | .d x=>some x
 | _=>none
def consO:Option D->Option (List D)->Option (List D)
 | some x,some r=>some (x::r)
 | _,_=>none
def resD (P:Program) (σ:St):List RS->Option (List D)
 | []=>some []
 | t::ts=>consO (unD (resA P σ t)) (resD P σ ts)
theorem rd_nil:resD P ⟨s,m⟩ []=some []:=rfl
theorem rd_cons {t:RS} {ts:List RS}:resD P ⟨s,m⟩ (t::ts)=consO (unD (resA P ⟨s,m⟩ t)) (resD P ⟨s,m⟩ ts):=rfl
theorem co_some {x:D} {r:List D}:consO (some x) (some r)=some (x::r):=rfl
theorem ud_d {x:D}:unD (.d x)=some x:=rfl
end
theorem resOk_of {P:Program} {σ:St}:∀ {ts:List RS} {r:List D},resD P σ ts=some r->resOk P σ ts r
 | [],r,h=>by simp only [resD,Option.some.injEq] at h;subst h;trivial
 | t::ts,r,h=>by
  simp only [resD] at h
  unfold consO at h
  split at h
  ·rename_i x r' hx hr
   injection h with h;subst h
   refine ⟨?_,resOk_of hr⟩
   unfold unD at hx
   split at hx
   ·rename_i y hy;injection hx with hx;subst hx;exact hy
   ·cases hx
  ·cases h
end Go.Proofs.YtffmjghcpgpfpaaGreatDoor
set_option maxRecDepth 10000
namespace Go.Proofs.YtffmjghcpgpfpaaGreatDoor
open Go.RowKit
theorem kt2:kindT Tryz.prog 2=some .one:=by kernel_rfl
theorem zt2:sizeT Tryz.prog 2=some 1:=by kernel_rfl
theorem ot2:zeroT Tryz.prog 2=some [.lit (.int .i64 0)]:=by kernel_rfl
theorem kt3:kindT Tryz.prog 3=some .one:=by kernel_rfl
theorem zt3:sizeT Tryz.prog 3=some 1:=by kernel_rfl
theorem ot3:zeroT Tryz.prog 3=some [.lit (.int .i64 0)]:=by kernel_rfl
theorem kt4:kindT Tryz.prog 4=some .one:=by kernel_rfl
theorem zt4:sizeT Tryz.prog 4=some 1:=by kernel_rfl
theorem ot4:zeroT Tryz.prog 4=some [.lit (.bool false)]:=by kernel_rfl
theorem ut4:Tryz.prog.underlying 4=some .bool:=by kernel_rfl
theorem kt5:kindT Tryz.prog 5=some .one:=by kernel_rfl
theorem zt5:sizeT Tryz.prog 5=some 1:=by kernel_rfl
theorem ot5:zeroT Tryz.prog 5=some [.lit (.int .u8 0)]:=by kernel_rfl
theorem kt9:kindT Tryz.prog 9=some .one:=by kernel_rfl
theorem zt9:sizeT Tryz.prog 9=some 1:=by kernel_rfl
theorem ot9:zeroT Tryz.prog 9=some [.lit (.string ByteArray.empty)]:=by kernel_rfl
theorem lt9:lenT Tryz.prog #[9]=some false:=by kernel_rfl
theorem ut9:Tryz.prog.underlying 9=some .string:=by kernel_rfl
theorem kt22:kindT Tryz.prog 22=some .one:=by kernel_rfl
theorem zt22:sizeT Tryz.prog 22=some 1:=by kernel_rfl
theorem ot22:zeroT Tryz.prog 22=some [.sl []]:=by kernel_rfl
theorem et22:elemT Tryz.prog 22=some 1:=by kernel_rfl
theorem lt22:lenT Tryz.prog #[22]=some true:=by kernel_rfl
theorem bt22:bytesT Tryz.prog 22=some (9,1,16):=by kernel_rfl
theorem kt23:kindT Tryz.prog 23=some .one:=by kernel_rfl
theorem zt23:sizeT Tryz.prog 23=some 1:=by kernel_rfl
theorem ot23:zeroT Tryz.prog 23=some [.sl []]:=by kernel_rfl
theorem et23:elemT Tryz.prog 23=some 2:=by kernel_rfl
theorem lt23:lenT Tryz.prog #[23]=some true:=by kernel_rfl
theorem bt23:bytesT Tryz.prog 23=some (193,2,16):=by kernel_rfl
theorem kt25:kindT Tryz.prog 25=some (.agg 2):=by kernel_rfl
theorem zt25:sizeT Tryz.prog 25=some 2:=by kernel_rfl
theorem ot25:zeroT Tryz.prog 25=some [.sl [],.sl []]:=by kernel_rfl
theorem st25:isStructT Tryz.prog 25=true:=by kernel_rfl
theorem ft25_0:offT Tryz.prog 25 0=some (0,22):=by kernel_rfl
theorem ft25_1:offT Tryz.prog 25 1=some (1,23):=by kernel_rfl
theorem kt26:kindT Tryz.prog 26=some .one:=by kernel_rfl
theorem zt26:sizeT Tryz.prog 26=some 1:=by kernel_rfl
theorem ot26:zeroT Tryz.prog 26=some [.sl []]:=by kernel_rfl
theorem et26:elemT Tryz.prog 26=some 5:=by kernel_rfl
theorem lt26:lenT Tryz.prog #[26]=some true:=by kernel_rfl
theorem bt26:bytesT Tryz.prog 26=some (134,5,56):=by kernel_rfl
theorem kt28:kindT Tryz.prog 28=some (.agg 3):=by kernel_rfl
theorem zt28:sizeT Tryz.prog 28=some 3:=by kernel_rfl
theorem ot28:zeroT Tryz.prog 28=some [.sl [],.sl [],.sl []]:=by kernel_rfl
theorem st28:isStructT Tryz.prog 28=true:=by kernel_rfl
theorem ft28_0:offT Tryz.prog 28 0=some (0,25):=by kernel_rfl
theorem ft28_1:offT Tryz.prog 28 1=some (2,26):=by kernel_rfl
theorem kt29:kindT Tryz.prog 29=some .one:=by kernel_rfl
theorem zt29:sizeT Tryz.prog 29=some 1:=by kernel_rfl
theorem ot29:zeroT Tryz.prog 29=some [.sl []]:=by kernel_rfl
theorem et29:elemT Tryz.prog 29=some 1:=by kernel_rfl
theorem lt29:lenT Tryz.prog #[29]=some true:=by kernel_rfl
theorem bt29:bytesT Tryz.prog 29=some (3,1,8):=by kernel_rfl
theorem kt30:kindT Tryz.prog 30=some .one:=by kernel_rfl
theorem zt30:sizeT Tryz.prog 30=some 1:=by kernel_rfl
theorem ot30:zeroT Tryz.prog 30=some [.sl []]:=by kernel_rfl
theorem et30:elemT Tryz.prog 30=some 4:=by kernel_rfl
theorem lt30:lenT Tryz.prog #[30]=some true:=by kernel_rfl
theorem bt30:bytesT Tryz.prog 30=some (32,4,56):=by kernel_rfl
theorem kt32:kindT Tryz.prog 32=some (.agg 4):=by kernel_rfl
theorem zt32:sizeT Tryz.prog 32=some 4:=by kernel_rfl
theorem ot32:zeroT Tryz.prog 32=some [.lit (.int .i64 0),.lit (.string ByteArray.empty),.lit (.int .i64 0),.sl []]:=by kernel_rfl
theorem st32:isStructT Tryz.prog 32=true:=by kernel_rfl
theorem ft32_0:offT Tryz.prog 32 0=some (0,3):=by kernel_rfl
theorem ft32_1:offT Tryz.prog 32 1=some (1,9):=by kernel_rfl
theorem ft32_2:offT Tryz.prog 32 2=some (2,3):=by kernel_rfl
theorem ft32_3:offT Tryz.prog 32 3=some (3,30):=by kernel_rfl
theorem kt36:kindT Tryz.prog 36=some .one:=by kernel_rfl
theorem zt36:sizeT Tryz.prog 36=some 1:=by kernel_rfl
theorem ot36:zeroT Tryz.prog 36=some [.sl []]:=by kernel_rfl
theorem et36:elemT Tryz.prog 36=some 2:=by kernel_rfl
theorem lt36:lenT Tryz.prog #[36]=some true:=by kernel_rfl
theorem bt36:bytesT Tryz.prog 36=some (191,2,16):=by kernel_rfl
theorem kt38:kindT Tryz.prog 38=some (.agg 2):=by kernel_rfl
theorem zt38:sizeT Tryz.prog 38=some 2:=by kernel_rfl
theorem ot38:zeroT Tryz.prog 38=some [.sl [],.sl []]:=by kernel_rfl
theorem st38:isStructT Tryz.prog 38=true:=by kernel_rfl
theorem xt38:zeroX Tryz.prog 38=some [.lit (.slice none 0 0),.lit (.slice none 0 0)]:=by kernel_rfl
theorem ft38_0:offT Tryz.prog 38 0=some (0,22):=by kernel_rfl
theorem ft38_1:offT Tryz.prog 38 1=some (1,36):=by kernel_rfl
theorem kt39:kindT Tryz.prog 39=some .one:=by kernel_rfl
theorem zt39:sizeT Tryz.prog 39=some 1:=by kernel_rfl
theorem ot39:zeroT Tryz.prog 39=some [.sl []]:=by kernel_rfl
theorem et39:elemT Tryz.prog 39=some 5:=by kernel_rfl
theorem lt39:lenT Tryz.prog #[39]=some true:=by kernel_rfl
theorem bt39:bytesT Tryz.prog 39=some (137,5,56):=by kernel_rfl
theorem kt41:kindT Tryz.prog 41=some (.agg 3):=by kernel_rfl
theorem zt41:sizeT Tryz.prog 41=some 3:=by kernel_rfl
theorem ot41:zeroT Tryz.prog 41=some [.sl [],.sl [],.sl []]:=by kernel_rfl
theorem st41:isStructT Tryz.prog 41=true:=by kernel_rfl
theorem xt41:zeroX Tryz.prog 41=some [.lit (.slice none 0 0),.lit (.slice none 0 0),.lit (.slice none 0 0)]:=by kernel_rfl
theorem ft41_0:offT Tryz.prog 41 0=some (0,38):=by kernel_rfl
theorem ft41_1:offT Tryz.prog 41 1=some (2,39):=by kernel_rfl
theorem kt44:kindT Tryz.prog 44=some .one:=by kernel_rfl
theorem zt44:sizeT Tryz.prog 44=some 1:=by kernel_rfl
theorem ot44:zeroT Tryz.prog 44=some [.sl []]:=by kernel_rfl
theorem et44:elemT Tryz.prog 44=some 4:=by kernel_rfl
theorem lt44:lenT Tryz.prog #[44]=some true:=by kernel_rfl
theorem bt44:bytesT Tryz.prog 44=some (46,4,56):=by kernel_rfl
theorem kt46:kindT Tryz.prog 46=some (.agg 4):=by kernel_rfl
theorem zt46:sizeT Tryz.prog 46=some 4:=by kernel_rfl
theorem ot46:zeroT Tryz.prog 46=some [.lit (.int .i64 0),.lit (.string ByteArray.empty),.lit (.int .i64 0),.sl []]:=by kernel_rfl
theorem st46:isStructT Tryz.prog 46=true:=by kernel_rfl
theorem xt46:zeroX Tryz.prog 46=some [.lit (.int .i64 0),.lit (.string ByteArray.empty),.lit (.int .i64 0),.lit (.slice none 0 0)]:=by kernel_rfl
theorem ft46_0:offT Tryz.prog 46 0=some (0,3):=by kernel_rfl
theorem ft46_1:offT Tryz.prog 46 1=some (1,9):=by kernel_rfl
theorem ft46_2:offT Tryz.prog 46 2=some (2,3):=by kernel_rfl
theorem ft46_3:offT Tryz.prog 46 3=some (3,44):=by kernel_rfl
theorem kt52:kindT Tryz.prog 52=some .one:=by kernel_rfl
theorem zt52:sizeT Tryz.prog 52=some 1:=by kernel_rfl
theorem ot52:zeroT Tryz.prog 52=some [.sl []]:=by kernel_rfl
theorem et52:elemT Tryz.prog 52=some 8:=by kernel_rfl
theorem lt52:lenT Tryz.prog #[52]=some true:=by kernel_rfl
theorem bt52:bytesT Tryz.prog 52=some (100,8,112):=by kernel_rfl
theorem kt55:kindT Tryz.prog 55=some .one:=by kernel_rfl
theorem zt55:sizeT Tryz.prog 55=some 1:=by kernel_rfl
theorem ot55:zeroT Tryz.prog 55=some [.sl []]:=by kernel_rfl
theorem et55:elemT Tryz.prog 55=some 8:=by kernel_rfl
theorem lt55:lenT Tryz.prog #[55]=some true:=by kernel_rfl
theorem bt55:bytesT Tryz.prog 55=some (102,8,112):=by kernel_rfl
theorem kt68:kindT Tryz.prog 68=some .one:=by kernel_rfl
theorem zt68:sizeT Tryz.prog 68=some 1:=by kernel_rfl
theorem ot68:zeroT Tryz.prog 68=some [.sl []]:=by kernel_rfl
theorem et68:elemT Tryz.prog 68=some 9:=by kernel_rfl
theorem lt68:lenT Tryz.prog #[68]=some true:=by kernel_rfl
theorem bt68:bytesT Tryz.prog 68=some (176,9,136):=by kernel_rfl
theorem kt70:kindT Tryz.prog 70=some (.agg 5):=by kernel_rfl
theorem zt70:sizeT Tryz.prog 70=some 5:=by kernel_rfl
theorem ot70:zeroT Tryz.prog 70=some [.sl [],.sl [],.sl [],.sl [],.sl []]:=by kernel_rfl
theorem st70:isStructT Tryz.prog 70=true:=by kernel_rfl
theorem ft70_0:offT Tryz.prog 70 0=some (0,28):=by kernel_rfl
theorem ft70_1:offT Tryz.prog 70 1=some (3,68):=by kernel_rfl
theorem ft70_2:offT Tryz.prog 70 2=some (4,68):=by kernel_rfl
theorem kt73:kindT Tryz.prog 73=some .one:=by kernel_rfl
theorem zt73:sizeT Tryz.prog 73=some 1:=by kernel_rfl
theorem ot73:zeroT Tryz.prog 73=some [.sl []]:=by kernel_rfl
theorem et73:elemT Tryz.prog 73=some 9:=by kernel_rfl
theorem lt73:lenT Tryz.prog #[73]=some true:=by kernel_rfl
theorem bt73:bytesT Tryz.prog 73=some (124,9,136):=by kernel_rfl
theorem kt75:kindT Tryz.prog 75=some (.agg 5):=by kernel_rfl
theorem zt75:sizeT Tryz.prog 75=some 5:=by kernel_rfl
theorem ot75:zeroT Tryz.prog 75=some [.sl [],.sl [],.sl [],.sl [],.sl []]:=by kernel_rfl
theorem st75:isStructT Tryz.prog 75=true:=by kernel_rfl
theorem xt75:zeroX Tryz.prog 75=some [.lit (.slice none 0 0),.lit (.slice none 0 0),.lit (.slice none 0 0),.lit (.slice none 0 0),.lit (.slice none 0 0)]:=by kernel_rfl
theorem ft75_0:offT Tryz.prog 75 0=some (0,41):=by kernel_rfl
theorem ft75_1:offT Tryz.prog 75 1=some (3,73):=by kernel_rfl
theorem ft75_2:offT Tryz.prog 75 2=some (4,73):=by kernel_rfl
theorem kt87:kindT Tryz.prog 87=some .one:=by kernel_rfl
theorem zt87:sizeT Tryz.prog 87=some 1:=by kernel_rfl
theorem kt91:kindT Tryz.prog 91=some .one:=by kernel_rfl
theorem zt91:sizeT Tryz.prog 91=some 1:=by kernel_rfl
theorem kt93:kindT Tryz.prog 93=some (.agg 3):=by kernel_rfl
theorem zt93:sizeT Tryz.prog 93=some 3:=by kernel_rfl
theorem ot93:zeroT Tryz.prog 93=some [.lit (.pointer none),.sl [],.lit (.map none)]:=by kernel_rfl
theorem st93:isStructT Tryz.prog 93=true:=by kernel_rfl
theorem xt93:zeroX Tryz.prog 93=some [.lit (.pointer none),.lit (.slice none 0 0),.lit (.map none)]:=by kernel_rfl
theorem ft93_0:offT Tryz.prog 93 0=some (0,87):=by kernel_rfl
theorem ft93_1:offT Tryz.prog 93 1=some (1,29):=by kernel_rfl
theorem ft93_2:offT Tryz.prog 93 2=some (2,91):=by kernel_rfl
theorem kt100:kindT Tryz.prog 100=some (.agg 8):=by kernel_rfl
theorem zt100:sizeT Tryz.prog 100=some 8:=by kernel_rfl
theorem ot100:zeroT Tryz.prog 100=some [.lit (.int .i64 0),.lit (.string ByteArray.empty),.lit (.int .i64 0),.sl [],.lit (.int .i64 0),.lit (.string ByteArray.empty),.lit (.int .i64 0),.sl []]:=by kernel_rfl
theorem st100:isStructT Tryz.prog 100=true:=by kernel_rfl
theorem ft100_0:offT Tryz.prog 100 0=some (0,32):=by kernel_rfl
theorem ft100_1:offT Tryz.prog 100 1=some (4,32):=by kernel_rfl
theorem kt102:kindT Tryz.prog 102=some (.agg 8):=by kernel_rfl
theorem zt102:sizeT Tryz.prog 102=some 8:=by kernel_rfl
theorem ot102:zeroT Tryz.prog 102=some [.lit (.int .i64 0),.lit (.string ByteArray.empty),.lit (.int .i64 0),.sl [],.lit (.int .i64 0),.lit (.string ByteArray.empty),.lit (.int .i64 0),.sl []]:=by kernel_rfl
theorem st102:isStructT Tryz.prog 102=true:=by kernel_rfl
theorem xt102:zeroX Tryz.prog 102=some [.lit (.int .i64 0),.lit (.string ByteArray.empty),.lit (.int .i64 0),.lit (.slice none 0 0),.lit (.int .i64 0),.lit (.string ByteArray.empty),.lit (.int .i64 0),.lit (.slice none 0 0)]:=by kernel_rfl
theorem ft102_0:offT Tryz.prog 102 0=some (0,46):=by kernel_rfl
theorem ft102_1:offT Tryz.prog 102 1=some (4,46):=by kernel_rfl
theorem kt122:kindT Tryz.prog 122=some .one:=by kernel_rfl
theorem zt122:sizeT Tryz.prog 122=some 1:=by kernel_rfl
theorem ot122:zeroT Tryz.prog 122=some [.sl []]:=by kernel_rfl
theorem et122:elemT Tryz.prog 122=some 8:=by kernel_rfl
theorem lt122:lenT Tryz.prog #[122]=some true:=by kernel_rfl
theorem bt122:bytesT Tryz.prog 122=some (229,8,112):=by kernel_rfl
theorem kt124:kindT Tryz.prog 124=some (.agg 9):=by kernel_rfl
theorem zt124:sizeT Tryz.prog 124=some 9:=by kernel_rfl
theorem ot124:zeroT Tryz.prog 124=some [.lit (.int .i64 0),.lit (.string ByteArray.empty),.lit (.int .i64 0),.sl [],.lit (.int .i64 0),.lit (.string ByteArray.empty),.lit (.int .i64 0),.sl [],.sl []]:=by kernel_rfl
theorem st124:isStructT Tryz.prog 124=true:=by kernel_rfl
theorem xt124:zeroX Tryz.prog 124=some [.lit (.int .i64 0),.lit (.string ByteArray.empty),.lit (.int .i64 0),.lit (.slice none 0 0),.lit (.int .i64 0),.lit (.string ByteArray.empty),.lit (.int .i64 0),.lit (.slice none 0 0),.lit (.slice none 0 0)]:=by kernel_rfl
theorem ft124_0:offT Tryz.prog 124 0=some (0,46):=by kernel_rfl
theorem ft124_1:offT Tryz.prog 124 1=some (4,46):=by kernel_rfl
theorem ft124_2:offT Tryz.prog 124 2=some (8,122):=by kernel_rfl
theorem kt132:kindT Tryz.prog 132=some .one:=by kernel_rfl
theorem zt132:sizeT Tryz.prog 132=some 1:=by kernel_rfl
theorem ot132:zeroT Tryz.prog 132=some [.sl []]:=by kernel_rfl
theorem et132:elemT Tryz.prog 132=some 2:=by kernel_rfl
theorem lt132:lenT Tryz.prog #[132]=some true:=by kernel_rfl
theorem bt132:bytesT Tryz.prog 132=some (239,2,32):=by kernel_rfl
theorem kt134:kindT Tryz.prog 134=some (.agg 5):=by kernel_rfl
theorem zt134:sizeT Tryz.prog 134=some 5:=by kernel_rfl
theorem ot134:zeroT Tryz.prog 134=some [.lit (.string ByteArray.empty),.sl [],.lit (.bool false),.lit (.bool false),.lit (.int .i64 0)]:=by kernel_rfl
theorem st134:isStructT Tryz.prog 134=true:=by kernel_rfl
theorem ft134_0:offT Tryz.prog 134 0=some (0,9):=by kernel_rfl
theorem ft134_1:offT Tryz.prog 134 1=some (1,132):=by kernel_rfl
theorem ft134_2:offT Tryz.prog 134 2=some (2,4):=by kernel_rfl
theorem ft134_3:offT Tryz.prog 134 3=some (3,4):=by kernel_rfl
theorem ft134_4:offT Tryz.prog 134 4=some (4,3):=by kernel_rfl
theorem kt135:kindT Tryz.prog 135=some .one:=by kernel_rfl
theorem zt135:sizeT Tryz.prog 135=some 1:=by kernel_rfl
theorem ot135:zeroT Tryz.prog 135=some [.sl []]:=by kernel_rfl
theorem et135:elemT Tryz.prog 135=some 2:=by kernel_rfl
theorem lt135:lenT Tryz.prog #[135]=some true:=by kernel_rfl
theorem bt135:bytesT Tryz.prog 135=some (199,2,32):=by kernel_rfl
theorem kt137:kindT Tryz.prog 137=some (.agg 5):=by kernel_rfl
theorem zt137:sizeT Tryz.prog 137=some 5:=by kernel_rfl
theorem ot137:zeroT Tryz.prog 137=some [.lit (.string ByteArray.empty),.sl [],.lit (.bool false),.lit (.bool false),.lit (.int .i64 0)]:=by kernel_rfl
theorem st137:isStructT Tryz.prog 137=true:=by kernel_rfl
theorem xt137:zeroX Tryz.prog 137=some [.lit (.string ByteArray.empty),.lit (.slice none 0 0),.lit (.bool false),.lit (.bool false),.lit (.int .i64 0)]:=by kernel_rfl
theorem ft137_0:offT Tryz.prog 137 0=some (0,9):=by kernel_rfl
theorem ft137_1:offT Tryz.prog 137 1=some (1,135):=by kernel_rfl
theorem ft137_2:offT Tryz.prog 137 2=some (2,4):=by kernel_rfl
theorem ft137_3:offT Tryz.prog 137 3=some (3,4):=by kernel_rfl
theorem ft137_4:offT Tryz.prog 137 4=some (4,3):=by kernel_rfl
theorem kt143:kindT Tryz.prog 143=some (.agg 3):=by kernel_rfl
theorem zt143:sizeT Tryz.prog 143=some 3:=by kernel_rfl
theorem ot143:zeroT Tryz.prog 143=some [.sl [],.sl [],.sl []]:=by kernel_rfl
theorem st143:isStructT Tryz.prog 143=true:=by kernel_rfl
theorem xt143:zeroX Tryz.prog 143=some [.lit (.slice none 0 0),.lit (.slice none 0 0),.lit (.slice none 0 0)]:=by kernel_rfl
theorem ft143_0:offT Tryz.prog 143 0=some (0,29):=by kernel_rfl
theorem ft143_1:offT Tryz.prog 143 1=some (1,29):=by kernel_rfl
theorem ft143_2:offT Tryz.prog 143 2=some (2,29):=by kernel_rfl
theorem kt146:kindT Tryz.prog 146=some .one:=by kernel_rfl
theorem zt146:sizeT Tryz.prog 146=some 1:=by kernel_rfl
theorem kt148:kindT Tryz.prog 148=some (.agg 7):=by kernel_rfl
theorem zt148:sizeT Tryz.prog 148=some 7:=by kernel_rfl
theorem ot148:zeroT Tryz.prog 148=some [.sl [],.sl [],.sl [],.sl [],.sl [],.sl [],.lit (.map none)]:=by kernel_rfl
theorem st148:isStructT Tryz.prog 148=true:=by kernel_rfl
theorem xt148:zeroX Tryz.prog 148=some [.lit (.slice none 0 0),.lit (.slice none 0 0),.lit (.slice none 0 0),.lit (.slice none 0 0),.lit (.slice none 0 0),.lit (.slice none 0 0),.lit (.map none)]:=by kernel_rfl
theorem ft148_0:offT Tryz.prog 148 0=some (0,143):=by kernel_rfl
theorem ft148_1:offT Tryz.prog 148 1=some (3,41):=by kernel_rfl
theorem ft148_2:offT Tryz.prog 148 2=some (6,146):=by kernel_rfl
theorem kt162:kindT Tryz.prog 162=some .one:=by kernel_rfl
theorem zt162:sizeT Tryz.prog 162=some 1:=by kernel_rfl
theorem ot162:zeroT Tryz.prog 162=some [.sl []]:=by kernel_rfl
theorem et162:elemT Tryz.prog 162=some 1:=by kernel_rfl
theorem lt162:lenT Tryz.prog #[162]=some true:=by kernel_rfl
theorem bt162:bytesT Tryz.prog 162=some (5,1,1):=by kernel_rfl
theorem kt168:kindT Tryz.prog 168=some .one:=by kernel_rfl
theorem zt168:sizeT Tryz.prog 168=some 1:=by kernel_rfl
theorem ot168:zeroT Tryz.prog 168=some [.lit (.int .u64 0)]:=by kernel_rfl
theorem kt174:kindT Tryz.prog 174=some .one:=by kernel_rfl
theorem zt174:sizeT Tryz.prog 174=some 1:=by kernel_rfl
theorem ot174:zeroT Tryz.prog 174=some [.sl []]:=by kernel_rfl
theorem et174:elemT Tryz.prog 174=some 8:=by kernel_rfl
theorem lt174:lenT Tryz.prog #[174]=some true:=by kernel_rfl
theorem bt174:bytesT Tryz.prog 174=some (259,8,112):=by kernel_rfl
theorem kt176:kindT Tryz.prog 176=some (.agg 9):=by kernel_rfl
theorem zt176:sizeT Tryz.prog 176=some 9:=by kernel_rfl
theorem ot176:zeroT Tryz.prog 176=some [.lit (.int .i64 0),.lit (.string ByteArray.empty),.lit (.int .i64 0),.sl [],.lit (.int .i64 0),.lit (.string ByteArray.empty),.lit (.int .i64 0),.sl [],.sl []]:=by kernel_rfl
theorem st176:isStructT Tryz.prog 176=true:=by kernel_rfl
theorem ft176_0:offT Tryz.prog 176 0=some (0,32):=by kernel_rfl
theorem ft176_1:offT Tryz.prog 176 1=some (4,32):=by kernel_rfl
theorem ft176_2:offT Tryz.prog 176 2=some (8,174):=by kernel_rfl
theorem kt191:kindT Tryz.prog 191=some (.agg 2):=by kernel_rfl
theorem zt191:sizeT Tryz.prog 191=some 2:=by kernel_rfl
theorem ot191:zeroT Tryz.prog 191=some [.lit (.int .i64 0),.lit (.int .i64 0)]:=by kernel_rfl
theorem st191:isStructT Tryz.prog 191=true:=by kernel_rfl
theorem ft191_0:offT Tryz.prog 191 0=some (0,3):=by kernel_rfl
theorem ft191_1:offT Tryz.prog 191 1=some (1,3):=by kernel_rfl
theorem kt193:kindT Tryz.prog 193=some (.agg 2):=by kernel_rfl
theorem zt193:sizeT Tryz.prog 193=some 2:=by kernel_rfl
theorem ot193:zeroT Tryz.prog 193=some [.lit (.int .i64 0),.lit (.int .i64 0)]:=by kernel_rfl
theorem st193:isStructT Tryz.prog 193=true:=by kernel_rfl
theorem ft193_0:offT Tryz.prog 193 0=some (0,3):=by kernel_rfl
theorem ft193_1:offT Tryz.prog 193 1=some (1,3):=by kernel_rfl
theorem kt199:kindT Tryz.prog 199=some (.agg 2):=by kernel_rfl
theorem zt199:sizeT Tryz.prog 199=some 2:=by kernel_rfl
theorem ot199:zeroT Tryz.prog 199=some [.sl [],.lit (.int .i64 0)]:=by kernel_rfl
theorem st199:isStructT Tryz.prog 199=true:=by kernel_rfl
theorem xt199:zeroX Tryz.prog 199=some [.lit (.slice none 0 0),.lit (.int .i64 0)]:=by kernel_rfl
theorem ft199_0:offT Tryz.prog 199 0=some (0,29):=by kernel_rfl
theorem ft199_1:offT Tryz.prog 199 1=some (1,3):=by kernel_rfl
theorem kt229:kindT Tryz.prog 229=some (.agg 8):=by kernel_rfl
theorem zt229:sizeT Tryz.prog 229=some 8:=by kernel_rfl
theorem ot229:zeroT Tryz.prog 229=some [.lit (.int .i64 0),.lit (.string ByteArray.empty),.lit (.int .i64 0),.sl [],.lit (.int .i64 0),.lit (.string ByteArray.empty),.lit (.int .i64 0),.sl []]:=by kernel_rfl
theorem st229:isStructT Tryz.prog 229=true:=by kernel_rfl
theorem xt229:zeroX Tryz.prog 229=some [.lit (.int .i64 0),.lit (.string ByteArray.empty),.lit (.int .i64 0),.lit (.slice none 0 0),.lit (.int .i64 0),.lit (.string ByteArray.empty),.lit (.int .i64 0),.lit (.slice none 0 0)]:=by kernel_rfl
theorem ft229_0:offT Tryz.prog 229 0=some (0,46):=by kernel_rfl
theorem ft229_1:offT Tryz.prog 229 1=some (4,46):=by kernel_rfl
theorem kt234:kindT Tryz.prog 234=some .one:=by kernel_rfl
theorem zt234:sizeT Tryz.prog 234=some 1:=by kernel_rfl
theorem ot234:zeroT Tryz.prog 234=some [.sl []]:=by kernel_rfl
theorem et234:elemT Tryz.prog 234=some 1:=by kernel_rfl
theorem lt234:lenT Tryz.prog #[234]=some true:=by kernel_rfl
theorem bt234:bytesT Tryz.prog 234=some (73,1,24):=by kernel_rfl
theorem kt239:kindT Tryz.prog 239=some (.agg 2):=by kernel_rfl
theorem zt239:sizeT Tryz.prog 239=some 2:=by kernel_rfl
theorem ot239:zeroT Tryz.prog 239=some [.sl [],.lit (.int .i64 0)]:=by kernel_rfl
theorem st239:isStructT Tryz.prog 239=true:=by kernel_rfl
theorem ft239_0:offT Tryz.prog 239 0=some (0,29):=by kernel_rfl
theorem ft239_1:offT Tryz.prog 239 1=some (1,3):=by kernel_rfl
theorem kt248:kindT Tryz.prog 248=some .one:=by kernel_rfl
theorem zt248:sizeT Tryz.prog 248=some 1:=by kernel_rfl
theorem ot248:zeroT Tryz.prog 248=some [.sl []]:=by kernel_rfl
theorem et248:elemT Tryz.prog 248=some 1:=by kernel_rfl
theorem lt248:lenT Tryz.prog #[248]=some true:=by kernel_rfl
theorem bt248:bytesT Tryz.prog 248=some (29,1,24):=by kernel_rfl
theorem kt259:kindT Tryz.prog 259=some (.agg 8):=by kernel_rfl
theorem zt259:sizeT Tryz.prog 259=some 8:=by kernel_rfl
theorem ot259:zeroT Tryz.prog 259=some [.lit (.int .i64 0),.lit (.string ByteArray.empty),.lit (.int .i64 0),.sl [],.lit (.int .i64 0),.lit (.string ByteArray.empty),.lit (.int .i64 0),.sl []]:=by kernel_rfl
theorem st259:isStructT Tryz.prog 259=true:=by kernel_rfl
theorem ft259_0:offT Tryz.prog 259 0=some (0,32):=by kernel_rfl
theorem ft259_1:offT Tryz.prog 259 1=some (4,32):=by kernel_rfl
theorem tt_0:type_of% (ai kt2 (ai zt2 (ai ot2 (ai kt3 (ai zt3 (ai ot3 (ai kt4 (ai zt4 (ai ot4 (ai ut4 (ai kt5 (ai zt5 (ai ot5 (ai kt9 (ai zt9 (ai ot9 (ai lt9 (ai ut9 (ai kt22 (ai zt22 (ai ot22 (ai et22 (ai lt22 (ai bt22 (ai kt23 (ai zt23 (ai ot23 (ai et23 (ai lt23 (ai bt23 (ai kt25 (ai zt25 (ai ot25 (ai st25 (ai ft25_0 (ai ft25_1 (ai kt26 (ai zt26 (ai ot26 (et26)))))))))))))))))))))))))))))))))))))))):=ai kt2 (ai zt2 (ai ot2 (ai kt3 (ai zt3 (ai ot3 (ai kt4 (ai zt4 (ai ot4 (ai ut4 (ai kt5 (ai zt5 (ai ot5 (ai kt9 (ai zt9 (ai ot9 (ai lt9 (ai ut9 (ai kt22 (ai zt22 (ai ot22 (ai et22 (ai lt22 (ai bt22 (ai kt23 (ai zt23 (ai ot23 (ai et23 (ai lt23 (ai bt23 (ai kt25 (ai zt25 (ai ot25 (ai st25 (ai ft25_0 (ai ft25_1 (ai kt26 (ai zt26 (ai ot26 (et26)))))))))))))))))))))))))))))))))))))))
theorem tt_1:type_of% (ai lt26 (ai bt26 (ai kt28 (ai zt28 (ai ot28 (ai st28 (ai ft28_0 (ai ft28_1 (ai kt29 (ai zt29 (ai ot29 (ai et29 (ai lt29 (ai bt29 (ai kt30 (ai zt30 (ai ot30 (ai et30 (ai lt30 (ai bt30 (ai kt32 (ai zt32 (ai ot32 (ai st32 (ai ft32_0 (ai ft32_1 (ai ft32_2 (ai ft32_3 (ai kt36 (ai zt36 (ai ot36 (ai et36 (ai lt36 (ai bt36 (ai kt38 (ai zt38 (ai ot38 (ai st38 (ai xt38 (ft38_0)))))))))))))))))))))))))))))))))))))))):=ai lt26 (ai bt26 (ai kt28 (ai zt28 (ai ot28 (ai st28 (ai ft28_0 (ai ft28_1 (ai kt29 (ai zt29 (ai ot29 (ai et29 (ai lt29 (ai bt29 (ai kt30 (ai zt30 (ai ot30 (ai et30 (ai lt30 (ai bt30 (ai kt32 (ai zt32 (ai ot32 (ai st32 (ai ft32_0 (ai ft32_1 (ai ft32_2 (ai ft32_3 (ai kt36 (ai zt36 (ai ot36 (ai et36 (ai lt36 (ai bt36 (ai kt38 (ai zt38 (ai ot38 (ai st38 (ai xt38 (ft38_0)))))))))))))))))))))))))))))))))))))))
theorem tt_2:type_of% (ai ft38_1 (ai kt39 (ai zt39 (ai ot39 (ai et39 (ai lt39 (ai bt39 (ai kt41 (ai zt41 (ai ot41 (ai st41 (ai xt41 (ai ft41_0 (ai ft41_1 (ai kt44 (ai zt44 (ai ot44 (ai et44 (ai lt44 (ai bt44 (ai kt46 (ai zt46 (ai ot46 (ai st46 (ai xt46 (ai ft46_0 (ai ft46_1 (ai ft46_2 (ai ft46_3 (ai kt52 (ai zt52 (ai ot52 (ai et52 (ai lt52 (ai bt52 (ai kt55 (ai zt55 (ai ot55 (ai et55 (lt55)))))))))))))))))))))))))))))))))))))))):=ai ft38_1 (ai kt39 (ai zt39 (ai ot39 (ai et39 (ai lt39 (ai bt39 (ai kt41 (ai zt41 (ai ot41 (ai st41 (ai xt41 (ai ft41_0 (ai ft41_1 (ai kt44 (ai zt44 (ai ot44 (ai et44 (ai lt44 (ai bt44 (ai kt46 (ai zt46 (ai ot46 (ai st46 (ai xt46 (ai ft46_0 (ai ft46_1 (ai ft46_2 (ai ft46_3 (ai kt52 (ai zt52 (ai ot52 (ai et52 (ai lt52 (ai bt52 (ai kt55 (ai zt55 (ai ot55 (ai et55 (lt55)))))))))))))))))))))))))))))))))))))))
theorem tt_3:type_of% (ai bt55 (ai kt68 (ai zt68 (ai ot68 (ai et68 (ai lt68 (ai bt68 (ai kt70 (ai zt70 (ai ot70 (ai st70 (ai ft70_0 (ai ft70_1 (ai ft70_2 (ai kt73 (ai zt73 (ai ot73 (ai et73 (ai lt73 (ai bt73 (ai kt75 (ai zt75 (ai ot75 (ai st75 (ai xt75 (ai ft75_0 (ai ft75_1 (ai ft75_2 (ai kt87 (ai zt87 (ai kt91 (ai zt91 (ai kt93 (ai zt93 (ai ot93 (ai st93 (ai xt93 (ai ft93_0 (ai ft93_1 (ft93_2)))))))))))))))))))))))))))))))))))))))):=ai bt55 (ai kt68 (ai zt68 (ai ot68 (ai et68 (ai lt68 (ai bt68 (ai kt70 (ai zt70 (ai ot70 (ai st70 (ai ft70_0 (ai ft70_1 (ai ft70_2 (ai kt73 (ai zt73 (ai ot73 (ai et73 (ai lt73 (ai bt73 (ai kt75 (ai zt75 (ai ot75 (ai st75 (ai xt75 (ai ft75_0 (ai ft75_1 (ai ft75_2 (ai kt87 (ai zt87 (ai kt91 (ai zt91 (ai kt93 (ai zt93 (ai ot93 (ai st93 (ai xt93 (ai ft93_0 (ai ft93_1 (ft93_2)))))))))))))))))))))))))))))))))))))))
theorem tt_4:type_of% (ai kt100 (ai zt100 (ai ot100 (ai st100 (ai ft100_0 (ai ft100_1 (ai kt102 (ai zt102 (ai ot102 (ai st102 (ai xt102 (ai ft102_0 (ai ft102_1 (ai kt122 (ai zt122 (ai ot122 (ai et122 (ai lt122 (ai bt122 (ai kt124 (ai zt124 (ai ot124 (ai st124 (ai xt124 (ai ft124_0 (ai ft124_1 (ai ft124_2 (ai kt132 (ai zt132 (ai ot132 (ai et132 (ai lt132 (ai bt132 (ai kt134 (ai zt134 (ai ot134 (ai st134 (ai ft134_0 (ai ft134_1 (ft134_2)))))))))))))))))))))))))))))))))))))))):=ai kt100 (ai zt100 (ai ot100 (ai st100 (ai ft100_0 (ai ft100_1 (ai kt102 (ai zt102 (ai ot102 (ai st102 (ai xt102 (ai ft102_0 (ai ft102_1 (ai kt122 (ai zt122 (ai ot122 (ai et122 (ai lt122 (ai bt122 (ai kt124 (ai zt124 (ai ot124 (ai st124 (ai xt124 (ai ft124_0 (ai ft124_1 (ai ft124_2 (ai kt132 (ai zt132 (ai ot132 (ai et132 (ai lt132 (ai bt132 (ai kt134 (ai zt134 (ai ot134 (ai st134 (ai ft134_0 (ai ft134_1 (ft134_2)))))))))))))))))))))))))))))))))))))))
theorem tt_5:type_of% (ai ft134_3 (ai ft134_4 (ai kt135 (ai zt135 (ai ot135 (ai et135 (ai lt135 (ai bt135 (ai kt137 (ai zt137 (ai ot137 (ai st137 (ai xt137 (ai ft137_0 (ai ft137_1 (ai ft137_2 (ai ft137_3 (ai ft137_4 (ai kt143 (ai zt143 (ai ot143 (ai st143 (ai xt143 (ai ft143_0 (ai ft143_1 (ai ft143_2 (ai kt146 (ai zt146 (ai kt148 (ai zt148 (ai ot148 (ai st148 (ai xt148 (ai ft148_0 (ai ft148_1 (ai ft148_2 (ai kt162 (ai zt162 (ai ot162 (et162)))))))))))))))))))))))))))))))))))))))):=ai ft134_3 (ai ft134_4 (ai kt135 (ai zt135 (ai ot135 (ai et135 (ai lt135 (ai bt135 (ai kt137 (ai zt137 (ai ot137 (ai st137 (ai xt137 (ai ft137_0 (ai ft137_1 (ai ft137_2 (ai ft137_3 (ai ft137_4 (ai kt143 (ai zt143 (ai ot143 (ai st143 (ai xt143 (ai ft143_0 (ai ft143_1 (ai ft143_2 (ai kt146 (ai zt146 (ai kt148 (ai zt148 (ai ot148 (ai st148 (ai xt148 (ai ft148_0 (ai ft148_1 (ai ft148_2 (ai kt162 (ai zt162 (ai ot162 (et162)))))))))))))))))))))))))))))))))))))))
theorem tt_6:type_of% (ai lt162 (ai bt162 (ai kt168 (ai zt168 (ai ot168 (ai kt174 (ai zt174 (ai ot174 (ai et174 (ai lt174 (ai bt174 (ai kt176 (ai zt176 (ai ot176 (ai st176 (ai ft176_0 (ai ft176_1 (ai ft176_2 (ai kt191 (ai zt191 (ai ot191 (ai st191 (ai ft191_0 (ai ft191_1 (ai kt193 (ai zt193 (ai ot193 (ai st193 (ai ft193_0 (ai ft193_1 (ai kt199 (ai zt199 (ai ot199 (ai st199 (ai xt199 (ai ft199_0 (ai ft199_1 (ai kt229 (ai zt229 (ot229)))))))))))))))))))))))))))))))))))))))):=ai lt162 (ai bt162 (ai kt168 (ai zt168 (ai ot168 (ai kt174 (ai zt174 (ai ot174 (ai et174 (ai lt174 (ai bt174 (ai kt176 (ai zt176 (ai ot176 (ai st176 (ai ft176_0 (ai ft176_1 (ai ft176_2 (ai kt191 (ai zt191 (ai ot191 (ai st191 (ai ft191_0 (ai ft191_1 (ai kt193 (ai zt193 (ai ot193 (ai st193 (ai ft193_0 (ai ft193_1 (ai kt199 (ai zt199 (ai ot199 (ai st199 (ai xt199 (ai ft199_0 (ai ft199_1 (ai kt229 (ai zt229 (ot229)))))))))))))))))))))))))))))))))))))))
theorem tt_7:type_of% (ai st229 (ai xt229 (ai ft229_0 (ai ft229_1 (ai kt234 (ai zt234 (ai ot234 (ai et234 (ai lt234 (ai bt234 (ai kt239 (ai zt239 (ai ot239 (ai st239 (ai ft239_0 (ai ft239_1 (ai kt248 (ai zt248 (ai ot248 (ai et248 (ai lt248 (ai bt248 (ai kt259 (ai zt259 (ai ot259 (ai st259 (ai ft259_0 (ft259_1)))))))))))))))))))))))))))):=ai st229 (ai xt229 (ai ft229_0 (ai ft229_1 (ai kt234 (ai zt234 (ai ot234 (ai et234 (ai lt234 (ai bt234 (ai kt239 (ai zt239 (ai ot239 (ai st239 (ai ft239_0 (ai ft239_1 (ai kt248 (ai zt248 (ai ot248 (ai et248 (ai lt248 (ai bt248 (ai kt259 (ai zt259 (ai ot259 (ai st259 (ai ft259_0 (ft259_1)))))))))))))))))))))))))))
theorem pm_0:type_of% (ai @contA_some (ai @ro_nil (ai @ro_n (ai @ro_g (ai @g_some (ai @pk_t (ai @pk_f (ai @sk_r (ai @g_no (ai @qB_0 (ai @qB_s (ai @R_move (ai @R_pick (ai @R_load (ai @R_fieldAddr (ai @R_field (ai @R_indexAddr (ai @R_index (ai @R_bin (ai @R_un (ai @R_extract (ai @R_nil (ai @R_conv (ai @R_slice (ai @R_len (ai @R_max (ai @R_min (ai @R_call (ai @cF_some (@R_build)))))))))))))))))))))))))))))):=ai @contA_some (ai @ro_nil (ai @ro_n (ai @ro_g (ai @g_some (ai @pk_t (ai @pk_f (ai @sk_r (ai @g_no (ai @qB_0 (ai @qB_s (ai @R_move (ai @R_pick (ai @R_load (ai @R_fieldAddr (ai @R_field (ai @R_indexAddr (ai @R_index (ai @R_bin (ai @R_un (ai @R_extract (ai @R_nil (ai @R_conv (ai @R_slice (ai @R_len (ai @R_max (ai @R_min (ai @R_call (ai @cF_some (@R_build)))))))))))))))))))))))))))))
theorem pm_1:type_of% (ai @R_buildSlice (ai @R_makeFunc (ai @fq_nil (ai @fq_cons (ai @fz_nil (ai @fz_cons (ai @fB_some (ai @fB_none (ai @fS_nil (ai @fS_cons (ai @fA_undef (ai @fA_no (ai @fA_d (ai @fA_tup (ai @fA_vr (ai @fA_br (ai @fA_vb (ai @fA_bb (ai @fA_row (ai @ky_d (ai @ky_ref (ai @ky_buf (ai @ky_row (ai @kys_nil (ai @kys_cons (ai @R_alloc (ai @R_box (ai @R_store (ai @R_assign (@R_makeSlice)))))))))))))))))))))))))))))):=ai @R_buildSlice (ai @R_makeFunc (ai @fq_nil (ai @fq_cons (ai @fz_nil (ai @fz_cons (ai @fB_some (ai @fB_none (ai @fS_nil (ai @fS_cons (ai @fA_undef (ai @fA_no (ai @fA_d (ai @fA_tup (ai @fA_vr (ai @fA_br (ai @fA_vb (ai @fA_bb (ai @fA_row (ai @ky_d (ai @ky_ref (ai @ky_buf (ai @ky_row (ai @kys_nil (ai @kys_cons (ai @R_alloc (ai @R_box (ai @R_store (ai @R_assign (@R_makeSlice)))))))))))))))))))))))))))))
theorem pm_2:type_of% (ai @R_append (ai @k_some (ai @n_some (ai @tb_some (ai @ts_some (ai @s_ref (ai @s_row (ai @s_var (ai @s_buf (ai @s_bf (ai @va_some (ai @ra_some (ai @a_one (ai @a_agg (ai @a_clip (ai @a_nil (ai @a_tup (ai @a_ref (ai @a_buf (ai @ab_some (ai @nb_some (ai @nb_none (ai @ow_eq (ai @kl_nil (ai @kl_ref (ai @kl_buf (ai @kl_row (ai @kl_d (ai @kl_tup (@kl_undef)))))))))))))))))))))))))))))):=ai @R_append (ai @k_some (ai @n_some (ai @tb_some (ai @ts_some (ai @s_ref (ai @s_row (ai @s_var (ai @s_buf (ai @s_bf (ai @va_some (ai @ra_some (ai @a_one (ai @a_agg (ai @a_clip (ai @a_nil (ai @a_tup (ai @a_ref (ai @a_buf (ai @ab_some (ai @nb_some (ai @nb_none (ai @ow_eq (ai @kl_nil (ai @kl_ref (ai @kl_buf (ai @kl_row (ai @kl_d (ai @kl_tup (@kl_undef)))))))))))))))))))))))))))))
theorem pm_3:type_of% (ai @kl_no (ai @rm_nil (ai @rm_cons (ai @ap_eq (ai @aA_some (ai @aX_buf (ai @aX_clip (ai @aB_some (ai @ib_d (ai @ib_buf (ai @mk_eq (ai @mY_some (ai @mX_some (ai @iA_int (ai @e_tmp (ai @e_const (ai @e_func (ai @t_int (ai @t_bool (ai @t_str (ai @t_sl (ai @t_ptr (ai @sa_some (ai @sa_none (ai @p_ptr (ai @p_ref (ai @p_row (ai @l_some (ai @v_one (@v_agg)))))))))))))))))))))))))))))):=ai @kl_no (ai @rm_nil (ai @rm_cons (ai @ap_eq (ai @aA_some (ai @aX_buf (ai @aX_clip (ai @aB_some (ai @ib_d (ai @ib_buf (ai @mk_eq (ai @mY_some (ai @mX_some (ai @iA_int (ai @e_tmp (ai @e_const (ai @e_func (ai @t_int (ai @t_bool (ai @t_str (ai @t_sl (ai @t_ptr (ai @sa_some (ai @sa_none (ai @p_ptr (ai @p_ref (ai @p_row (ai @l_some (ai @v_one (@v_agg)))))))))))))))))))))))))))))
theorem pm_4:type_of% (ai @pa_bool (ai @fa_ptr (ai @fa_ref (ai @fa_row (ai @f_agg (ai @ia_sl (ai @ia_clip (ai @ia_buf (ai @ro_buf (ai @el_some (ai @i_str (ai @by_some (ai @li_some (ai @b_lit (ai @u_lit (ai @un_not (ai @un_neg (ai @da_some (ai @x_tup (ai @nl_ptr (ai @nl_fn (ai @nl_ref (ai @ln_sl (ai @ln_cl (ai @ln_bf (ai @ln_lt (ai @ln_str (ai @ls_some (ai @sl_sl (@sl_clip)))))))))))))))))))))))))))))):=ai @pa_bool (ai @fa_ptr (ai @fa_ref (ai @fa_row (ai @f_agg (ai @ia_sl (ai @ia_clip (ai @ia_buf (ai @ro_buf (ai @el_some (ai @i_str (ai @by_some (ai @li_some (ai @b_lit (ai @u_lit (ai @un_not (ai @un_neg (ai @da_some (ai @x_tup (ai @nl_ptr (ai @nl_fn (ai @nl_ref (ai @ln_sl (ai @ln_cl (ai @ln_bf (ai @ln_lt (ai @ln_str (ai @ls_some (ai @sl_sl (@sl_clip)))))))))))))))))))))))))))))
theorem pm_5:type_of% (ai @sl_buf (ai @bA_some (ai @mx_eq (ai @mn_eq (ai @bs_eq (ai @cl_some (ai @pt_nil (ai @pt_cons (ai @px_some (ai @bu_eq (ai @bx_some (ai @ag_some (ai @fl_nil (ai @fl_cons (ai @fx_some (ai @cv_int (ai @cx_some (ai @ik_some (ai @fn_some (ai @cs_nil (ai @cs_cons (ai @so_eq (ai @sy_some (ai @sx_some (ai @dsl_sl (ai @dsl_clip (ai @lo_none (ai @lo_some (ai @hi_none (@hi_some)))))))))))))))))))))))))))))):=ai @sl_buf (ai @bA_some (ai @mx_eq (ai @mn_eq (ai @bs_eq (ai @cl_some (ai @pt_nil (ai @pt_cons (ai @px_some (ai @bu_eq (ai @bx_some (ai @ag_some (ai @fl_nil (ai @fl_cons (ai @fx_some (ai @cv_int (ai @cx_some (ai @ik_some (ai @fn_some (ai @cs_nil (ai @cs_cons (ai @so_eq (ai @sy_some (ai @sx_some (ai @dsl_sl (ai @dsl_clip (ai @lo_none (ai @lo_some (ai @hi_none (@hi_some)))))))))))))))))))))))))))))
theorem pm_6:type_of% (ai @sl_2 (ai @sl_3 (ai @ce_one (ai @ce_agg (ai @ce_clip (ai @ok_int (ai @ok_bool (ai @ok_str (ai @ok_map (ai @ok_np (ai @ok_lsl (ai @ok_sl (ai @ok_ptr (ai @ok_fn (ai @ds_nil (ai @ds_cons (ai @cp_eq (ai @cp_s (ai @cp_x (ai @co_eq (ai @co_z (ai @co_y (ai @ca_fn (ai @ra_slot (ai @ra_cell (ai @r_one (ai @r_two (ai @r_no (ai @bv_add (@bv_sub)))))))))))))))))))))))))))))):=ai @sl_2 (ai @sl_3 (ai @ce_one (ai @ce_agg (ai @ce_clip (ai @ok_int (ai @ok_bool (ai @ok_str (ai @ok_map (ai @ok_np (ai @ok_lsl (ai @ok_sl (ai @ok_ptr (ai @ok_fn (ai @ds_nil (ai @ds_cons (ai @cp_eq (ai @cp_s (ai @cp_x (ai @co_eq (ai @co_z (ai @co_y (ai @ca_fn (ai @ra_slot (ai @ra_cell (ai @r_one (ai @r_two (ai @r_no (ai @bv_add (@bv_sub)))))))))))))))))))))))))))))
theorem pm_7:type_of% (ai @bv_mul (ai @bv_lss (ai @bv_leq (ai @bv_gtr (ai @bv_geq (ai @bv_eql (ai @bv_neq (ai @bw_lss (ai @bw_leq (ai @bw_gtr (ai @bw_geq (ai @bw_eql (ai @bw_neq (ai @bs_eql (ai @bs_neq (ai @bs_lss (ai @bb_eql (ai @bb_neq (ai @bb_t (ai @bv_and (ai @bv_or (ai @bv_xor (ai @bv_andNot (ai @bv_shl (ai @bv_shr (ai @bv_quo (ai @bv_rem (ai @bs_add (ai @fa_lit (@nl_lit)))))))))))))))))))))))))))))):=ai @bv_mul (ai @bv_lss (ai @bv_leq (ai @bv_gtr (ai @bv_geq (ai @bv_eql (ai @bv_neq (ai @bw_lss (ai @bw_leq (ai @bw_gtr (ai @bw_geq (ai @bw_eql (ai @bw_neq (ai @bs_eql (ai @bs_neq (ai @bs_lss (ai @bb_eql (ai @bb_neq (ai @bb_t (ai @bv_and (ai @bv_or (ai @bv_xor (ai @bv_andNot (ai @bv_shl (ai @bv_shr (ai @bv_quo (ai @bv_rem (ai @bs_add (ai @fa_lit (@nl_lit)))))))))))))))))))))))))))))
theorem pm_8:type_of% (ai @nr_ptr (ai @nr_sl (ai @nr_p (ai @nr_s (ai @nr_c (ai @nr_i (ai @nr_str (ai @nr_ref (ai @nr_buf (ai @nr_row (ai @vk_nil (ai @vk_pin (ai @vk_var (ai @vk_buf (ai @vk_set (ai @bk_nil (ai @bk_pin (ai @bk_buf (ai @bk_var (ai @bk_set (ai @nv_some (ai @nv_none (ai @nv_pin (ai @nb_key (ai @nb_no (ai @nb_pin (ai @rn_0 (ai @rn_n (ai @rn_g (@st_o)))))))))))))))))))))))))))))):=ai @nr_ptr (ai @nr_sl (ai @nr_p (ai @nr_s (ai @nr_c (ai @nr_i (ai @nr_str (ai @nr_ref (ai @nr_buf (ai @nr_row (ai @vk_nil (ai @vk_pin (ai @vk_var (ai @vk_buf (ai @vk_set (ai @bk_nil (ai @bk_pin (ai @bk_buf (ai @bk_var (ai @bk_set (ai @nv_some (ai @nv_none (ai @nv_pin (ai @nb_key (ai @nb_no (ai @nb_pin (ai @rn_0 (ai @rn_n (ai @rn_g (@st_o)))))))))))))))))))))))))))))
theorem pm_9:type_of% (ai @ms_nil (ai @ms_cons (ai @lv_ref (ai @lv_d (ai @lv_buf (ai @lv_row (ai @lv_tup (ai @lv_no (ai @lv_un (ai @lb_buf (ai @lb_d (ai @lb_ref (ai @lb_row (ai @lb_tup (ai @lb_no (ai @lb_un (ai @kk_nil (ai @kk_cons (ai @rr_nil (ai @rr_cons (ai @zm_cons (ai @zm_nil (ai @zm_nl (ai @gt_nil (ai @gt_cons (ai @gt_c (ai @pn_var (ai @pn_buf (ai @pn_set (@dc_sl)))))))))))))))))))))))))))))):=ai @ms_nil (ai @ms_cons (ai @lv_ref (ai @lv_d (ai @lv_buf (ai @lv_row (ai @lv_tup (ai @lv_no (ai @lv_un (ai @lb_buf (ai @lb_d (ai @lb_ref (ai @lb_row (ai @lb_tup (ai @lb_no (ai @lb_un (ai @kk_nil (ai @kk_cons (ai @rr_nil (ai @rr_cons (ai @zm_cons (ai @zm_nil (ai @zm_nl (ai @gt_nil (ai @gt_cons (ai @gt_c (ai @pn_var (ai @pn_buf (ai @pn_set (@dc_sl)))))))))))))))))))))))))))))
theorem pm_10:type_of% (ai @dc_int (ai @dc_str (ai @dc_bool (ai @dc_ptr (ai @dc_map (ai @dc_s (ai @dc_p (ai @dc_f (ai @da_one (ai @da_agg (ai @da_ref (ai @dx_nil (ai @dx_cons (ai @dm_nil (ai @dm_cons (ai @dv_var (ai @rd_nil (ai @rd_cons (ai @co_some (@ud_d)))))))))))))))))))):=ai @dc_int (ai @dc_str (ai @dc_bool (ai @dc_ptr (ai @dc_map (ai @dc_s (ai @dc_p (ai @dc_f (ai @da_one (ai @da_agg (ai @da_ref (ai @dx_nil (ai @dx_cons (ai @dm_nil (ai @dm_cons (ai @dv_var (ai @rd_nil (ai @rd_cons (ai @co_some (@ud_d)))))))))))))))))))
theorem pm_11:type_of% (ai @t_agg (ai @toC_int (ai @toC_str (ai @toC_bool (ai @toC_sl @toC_ptr))))):=(ai @t_agg (ai @toC_int (ai @toC_str (ai @toC_bool (ai @toC_sl @toC_ptr)))))
def headS:List Nat->List (Nat × A)->List (Nat × A)
 | _,[]=>[]
 | ds,(k,a)::r=>if ds.elem k then headS ds r else (k,a)::headS (k::ds) r
def headM:List Nat->List (Nat × Bk)->List (Nat × Bk)
 | _,[]=>[]
 | ds,(k,a)::r=>if ds.elem k then headM ds r else (k,a)::headM (k::ds) r
theorem weakS_of {s t:List (Nat × A)} (h:∀ p∈t,gs s p.1=p.2):weakS s t:=by
 induction t with
 | nil=>exact trivial
 | cons p r ih=>exact ⟨h p List.mem_cons_self,ih fun q hq=>h q (List.mem_cons_of_mem _ hq)⟩
theorem weakM_of {s t:List (Nat × Bk)} (h:∀ p∈t,gm s p.1=some p.2):weakM s t:=by
 induction t with
 | nil=>exact trivial
 | cons p r ih=>exact ⟨h p List.mem_cons_self,ih fun q hq=>h q (List.mem_cons_of_mem _ hq)⟩
theorem headS_mem:∀ {s:List (Nat × A)} {ds:List Nat} {p:Nat × A},p∈headS ds s->ds.elem p.1=false∧gs s p.1=p.2:=by
 intro s
 induction s with
 | nil=>intro ds p h;cases h
 | cons q r ih =>
  intro ds p h
  obtain ⟨k,a⟩:=q
  simp only [headS] at h
  by_cases hk:ds.elem k=true
  ·rw [if_pos hk] at h
   have:=ih h
   refine ⟨this.1,?_⟩
   rw [gs,if_neg ?_]
   ·exact this.2
   ·intro e;rw [e] at this;rw [hk] at this;cases this.1
  ·rw [if_neg hk] at h
   rcases List.mem_cons.1 h with rfl | h
   ·exact ⟨by simpa using hk,by simp [gs]⟩
   ·have:=ih h
    have h1:=this.1
    rw [List.elem_cons] at h1
    have hne:¬ p.1=k:=by intro e;simp [e] at h1
    refine ⟨?_,?_⟩
    ·cases hb:(p.1==k) with
     | true=>rw [hb] at h1;cases h1
     | false=>rw [hb] at h1;exact h1
    ·rw [gs,if_neg hne];exact this.2
theorem headM_mem:∀ {s:List (Nat × Bk)} {ds:List Nat} {p:Nat × Bk},p∈headM ds s->ds.elem p.1=false∧gm s p.1=some p.2:=by
 intro s
 induction s with
 | nil=>intro ds p h;cases h
 | cons q r ih =>
  intro ds p h
  obtain ⟨k,a⟩:=q
  simp only [headM] at h
  by_cases hk:ds.elem k=true
  ·rw [if_pos hk] at h
   have:=ih h
   refine ⟨this.1,?_⟩
   rw [gm,if_neg ?_]
   ·exact this.2
   ·intro e;rw [e] at this;rw [hk] at this;cases this.1
  ·rw [if_neg hk] at h
   rcases List.mem_cons.1 h with rfl | h
   ·exact ⟨by simpa using hk,by simp [gm]⟩
   ·have:=ih h
    have h1:=this.1
    rw [List.elem_cons] at h1
    have hne:¬ p.1=k:=by intro e;simp [e] at h1
    refine ⟨?_,?_⟩
    ·cases hb:(p.1==k) with
     | true=>rw [hb] at h1;cases h1
     | false=>rw [hb] at h1;exact h1
    ·rw [gm,if_neg hne];exact this.2
theorem weakS_append {s a b:List (Nat × A)}:weakS s (a++b) ↔ weakS s a∧weakS s b:=by
 induction a with
 | nil=>simp [weakS]
 | cons p r ih=>simp [weakS,ih,and_assoc]
theorem weakM_append {s a b:List (Nat × Bk)}:weakM s (a++b) ↔ weakM s a∧weakM s b:=by
 induction a with
 | nil=>simp [weakM]
 | cons p r ih=>simp [weakM,ih,and_assoc]
theorem pwp_loopU {e:Env} {mask:Nat} {Q:PX->St->Prop} {c:Code} {s:List (Nat × A)} {m:List (Nat × Bk)} {ι:Type} (ds dm:List Nat) (us:ι->List (Nat × A)) (ms:ι->List (Nat × Bk)) (ok:ι->Prop) (μ:ι->Nat) (x0:ι)
  {s0:List (Nat × A)} {m0:List (Nat × Bk)} (hs0:headS ds s=s0) (hm0:headM dm m=m0) {ss:ι->List (Nat × A)} {mm:ι->List (Nat × Bk)} (hss:∀ x,us x++s0=ss x) (hmm:∀ x,ms x++m0=mm x) (hs:weakS s (us x0)) (hm:weakM m (ms x0)) (h0:ok x0)
  (hr:∀ x,ok x->pwp e mask c ⟨ss x,mm x⟩ (fun p σ''=>match p with
   | .normal=>∃ y,ok y∧weakS σ''.s (ss y)∧weakM σ''.m (mm y)∧μ y < μ x
   | p=>Q p σ'')):pwp e mask (.loop c) ⟨s,m⟩ Q:=by
 refine pwp_loop (fun x=>⟨ss x,mm x⟩) ok μ x0 h0 ?_ ?_ hr
 ·show weakS s (ss x0)
  rw [<- hss,weakS_append,<- hs0]
  exact ⟨hs,weakS_of fun p hp=>(headS_mem hp).2⟩
 ·show weakM m (mm x0)
  rw [<- hmm,weakM_append,<- hm0]
  exact ⟨hm,weakM_of fun p hp=>(headM_mem hp).2⟩
theorem region_0k {e:Env} {mask:Nat} {Q:PX->St->Prop} {σ:St} {id:Nat} {l:List Oper} (h:∀ ds,l.map (·.dst)=ds->Runs e ds 0 l σ (TrimK mask Q)):pwp e mask (.region id l.toArray false) σ Q:=region_0 rfl (h _ rfl)
theorem region_Dk {e:Env} {mask:Nat} {Q:PX->St->Prop} {σ:St} {id:Nat} {l:List Oper} (n:Nat) (hr:regX l.toArray n=true) (h:∀ ds,l.map (·.dst)=ds->Runs e ds n l σ (TrimK mask Q)):pwp e mask (.region id l.toArray true) σ Q:=region_D n hr rfl (h _ rfl)
theorem trimS_n {mask:Nat}:trimS mask []=[]:=rfl
theorem trimS_c {mask k:Nat} {a:A} {r:List (Nat × A)}:trimS mask ((k,a)::r)=if mask.testBit k=true then (k,a)::trimS mask r else trimS mask r:=rfl
theorem tb_eq {m n:Nat}:m.testBit n=((1 &&& (m >>> n)) != 0):=rfl
def endR (mask:Nat):Res->Option (List (Nat × A) × List (Nat × Bk))
 | .done σ=>some (trimS mask σ.s,σ.m)
 | _=>none
theorem endR_d {mask:Nat} {s:List (Nat × A)} {m:List (Nat × Bk)}:endR mask (.done ⟨s,m⟩)=some (trimS mask s,m):=rfl
theorem reT {e:Env} {mask:Nat} {Q:PX->St->Prop} {ds:List (Option Nat)} {n:Nat} {os:List Oper} {σ:St} {s2:List (Nat × A)} {m2:List (Nat × Bk)} (h:endR mask (runOps e.P ds n os σ)=some (s2,m2)) (hQ:Q .normal ⟨s2,m2⟩):Runs e ds n os σ (TrimK mask Q):=by
 cases hr:runOps e.P ds n os σ with
 | bad=>rw [hr] at h;cases h
 | call q c args d n' os' σ'=>rw [hr] at h;cases h
 | map q d n' os' σ'=>rw [hr] at h;cases h
 | stop n' os' σ'=>rw [hr] at h;cases h
 | done σ' =>
  rw [hr] at h
  simp only [endR,Option.some.injEq,Prod.mk.injEq] at h
  obtain ⟨h1,h2⟩:=h
  refine runs_done hr ?_
  unfold TrimK
  rw [h1,h2]
  exact hQ
def callOf:Res->Option (FuncId × List D × Option Nat × Nat × List Oper × St)
 | .call q c args d n os σ=>(callP q c args σ).map (fun x=>(x.1,x.2.1,d,n,os,x.2.2))
 | _=>none
theorem callOf_c {q:Bool} {c:Operand} {args:List Operand} {d:Option Nat} {n:Nat} {os:List Oper} {σ:St}:callOf (.call q c args d n os σ)=(callP q c args σ).map (fun x=>(x.1,x.2.1,d,n,os,x.2.2)):=rfl
theorem rcT {e:Env} {K:St->Prop} {ds:List (Option Nat)} {n n':Nat} {os os':List Oper} {σ:St} {f:FuncId} {xs:List D} {d:Option Nat} {r:List D} {s2 s3:List (Nat × A)} {m2:List (Nat × Bk)} (h:callOf (runOps e.P ds n os σ)=some (f,xs,d,n',os',⟨s2,m2⟩)) (hc:Con e f xs r) (h2:setA s2 d (retA r)=s3) (hK:Runs e ds n' os' ⟨s3,m2⟩ K):Runs e ds n os σ K:=by
 cases hr:runOps e.P ds n os σ with
 | bad=>rw [hr] at h;cases h
 | done σ'=>rw [hr] at h;cases h
 | map q d n' os' σ'=>rw [hr] at h;cases h
 | stop n' os' σ'=>rw [hr] at h;cases h
 | call q c args d1 n1 os1 σ1 =>
  rw [hr] at h
  simp only [callOf,Option.map_eq_some_iff,Prod.mk.injEq] at h
  obtain ⟨⟨f',xs',σ2⟩,h1,rfl,rfl,rfl,rfl,rfl,h3⟩:=h
  simp only at h3
  subst h3
  exact runs_go hr h1 hc h2 hK
theorem wkI {e:Env} {mask:Nat} {Q:PX->St->Prop} {σ:St} {c:Code} (h:pwp e mask c σ Q):∃ σ1,Wk σ σ1∧pwp e mask c σ1 Q:=⟨σ,Wk.refl σ,h⟩
theorem Wk.trans {a b c:St} (h:Wk a b) (k:Wk b c):Wk a c:=by
 refine ⟨fun t=>?_,fun t x hx=>h.2 t x (k.2 t x hx)⟩
 rcases k.1 t with q | q
 ·rcases h.1 t with r | r
  ·exact .inl (q.trans r)
  ·exact .inr (q.trans r)
 ·exact .inr q
theorem pwp_meetU {e:Env} {mask:Nat} {Q:PX->St->Prop} {a:Code} {s:List (Nat × A)} {m:List (Nat × Bk)} {ι:Type} (hQ:∀ σ σ1,Wk σ σ1->Q .normal σ1->Q .normal σ) (ds dm:List Nat) (us:ι->List (Nat × A)) (ms:ι->List (Nat × Bk)) (R:ι->Prop)
  {s0:List (Nat × A)} {m0:List (Nat × Bk)} (hs0:headS ds s=s0) (hm0:headM dm m=m0) {ss:ι->List (Nat × A)} {mm:ι->List (Nat × Bk)} (hss:∀ x,us x++s0=ss x) (hmm:∀ x,ms x++m0=mm x)
  (h:pwp e mask a ⟨s,m⟩ (fun x σ'=>match x with
   | .normal=>∃ y,R y∧weakS σ'.s (ss y)∧weakM σ'.m (mm y)
   | x=>Q x σ')) (hb:∀ x,R x->Q .normal ⟨ss x,mm x⟩):pwp e mask a ⟨s,m⟩ Q:=by
 refine pwp_mono (fun p σ' hq=>?_) a _ h
 cases p with
 | normal =>
  obtain ⟨y,h1,h2,h3⟩:=hq
  exact hQ _ _ ⟨fun t=>gs_weakS h2,fun t x=>gm_weakM h3⟩ (hb y h1)
 | exit id=>exact hq
 | ret=>exact hq
theorem okRow_String {r:List C} (h:okRow (fieldsOf .str) r):∃ x0:ByteArray,r=[.lit (.string x0)]∧x0.size<=maxLen:=by
 obtain ⟨c0,rfl⟩:=len1 h.len
 simp only [fieldsOf,okRow,and_true] at h
 have h0:=h
 obtain ⟨x0,rfl,g0⟩:=okC_str h0
 exact ⟨x0,rfl,g0⟩
def szStringSC (rows:List (List C)):Prop:=∀ (S:Nat->Prop) (v:Value) (left:Int) (w:World),okRows (fieldsOf .str) rows->Rep w S (.sl rows) v->0<=left->left<=1048576 ->
 Calls Tryz.prog 91 #[v,.int .i64 left] w fun e w'=>e=.returned (.int .i64 (sub left (rows.length+bulkRows rows)))∧Below w.heap.size w w'
def eqStringSC (rows:List (List C)):Prop:=∀ (S S':Nat->Prop) (v v':Value) (w:World),okRows (fieldsOf .str) rows->Rep w S (.sl rows) v->Rep w S' (.sl rows) v' ->
 Calls Tryz.prog 111 #[v,v'] w fun e w'=>e=.returned (.bool true)∧Below w.heap.size w w'
def toStringSC (rows:List (List C)):Prop:=∀ (S:Nat->Prop) (v:Value) (w:World),okRows (fieldsOf .str) rows->Rep w S (.sl rows) v->rows.length+bulkRows rows<=1048576 ->
 Calls Tryz.prog 100 #[v] w fun e w'=>∃ v',e=.returned v'∧Own w' (.sl rows) (fun x=>w.heap.size<=x∧x < w'.heap.size) v'∧Below w.heap.size w w'
set_option maxHeartbeats 1000000 in
theorem szStringS_any (rows:List (List C)):szStringSC rows:=by
 intro S v left w hok hv h0 h1
 obtain ⟨A,m,cap,rfl,hm,hmc,hcm⟩:=hv.form
 have HV:=Lib.hid hv
 have HM:=Lib.hid hm
 have HOK:=Lib.hid hok
 clear hv hm hok
 unfold maxLen at hcm
 by_cases hlt:left - m < 0
 ·rw [sub_neg (by have:=HM.out;omega)]
  go_enter Tryz.func91,Tryz.ntmps91
  go_wp2
  go_ret
  exact ⟨rfl,Below.refl _ _⟩
 ·go_enter Tryz.func91,Tryz.ntmps91
  go_wp2
  go_loopw [1,5] (fun l i wr=>∃ k:Nat,k<=m∧i=.int .i64 k∧l=.int .i64 (left - m - (bulkRows (rows.take k):Int))∧0<=left - m - (bulkRows (rows.take k):Int)∧Below w.heap.size w wr) (fun _ i _=>m - (intOf i).toNat)
  case atStart=>exact ⟨0,Nat.zero_le _,rfl,by simp [bulkRows],by simp [bulkRows];omega,Below.refl _ _⟩
  case round =>
   obtain ⟨k,hk,rfl,rfl,hl0,hb⟩:=hrel
   by_cases hkm:k < m
   ·obtain ⟨b,off,r,rfl,hS,hbz,hget,hokr,hrow⟩:=(HV.out.below hb).get HOK.out hkm
    obtain ⟨u0,c0,hvals⟩:=hrow.vals1 hokr.len
    obtain ⟨x0,rfl,g0⟩:=okRow_String hokr
    simp only [RepVals,Rep.lit_iff,and_true] at hvals
    subst hvals
    unfold maxLen at g0
    have hle:=bulk_take_le rows (k+1)
    have HBT:=Lib.hid (bulk_take hget)
    simp only [bulkRow,bulkC,Nat.add_zero] at HBT
    clear hokr hrow hget
    simp only [fieldsOf,List.length_cons,List.length_nil,Nat.reduceAdd,Nat.mul_one] at c0
    by_cases h2:left - m - (bulkRows (rows.take k):Int) - x0.size < 0
    ·go_wp2
     go_ret
     exact ⟨ret_int (a:=-1) (sub_neg (by have:=HBT.out;have:=HM.out;omega)).symm,hb⟩
    ·go_wp2
     go_roundw
     case rel=>exact ⟨k+1,by omega,by go_num,by have:=HBT.out;congr 1;omega,by have:=HBT.out;omega,hb⟩
     case measure=>simp [intOf];omega
   ·go_wp2
    go_ret
    have e:k=m:=by omega
    subst e
    have:rows.take k=rows:=List.take_of_length_le (by have:=HM.out;omega)
    rw [this] at hl0 ⊢
    exact ⟨ret_int (by have:=HM.out;rw [sub_pos (by omega)];omega),hb⟩
set_option maxHeartbeats 1000000 in
theorem eqStringS_any (rows:List (List C)):eqStringSC rows:=by
 intro S S' v v' w hok hv hv'
 obtain ⟨A,m,cap,rfl,hm,hmc,hcm⟩:=hv.form
 obtain ⟨A',m',cap',rfl,hm',hmc',hcm'⟩:=hv'.form
 obtain rfl:m=m':=by omega
 have HV:=Lib.hid hv
 have HV':=Lib.hid hv'
 have HM:=Lib.hid hm
 have HOK:=Lib.hid hok
 clear hv hm hok hm' hv'
 unfold maxLen at hcm hcm'
 go_enter Tryz.func111,Tryz.ntmps111
 go_wp2
 go_loopw [5] (fun i wr=>∃ k:Nat,k<=m∧i=.int .i64 k∧Below w.heap.size w wr) (fun i _=>m - (intOf i).toNat)
 case atStart=>exact ⟨0,Nat.zero_le _,rfl,Below.refl _ _⟩
 case round =>
  obtain ⟨k,hk,rfl,hb⟩:=hrel
  by_cases hkm:k < m
  ·obtain ⟨b,off,r,rfl,hS,hbz,hget,hokr,hrow⟩:=(HV.out.below hb).get HOK.out hkm
   obtain ⟨b',off',r',rfl,hS',hbz',hget',hokr',hrow'⟩:=(HV'.out.below hb).get HOK.out hkm
   obtain rfl:r=r':=by rw [hget] at hget';exact Option.some.inj hget'
   obtain ⟨u0,c0,hvals⟩:=hrow.vals1 hokr.len
   obtain ⟨u1,d0,hvals'⟩:=hrow'.vals1 hokr.len
   obtain ⟨x0,rfl,g0⟩:=okRow_String hokr
   simp only [RepVals,Rep.lit_iff,and_true] at hvals hvals'
   subst hvals
   subst hvals'
   clear hokr hokr' hrow hrow' hget hget' g0
   simp only [fieldsOf,List.length_cons,List.length_nil,Nat.reduceAdd,Nat.mul_one] at c0 d0
   have k0:(0:Int)<=(k:Int):=by omega
   have k1:(k:Int) < (m:Int):=by omega
   go_wp2_with fail
   go_quiet (fail)
   go_wp2
   go_roundw
   case rel=>exact ⟨k+1,by omega,by go_num,hb.trans (below_drewN (Below.refl _ _) _)⟩
   case measure=>simp [intOf];omega
  ·go_wp2
   go_ret
   exact ⟨rfl,hb⟩
theorem info_String:(Tryz.prog.info? 9).map (fun i=>(i.zero,i.size,i.bytes))=some (some (.string .empty),1,16):=by kernel_rfl
set_option maxHeartbeats 1000000 in
theorem toStringS_any (rows:List (List C)):toStringSC rows:=by
 intro S v w hok hv hlen
 obtain ⟨A,m,cap,rfl,hm,hmc,hcm⟩:=hv.form
 obtain ⟨i0,hi,hz0,hz1,hz2⟩:=info_parts info_String
 have HV:=Lib.hid hv
 have HM:=Lib.hid hm
 have HOK:=Lib.hid hok
 have hml:m<=1048576:=by omega
 clear hv hm hok
 unfold maxLen at hcm
 have hmk:=run_make (P:=Tryz.prog) w 22 9 i0 _ Tryz.underlying22 hi hz0 .i64 .i64 (m:Int) (m:Int) (by omega) (by omega) (by rw [hz2];omega) (by omega)
 go_enter Tryz.func100,Tryz.ntmps100
 go_wp2
 clear hmk
 go_loopw [4] (fun i wr=>∃ k:Nat,k<=m∧i=.int .i64 k∧Filling w w.heap.size 9 m 1 rows k wr) (fun i _=>m - (intOf i).toNat)
 case atStart=>exact ⟨0,Nat.zero_le _,rfl,Filling.start (by rw [size_madeCells];omega)⟩
 case round =>
  obtain ⟨k,hk,rfl,hfill⟩:=hrel
  have hb:=hfill.1
  by_cases hkm:k < m
  ·obtain ⟨b,off,r,rfl,hS,hbz,hget,hokr,hrow⟩:=(HV.out.below hb).get HOK.out hkm
   obtain ⟨u0,c0,hvals⟩:=hrow.vals1 hokr.len
   obtain ⟨x0,rfl,g0⟩:=okRow_String hokr
   simp only [RepVals,Rep.lit_iff,and_true] at hvals
   subst hvals
   have HGET:=Lib.hid hget
   have HF:=Lib.hid hfill
   obtain ⟨cur,hcur,hcs⟩:=HF.out.row (Below.refl _ _)
   have HCUR:=Lib.hid hcur
   have HCS:=Lib.hid hcs
   clear hokr hrow hget hfill g0 hcur hcs
   simp only [fieldsOf,List.length_cons,List.length_nil,Nat.reduceAdd,Nat.mul_one] at c0
   go_wp2_with (refine wpList_store_put rfl 9 _ _ rfl w.heap.size k rfl [.string x0] rfl i0 hi hz1 9 cur HCUR.out (by have:=HCS.out;simp only [List.length_cons,List.length_nil];omega) (by simp [Value.oneCell']) ?_;intro w3 hput)
   go_roundw
   case rel=>exact ⟨k+1,by omega,by go_num,HF.out.step (fs:=fieldsOf .str) HOK.out HGET.out (Below.refl _ _) (OwnVals.lit OwnVals.nil) (by simpa [fieldsOf] using hput)⟩
   case measure=>simp [intOf];omega
  ·go_wp2
   go_ret
   have e:k=m:=by omega
   subst e
   exact ⟨_,rfl,hfill.done HM.out (by unfold maxLen;omega) (by decide) HOK.out.lens⟩
theorem okRow_Sub {r:List C} (h:okRow (fieldsOf .sub) r):∃ (i0:Int) (i1:Int),r=[.lit (.int .i64 i0),.lit (.int .i64 i1)]∧I64 i0∧I64 i1:=by
 obtain ⟨c0,c1,rfl⟩:=len2 h.len
 simp only [fieldsOf,termF,occF,sortsF,sigF,moduleF,algF,List.cons_append,List.nil_append,okRow,and_true] at h
 obtain ⟨h0,h1⟩:=h
 obtain ⟨i0,rfl,g0⟩:=okC_int h0
 obtain ⟨i1,rfl,g1⟩:=okC_int h1
 exact ⟨i0,i1,rfl,g0,g1⟩
theorem repVals_Sub {w:World} {S:Nat->Prop} {i0:Int} {i1:Int} {us:List Value} (h:RepVals w S [.lit (.int .i64 i0),.lit (.int .i64 i1)] us):us=[.int .i64 i0,.int .i64 i1]:=by
 obtain ⟨u0,u1,rfl⟩:=len2 h.len
 simp only [RepVals,Rep.lit_iff,and_true] at h
 obtain ⟨rfl,rfl⟩:=h
 exact rfl
def eqSubC (row:List C):Prop:=∀ (S S':Nat->Prop) (us us':List Value) (w:World),okRow (fieldsOf .sub) row->RepVals w S row us->RepVals w S' row us' ->
 Calls Tryz.prog 172 #[.agg us.toArray,.agg us'.toArray] w fun e w'=>e=.returned (.bool true)∧Below w.heap.size w w'
def toSubC (row:List C):Prop:=∀ (S:Nat->Prop) (us:List Value) (w:World),okRow (fieldsOf .sub) row->RepVals w S row us->bulkRow row<=1048576 ->
 Calls Tryz.prog 158 #[.agg us.toArray] w fun e w'=>∃ us':List Value,e=.returned (.agg us'.toArray)∧OwnVals w' row (fun x=>w.heap.size<=x∧x < w'.heap.size) us'∧Below w.heap.size w w'
def szSubSC (rows:List (List C)):Prop:=∀ (S:Nat->Prop) (v:Value) (left:Int) (w:World),okRows (fieldsOf .sub) rows->Rep w S (.sl rows) v->0<=left->left<=1048576 ->
 Calls Tryz.prog 92 #[v,.int .i64 left] w fun e w'=>e=.returned (.int .i64 (sub left (rows.length+bulkRows rows)))∧Below w.heap.size w w'
def eqSubSC (rows:List (List C)):Prop:=∀ (S S':Nat->Prop) (v v':Value) (w:World),okRows (fieldsOf .sub) rows->Rep w S (.sl rows) v->Rep w S' (.sl rows) v' ->
 Calls Tryz.prog 112 #[v,v'] w fun e w'=>e=.returned (.bool true)∧Below w.heap.size w w'
def toSubSC (rows:List (List C)):Prop:=∀ (S:Nat->Prop) (v:Value) (w:World),okRows (fieldsOf .sub) rows->Rep w S (.sl rows) v->rows.length+bulkRows rows<=1048576 ->
 Calls Tryz.prog 101 #[v] w fun e w'=>∃ v',e=.returned v'∧Own w' (.sl rows) (fun x=>w.heap.size<=x∧x < w'.heap.size) v'∧Below w.heap.size w w'
set_option maxHeartbeats 1000000 in
theorem eqSub_of (row:List C):eqSubC row:=by
 intro S S' us us' w hok hv hv'
 obtain ⟨i0,i1,rfl,g0,g1⟩:=okRow_Sub hok
 obtain rfl:=repVals_Sub hv
 obtain rfl:=repVals_Sub hv'
 have G0:=Lib.hid g0
 have G1:=Lib.hid g1
 clear g0 g1 hok
 clear hv hv' 
 have hbw:=((Below.refl w.heap.size w).alloc (Nat.le_refl _) (.cells #[.int .i64 i0,.int .i64 i1] 191)).alloc (by simp) (.cells #[.int .i64 i0,.int .i64 i1] 191)
 go_enter Tryz.func172,Tryz.ntmps172
 go_wp2
 go_ret
 exact ⟨rfl,hbw⟩
set_option maxHeartbeats 2000000 in
theorem toSub_of (row:List C):toSubC row:=by
 intro S us w hok hv hlen
 obtain ⟨i0,i1,rfl,g0,g1⟩:=okRow_Sub hok
 obtain rfl:=repVals_Sub hv
 have G0:=Lib.hid g0
 have G1:=Lib.hid g1
 clear g0 g1 hok
 clear hv 
 clear hlen
 go_enter Tryz.func158,Tryz.ntmps158
 go_wp2
 refine bodyPost_ret (v:=.agg #[.int .i64 i0,.int .i64 i1]) (by simp [results,Tryz.results158,go_sem]) rfl ⟨[.int .i64 i0,.int .i64 i1],rfl,?_,(by repeat (first | refine Below.alloc ?_ (by simp;try omega) _ | exact Below.refl _ _))⟩
 simp
 exact (OwnVals.lit (OwnVals.lit OwnVals.nil))
theorem eqSub_any (row:List C):eqSubC row:=eqSub_of row
theorem toSub_any (row:List C):toSubC row:=toSub_of row
theorem bulk_Sub:∀ (rows:List (List C)),okRows (fieldsOf .sub) rows->bulkRows rows=0
 | [],_=>by simp [bulkRows]
 | r::rs,h=>by
  obtain ⟨i0,i1,rfl,_⟩:=okRow_Sub h.1
  simp [bulkRows,bulkRow,bulkC,bulk_Sub rs h.2]
set_option maxHeartbeats 1000000 in
theorem szSubS_any (rows:List (List C)):szSubSC rows:=by
 intro S v left w hok hv h0 h1
 obtain ⟨A,m,cap,rfl,hm,hmc,hcm⟩:=hv.form
 have hz:=bulk_Sub rows hok
 rw [hz,hm]
 clear hv hm hok hz
 unfold maxLen at hcm
 by_cases hlt:left - m < 0
 ·rw [sub_neg (by omega)]
  go_enter Tryz.func92,Tryz.ntmps92
  go_wp2
  go_ret
  exact ⟨rfl,Below.refl _ _⟩
 ·rw [sub_pos (by omega)]
  go_enter Tryz.func92,Tryz.ntmps92
  go_wp2
  go_ret
  exact ⟨ret_int (by omega),Below.refl _ _⟩
set_option maxHeartbeats 1000000 in
theorem eqSubS_of (rows:List (List C)) (h:∀ (i:Nat) r,rows[i]?=some r->eqSubC r):eqSubSC rows:=by
 intro S S' v v' w hok hv hv'
 obtain ⟨A,m,cap,rfl,hm,hmc,hcm⟩:=hv.form
 obtain ⟨A',m',cap',rfl,hm',hmc',hcm'⟩:=hv'.form
 obtain rfl:m=m':=by omega
 have H:=Lib.hid h
 have HV:=Lib.hid hv
 have HV':=Lib.hid hv'
 have HM:=Lib.hid hm
 have HOK:=Lib.hid hok
 clear h hv hm hok hm' hv'
 unfold maxLen at hcm hcm'
 go_enter Tryz.func112,Tryz.ntmps112
 go_wp2
 go_loopw [5] (fun i wr=>∃ k:Nat,k<=m∧i=.int .i64 k∧Below w.heap.size w wr) (fun i _=>m - (intOf i).toNat)
 case atStart=>exact ⟨0,Nat.zero_le _,rfl,Below.refl _ _⟩
 case round =>
  obtain ⟨k,hk,rfl,hb⟩:=hrel
  by_cases hkm:k < m
  ·obtain ⟨b,off,r,rfl,hS,hbz,hget,hokr,hrow⟩:=(HV.out.below hb).get HOK.out hkm
   obtain ⟨b',off',r',rfl,hS',hbz',hget',hokr',hrow'⟩:=(HV'.out.below hb).get HOK.out hkm
   obtain rfl:r=r':=by rw [hget] at hget';exact Option.some.inj hget'
   obtain ⟨u0,u1,c0,c1,hvals⟩:=hrow.vals2 hokr.len
   obtain ⟨x0,x1,d0,d1,hvals'⟩:=hrow'.vals2 hokr.len
   have HT:=H.out k r hget
   have HVALS:=Lib.hid hvals
   have HVALS':=Lib.hid hvals'
   have HOKR:=Lib.hid hokr
   clear hvals hvals' hokr hokr' hrow hrow' hget hget'
   simp only [fieldsOf,termF,occF,sortsF,sigF,moduleF,algF,List.cons_append,List.nil_append,List.length_cons,List.length_nil,Nat.reduceAdd,Nat.mul_one] at c0 c1 d0 d1
   have k0:(0:Int)<=(k:Int):=by omega
   have k1:(k:Int) < (m:Int):=by omega
   go_wp2_with fail
   go_region_held3 (fun w'=>∀ b o,b < wr.heap.size->w'.cell? ⟨b,o,none⟩=wr.cell? ⟨b,o,none⟩) (first | go_keep | exact fun b o h=>hb2.cell (p:=⟨b,o,none⟩) h) (first | (go_at_call 172;refine (HT S S' _ _ _ HOKR.out (HVALS.out.below (Below.refl _ _).drew) (HVALS'.out.below (Below.refl _ _).drew)).mono ?_;rintro e w' ⟨rfl,hb2⟩))
   go_wp2
   go_roundw
   case rel=>exact ⟨k+1,by omega,by go_num,hb.trans ((Below.refl _ _).drew.trans (hb2.mono hb.size))⟩
   case measure=>simp [intOf];omega
  ·go_wp2
   go_ret
   exact ⟨rfl,hb⟩
theorem info_Sub:(Tryz.prog.info? 191).map (fun i=>(i.zero,i.size,i.bytes))=some (some (.agg #[.int .i64 0,.int .i64 0]),2,16):=by kernel_rfl
set_option maxHeartbeats 1000000 in
theorem toSubS_of (rows:List (List C)) (h:∀ (i:Nat) r,rows[i]?=some r->toSubC r):toSubSC rows:=by
 intro S v w hok hv hlen
 obtain ⟨A,m,cap,rfl,hm,hmc,hcm⟩:=hv.form
 obtain ⟨i0,hi,hz0,hz1,hz2⟩:=info_parts info_Sub
 have H:=Lib.hid h
 have HV:=Lib.hid hv
 have HM:=Lib.hid hm
 have HOK:=Lib.hid hok
 have hml:m<=1048576:=by omega
 clear h hv hm hok
 unfold maxLen at hcm
 have hmk:=run_make (P:=Tryz.prog) w 36 191 i0 _ Tryz.underlying36 hi hz0 .i64 .i64 (m:Int) (m:Int) (by omega) (by omega) (by rw [hz2];omega) (by omega)
 go_enter Tryz.func101,Tryz.ntmps101
 go_wp2
 clear hmk
 go_loopw [4] (fun i wr=>∃ k:Nat,k<=m∧i=.int .i64 k∧Filling w w.heap.size 191 m 2 rows k wr) (fun i _=>m - (intOf i).toNat)
 case atStart=>exact ⟨0,Nat.zero_le _,rfl,Filling.start (size_madeCells _ _)⟩
 case round =>
  obtain ⟨k,hk,rfl,hfill⟩:=hrel
  have hb:=hfill.1
  by_cases hkm:k < m
  ·obtain ⟨b,off,r,rfl,hS,hbz,hget,hokr,hrow⟩:=(HV.out.below hb).get HOK.out hkm
   obtain ⟨u0,u1,c0,c1,hvals⟩:=hrow.vals2 hokr.len
   have HT:=H.out k r hget
   have HVALS:=Lib.hid hvals
   have HOKR:=Lib.hid hokr
   have HGET:=Lib.hid hget
   have HF:=Lib.hid hfill
   have hbg:=bulk_get hget
   clear hvals hokr hrow hget hfill
   simp only [fieldsOf,termF,occF,sortsF,sigF,moduleF,algF,List.cons_append,List.nil_append,List.length_cons,List.length_nil,Nat.reduceAdd,Nat.mul_one] at c0 c1
   go_wp2_with fail
   refine (HT S _ _ HOKR.out HVALS.out (by omega)).mono ?_
   rintro e w2 ⟨us,rfl,hown,hb2⟩
   have hone:=HOKR.out.one (OwnVals.rep _ _ (fun _=>True) _ (fun _ _=>trivial) hown)
   obtain ⟨y0,y1,rfl⟩:=len2 (hown.len.trans HOKR.out.len)
   have HOWN:=Lib.hid hown
   have HONE:=Lib.hid hone
   obtain ⟨cur,hcur,hcs⟩:=HF.out.row hb2
   have HCUR:=Lib.hid hcur
   have HCS:=Lib.hid hcs
   clear hown hone hcur hcs
   go_wp2_with (refine wpList_store_put rfl 191 _ _ rfl w.heap.size (k * 2) rfl [y0,y1] rfl i0 hi hz1 191 cur HCUR.out (by have:=HCS.out;simp only [List.length_cons,List.length_nil];omega) HONE.out ?_;intro w3 hput)
   go_roundw
   case rel=>exact ⟨k+1,by omega,by go_num,HF.out.step (fs:=fieldsOf .sub) HOK.out HGET.out hb2 HOWN.out hput⟩
   case measure=>simp [intOf];omega
  ·go_wp2
   go_ret
   have e:k=m:=by omega
   subst e
   exact ⟨_,rfl,hfill.done HM.out (by unfold maxLen;omega) (by decide) HOK.out.lens⟩
theorem eqSubS_any (rows:List (List C)):eqSubSC rows:=eqSubS_of rows (fun _ r _=>eqSub_any r)
theorem toSubS_any (rows:List (List C)):toSubSC rows:=toSubS_of rows (fun _ r _=>toSub_any r)
theorem okRow_Sorts {r:List C} (h:okRow (sortsF) r):∃ (r0:List (List C)) (r1:List (List C)),r=[.sl r0,.sl r1]∧okRows (fieldsOf .str) r0∧okRows (fieldsOf .sub) r1:=by
 obtain ⟨c0,c1,rfl⟩:=len2 h.len
 simp only [fieldsOf,termF,occF,sortsF,sigF,moduleF,algF,List.cons_append,List.nil_append,okRow,and_true] at h
 obtain ⟨h0,h1⟩:=h
 obtain ⟨r0,rfl,g0⟩:=okC_sl h0
 obtain ⟨r1,rfl,g1⟩:=okC_sl h1
 exact ⟨r0,r1,rfl,g0,g1⟩
theorem mkRow_Sorts {r0:List (List C)} {r1:List (List C)} (g0:okRows (fieldsOf .str) r0) (g1:okRows (fieldsOf .sub) r1):okRow (sortsF) [.sl r0,.sl r1]:=by
 simp only [fieldsOf,termF,occF,sortsF,sigF,moduleF,algF,List.cons_append,List.nil_append,okRow,and_true]
 exact ⟨mk_sl g0,mk_sl g1⟩
theorem repVals_Sorts {w:World} {S:Nat->Prop} {r0:List (List C)} {r1:List (List C)} {us:List Value} (h:RepVals w S [.sl r0,.sl r1] us):∃ v0 v1,us=[v0,v1]∧Rep w S (.sl r0) v0∧Rep w S (.sl r1) v1:=by
 obtain ⟨u0,u1,rfl⟩:=len2 h.len
 simp only [RepVals,Rep.lit_iff,and_true] at h
 obtain ⟨e0,e1⟩:=h
 exact ⟨u0,u1,rfl,e0,e1⟩
theorem mkVals_Sorts {w:World} {S:Nat->Prop} {r0:List (List C)} {r1:List (List C)} {v0:Value} {v1:Value} (e0:Rep w S (.sl r0) v0) (e1:Rep w S (.sl r1) v1):RepVals w S [.sl r0,.sl r1] [v0,v1]:=by
 simp only [RepVals,Rep.lit_iff,and_true,true_and]
 exact ⟨e0,e1⟩
def szSortsC (row:List C):Prop:=∀ (S:Nat->Prop) (us:List Value) (left:Int) (w:World),okRow (sortsF) row->RepVals w S row us->0<=left->left<=1048576 ->
 Calls Tryz.prog 40 #[.agg us.toArray,.int .i64 left] w fun e w'=>e=.returned (.int .i64 (sub left (bulkRow row)))∧Below w.heap.size w w'
def eqSortsC (row:List C):Prop:=∀ (S S':Nat->Prop) (us us':List Value) (w:World),okRow (sortsF) row->RepVals w S row us->RepVals w S' row us' ->
 Calls Tryz.prog 54 #[.agg us.toArray,.agg us'.toArray] w fun e w'=>e=.returned (.bool true)∧Below w.heap.size w w'
def toSortsC (row:List C):Prop:=∀ (S:Nat->Prop) (us:List Value) (w:World),okRow (sortsF) row->RepVals w S row us->bulkRow row<=1048576 ->
 Calls Tryz.prog 46 #[.agg us.toArray] w fun e w'=>∃ us':List Value,e=.returned (.agg us'.toArray)∧OwnVals w' row (fun x=>w.heap.size<=x∧x < w'.heap.size) us'∧Below w.heap.size w w'
set_option maxHeartbeats 1000000 in
theorem szSorts_of (row:List C):szSortsC row:=by
 intro S us left w hok hv h0 h1
 obtain ⟨r0,r1,rfl,g0,g1⟩:=okRow_Sorts hok
 obtain ⟨v0,v1,rfl,e0,e1⟩:=repVals_Sorts hv
 have HC0:=Lib.hid (szStringS_any r0)
 have HC1:=Lib.hid (szSubS_any r1)
 have HB:=Lib.hid (show bulkRow [.sl r0,.sl r1]=(r0.length+bulkRows r0)+(r1.length+bulkRows r1) from by simp only [bulkRow,bulkC];omega)
 have G0:=Lib.hid g0
 have G1:=Lib.hid g1
 clear g0 g1 hok
 have E0:=Lib.hid e0
 have E1:=Lib.hid e1
 clear hv e0 e1
 generalize hrow:bulkRow [.sl r0,.sl r1]=total at HB ⊢
 clear hrow
 have hbw:=(Below.refl w.heap.size w).alloc (Nat.le_refl _) (.cells #[v0,v1] 25)
 go_enter Tryz.func40,Tryz.ntmps40
 go_wp2_with fail
 by_cases q0:left < ((r0.length+bulkRows r0):Nat)
 ·refine (HC0.out S _ _ _ G0.out (E0.out.below hbw) (by omega) (by omega)).mono ?_
  rw [sub_neg (by omega)]
  rintro e w1 ⟨rfl,hb1⟩
  go_wp2
  go_ret
  exact ⟨ret_int (a:=-1) (sub_neg (by have:=HB.out;omega)).symm,hbw.trans (hb1.mono hbw.size)⟩
 refine (HC0.out S _ _ _ G0.out (E0.out.below hbw) (by omega) (by omega)).mono ?_
 rw [sub_pos (by omega)]
 rintro e w1 ⟨rfl,hb1⟩
 obtain ⟨hc1,hf1⟩:=bcell hb1
 have hz1:w.heap.size < w1.heap.size:=(by have:=hb1.size;(try simp at this);omega)
 replace hbw:=hbw.trans (hb1.mono hbw.size)
 go_wp2_with fail
 by_cases q1:(left - (((r0.length+bulkRows r0):Nat):Int)) < ((r1.length+bulkRows r1):Nat)
 ·refine (HC1.out S _ _ _ G1.out (E1.out.below hbw) (by omega) (by omega)).mono ?_
  rw [sub_neg (by omega)]
  rintro e w2 ⟨rfl,hb2⟩
  go_wp2
  go_ret
  exact ⟨ret_int (a:=-1) (sub_neg (by have:=HB.out;omega)).symm,hbw.trans (hb2.mono hbw.size)⟩
 refine (HC1.out S _ _ _ G1.out (E1.out.below hbw) (by omega) (by omega)).mono ?_
 rw [sub_pos (by omega)]
 rintro e w2 ⟨rfl,hb2⟩
 obtain ⟨hc2,hf2⟩:=bcell hb2
 have hz2:w.heap.size < w2.heap.size:=(by have:=hb2.size;(try simp at this);omega)
 replace hbw:=hbw.trans (hb2.mono hbw.size)
 go_wp2
 go_ret
 exact ⟨ret_int (by have:=HB.out;rw [sub_pos (by omega)];omega),hbw⟩
set_option maxHeartbeats 1000000 in
theorem eqSorts_of (row:List C):eqSortsC row:=by
 intro S S' us us' w hok hv hv'
 obtain ⟨r0,r1,rfl,g0,g1⟩:=okRow_Sorts hok
 obtain ⟨v0,v1,rfl,e0,e1⟩:=repVals_Sorts hv
 obtain ⟨x0,x1,rfl,d0,d1⟩:=repVals_Sorts hv'
 have HC0:=Lib.hid (eqStringS_any r0)
 have HC1:=Lib.hid (eqSubS_any r1)
 have G0:=Lib.hid g0
 have G1:=Lib.hid g1
 clear g0 g1 hok
 have E0:=Lib.hid e0
 have D0:=Lib.hid d0
 have E1:=Lib.hid e1
 have D1:=Lib.hid d1
 clear hv hv' e0 d0 e1 d1
 have hbw:=((Below.refl w.heap.size w).alloc (Nat.le_refl _) (.cells #[v0,v1] 38)).alloc (by simp) (.cells #[x0,x1] 38)
 go_enter Tryz.func54,Tryz.ntmps54
 go_wp2_with fail
 refine (HC0.out S S' _ _ _ G0.out (E0.out.below hbw) (D0.out.below hbw)).mono ?_
 rintro e w1 ⟨rfl,hb1⟩
 obtain ⟨hc1,hf1⟩:=bcell hb1
 have hz1:w.heap.size+1 < w1.heap.size:=(by have:=hb1.size;(try simp at this);omega)
 have ha1:w.heap.size < w1.heap.size:=by omega
 replace hbw:=hbw.trans (hb1.mono hbw.size)
 go_wp2_with fail
 refine (HC1.out S S' _ _ _ G1.out (E1.out.below hbw) (D1.out.below hbw)).mono ?_
 rintro e w2 ⟨rfl,hb2⟩
 obtain ⟨hc2,hf2⟩:=bcell hb2
 have hz2:w.heap.size+1 < w2.heap.size:=(by have:=hb2.size;(try simp at this);omega)
 have ha2:w.heap.size < w2.heap.size:=by omega
 replace hbw:=hbw.trans (hb2.mono hbw.size)
 go_wp2
 go_ret
 exact ⟨rfl,hbw⟩
set_option maxHeartbeats 2000000 in
theorem toSorts_of (row:List C):toSortsC row:=by
 intro S us w hok hv hlen
 obtain ⟨r0,r1,rfl,g0,g1⟩:=okRow_Sorts hok
 obtain ⟨v0,v1,rfl,e0,e1⟩:=repVals_Sorts hv
 have HC0:=Lib.hid (toStringS_any r0)
 have HC1:=Lib.hid (toSubS_any r1)
 have G0:=Lib.hid g0
 have G1:=Lib.hid g1
 clear g0 g1 hok
 have E0:=Lib.hid e0
 have E1:=Lib.hid e1
 clear hv e0 e1
 have hl0:(r0.length+bulkRows r0)<=1048576:=by
  have e:(r0.length+bulkRows r0)<=bulkRow [.sl r0,.sl r1]:=by simp only [bulkRow,bulkC];omega
  exact Nat.le_trans e hlen
 have hl1:(r1.length+bulkRows r1)<=1048576:=by
  have e:(r1.length+bulkRows r1)<=bulkRow [.sl r0,.sl r1]:=by simp only [bulkRow,bulkC];omega
  exact Nat.le_trans e hlen
 clear hlen
 go_enter Tryz.func46,Tryz.ntmps46
 go_wp2_with fail
 refine (HC0.out S _ _ G0.out (by exact E0.out.below (by repeat (first | refine Below.alloc ?_ (by simp;try omega) _ | exact Below.refl _ _))) hl0).mono ?_
 rintro e w1 ⟨y0,rfl,hown0,hb1⟩
 obtain ⟨A0,n0,cap0,rfl,_,_,_⟩:=(Own.rep _ _ _ hown0).form
 have hz1:=hb1.size
 simp at hz1 hown0
 have HOWN0:=Lib.hid hown0
 clear hown0
 have hbw1:Below w.heap.size w w1:=Below.trans (by repeat (first | refine Below.alloc ?_ (by simp;try omega) _ | exact Below.refl _ _)) (hb1.mono (by simp;try omega))
 obtain ⟨hc1,hf1⟩:=bcell hb1
 have ha1:w.heap.size < w1.heap.size:=by omega
 have hbb1:w.heap.size+1 < w1.heap.size:=by omega
 have hcc1:w.heap.size+1+1 < w1.heap.size:=by omega
 go_wp2_with fail
 refine (HC1.out S _ _ G1.out (by exact E1.out.below (by repeat (first | refine Below.setCell ?_ (by simp;try omega) _ | exact hbw1))) hl1).mono ?_
 rintro e w2 ⟨y1,rfl,hown1,hb2⟩
 obtain ⟨A1,n1,cap1,rfl,_,_,_⟩:=(Own.rep _ _ _ hown1).form
 have hz2:=hb2.size
 simp at hz2 hown1
 have HOWN1:=Lib.hid hown1
 clear hown1
 have hbw2:Below w.heap.size w w2:=Below.trans (by repeat (first | refine Below.setCell ?_ (by simp;try omega) _ | exact hbw1)) (hb2.mono (by simp;try omega))
 obtain ⟨hc2,hf2⟩:=bcell hb2
 have ha2:w.heap.size < w2.heap.size:=by omega
 have hbb2:w.heap.size+1 < w2.heap.size:=by omega
 have hcc2:w.heap.size+1+1 < w2.heap.size:=by omega
 go_wp2
 refine bodyPost_ret (v:=.agg #[.slice A0 n0 cap0,.slice A1 n1 cap1]) (by simp [results,Tryz.results46,go_sem,hc1,ha1,hbb1,hcc1,hc2,ha2,hbb2,hcc2]) rfl ⟨[.slice A0 n0 cap0,.slice A1 n1 cap1],rfl,?_,(by repeat (first | refine Below.setCell ?_ (by simp;try omega) _ | exact hbw2))⟩
 simp
 exact (OwnVals.cons (fun x=>w.heap.size+1+1+1<=x∧x < w1.heap.size) (fun x=>w1.heap.size<=x∧x < w2.heap.size) (HOWN0.out.same (by repeat (first | refine Same.trans ?_ (Same.setCell _ _ _ _ (by simp;try omega)) | refine Same.trans ?_ ((Same.below hb2).mono (fun x hx=>by simp at hx ⊢;omega)) | exact Same.refl _ _))) (OwnVals.cons (fun x=>w1.heap.size<=x∧x < w2.heap.size) (fun x=>w2.heap.size<=x∧x < w2.heap.size) (HOWN1.out.same (by repeat (first | refine Same.trans ?_ (Same.setCell _ _ _ _ (by simp;try omega)) | exact Same.refl _ _))) OwnVals.nil (fun x hx=>⟨by omega,by omega⟩) (fun x hx=>⟨by omega,by omega⟩) (fun x hx hy=>by omega)) (fun x hx=>⟨by omega,by omega⟩) (fun x hx=>⟨by omega,by omega⟩) (fun x hx hy=>by omega))
theorem szSorts_any (row:List C):szSortsC row:=szSorts_of row
theorem eqSorts_any (row:List C):eqSortsC row:=eqSorts_of row
theorem toSorts_any (row:List C):toSortsC row:=toSorts_of row
theorem okRow_Int {r:List C} (h:okRow (fieldsOf .int) r):∃ x0:Int,r=[.lit (.int .i64 x0)]∧I64 x0:=by
 obtain ⟨c0,rfl⟩:=len1 h.len
 simp only [fieldsOf,okRow,and_true] at h
 have h0:=h
 obtain ⟨x0,rfl,g0⟩:=okC_int h0
 exact ⟨x0,rfl,g0⟩
def szIntSC (rows:List (List C)):Prop:=∀ (S:Nat->Prop) (v:Value) (left:Int) (w:World),okRows (fieldsOf .int) rows->Rep w S (.sl rows) v->0<=left->left<=1048576 ->
 Calls Tryz.prog 246 #[v,.int .i64 left] w fun e w'=>e=.returned (.int .i64 (sub left (rows.length+bulkRows rows)))∧Below w.heap.size w w'
def eqIntSC (rows:List (List C)):Prop:=∀ (S S':Nat->Prop) (v v':Value) (w:World),okRows (fieldsOf .int) rows->Rep w S (.sl rows) v->Rep w S' (.sl rows) v' ->
 Calls Tryz.prog 17 #[v,v'] w fun e w'=>e=.returned (.bool true)∧Below w.heap.size w w'
def toIntSC (rows:List (List C)):Prop:=∀ (S:Nat->Prop) (v:Value) (w:World),okRows (fieldsOf .int) rows->Rep w S (.sl rows) v->rows.length+bulkRows rows<=1048576 ->
 Calls Tryz.prog 13 #[v] w fun e w'=>∃ v',e=.returned v'∧Own w' (.sl rows) (fun x=>w.heap.size<=x∧x < w'.heap.size) v'∧Below w.heap.size w w'
theorem bulk_Int:∀ (rows:List (List C)),okRows (fieldsOf .int) rows->bulkRows rows=0
 | [],_=>by simp [bulkRows]
 | r::rs,h=>by
  obtain ⟨x0,rfl,_⟩:=okRow_Int h.1
  simp [bulkRows,bulkRow,bulkC,bulk_Int rs h.2]
set_option maxHeartbeats 1000000 in
theorem szIntS_any (rows:List (List C)):szIntSC rows:=by
 intro S v left w hok hv h0 h1
 obtain ⟨A,m,cap,rfl,hm,hmc,hcm⟩:=hv.form
 have hz:=bulk_Int rows hok
 rw [hz,hm]
 clear hv hm hok hz
 unfold maxLen at hcm
 by_cases hlt:left - m < 0
 ·rw [sub_neg (by omega)]
  go_enter Tryz.func246,Tryz.ntmps246
  go_wp2
  go_ret
  exact ⟨rfl,Below.refl _ _⟩
 ·rw [sub_pos (by omega)]
  go_enter Tryz.func246,Tryz.ntmps246
  go_wp2
  go_ret
  exact ⟨ret_int (by omega),Below.refl _ _⟩
set_option maxHeartbeats 1000000 in
theorem eqIntS_any (rows:List (List C)):eqIntSC rows:=by
 intro S S' v v' w hok hv hv'
 obtain ⟨A,m,cap,rfl,hm,hmc,hcm⟩:=hv.form
 obtain ⟨A',m',cap',rfl,hm',hmc',hcm'⟩:=hv'.form
 obtain rfl:m=m':=by omega
 have HV:=Lib.hid hv
 have HV':=Lib.hid hv'
 have HM:=Lib.hid hm
 have HOK:=Lib.hid hok
 clear hv hm hok hm' hv'
 unfold maxLen at hcm hcm'
 go_enter Tryz.func17,Tryz.ntmps17
 go_wp2
 go_loopw [5] (fun i wr=>∃ k:Nat,k<=m∧i=.int .i64 k∧Below w.heap.size w wr) (fun i _=>m - (intOf i).toNat)
 case atStart=>exact ⟨0,Nat.zero_le _,rfl,Below.refl _ _⟩
 case round =>
  obtain ⟨k,hk,rfl,hb⟩:=hrel
  by_cases hkm:k < m
  ·obtain ⟨b,off,r,rfl,hS,hbz,hget,hokr,hrow⟩:=(HV.out.below hb).get HOK.out hkm
   obtain ⟨b',off',r',rfl,hS',hbz',hget',hokr',hrow'⟩:=(HV'.out.below hb).get HOK.out hkm
   obtain rfl:r=r':=by rw [hget] at hget';exact Option.some.inj hget'
   obtain ⟨u0,c0,hvals⟩:=hrow.vals1 hokr.len
   obtain ⟨u1,d0,hvals'⟩:=hrow'.vals1 hokr.len
   obtain ⟨x0,rfl,g0⟩:=okRow_Int hokr
   simp only [RepVals,Rep.lit_iff,and_true] at hvals hvals'
   subst hvals
   subst hvals'
   clear hokr hokr' hrow hrow' hget hget' g0
   simp only [fieldsOf,List.length_cons,List.length_nil,Nat.reduceAdd,Nat.mul_one] at c0 d0
   have k0:(0:Int)<=(k:Int):=by omega
   have k1:(k:Int) < (m:Int):=by omega
   go_wp2_with fail
   go_quiet (fail)
   go_wp2
   go_roundw
   case rel=>exact ⟨k+1,by omega,by go_num,hb.trans (below_drewN (Below.refl _ _) _)⟩
   case measure=>simp [intOf];omega
  ·go_wp2
   go_ret
   exact ⟨rfl,hb⟩
theorem info_Int:(Tryz.prog.info? 3).map (fun i=>(i.zero,i.size,i.bytes))=some (some (.int .i64 0),1,8):=by kernel_rfl
set_option maxHeartbeats 1000000 in
theorem toIntS_any (rows:List (List C)):toIntSC rows:=by
 intro S v w hok hv hlen
 obtain ⟨A,m,cap,rfl,hm,hmc,hcm⟩:=hv.form
 obtain ⟨i0,hi,hz0,hz1,hz2⟩:=info_parts info_Int
 have HV:=Lib.hid hv
 have HM:=Lib.hid hm
 have HOK:=Lib.hid hok
 have hml:m<=1048576:=by omega
 clear hv hm hok
 unfold maxLen at hcm
 have hmk:=run_make (P:=Tryz.prog) w 29 3 i0 _ Tryz.underlying29 hi hz0 .i64 .i64 (m:Int) (m:Int) (by omega) (by omega) (by rw [hz2];omega) (by omega)
 go_enter Tryz.func13,Tryz.ntmps13
 go_wp2
 clear hmk
 go_loopw [4] (fun i wr=>∃ k:Nat,k<=m∧i=.int .i64 k∧Filling w w.heap.size 3 m 1 rows k wr) (fun i _=>m - (intOf i).toNat)
 case atStart=>exact ⟨0,Nat.zero_le _,rfl,Filling.start (by rw [size_madeCells];omega)⟩
 case round =>
  obtain ⟨k,hk,rfl,hfill⟩:=hrel
  have hb:=hfill.1
  by_cases hkm:k < m
  ·obtain ⟨b,off,r,rfl,hS,hbz,hget,hokr,hrow⟩:=(HV.out.below hb).get HOK.out hkm
   obtain ⟨u0,c0,hvals⟩:=hrow.vals1 hokr.len
   obtain ⟨x0,rfl,g0⟩:=okRow_Int hokr
   simp only [RepVals,Rep.lit_iff,and_true] at hvals
   subst hvals
   have HGET:=Lib.hid hget
   have HF:=Lib.hid hfill
   obtain ⟨cur,hcur,hcs⟩:=HF.out.row (Below.refl _ _)
   have HCUR:=Lib.hid hcur
   have HCS:=Lib.hid hcs
   clear hokr hrow hget hfill g0 hcur hcs
   simp only [fieldsOf,List.length_cons,List.length_nil,Nat.reduceAdd,Nat.mul_one] at c0
   go_wp2_with (refine wpList_store_put rfl 3 _ _ rfl w.heap.size k rfl [.int .i64 x0] rfl i0 hi hz1 3 cur HCUR.out (by have:=HCS.out;simp only [List.length_cons,List.length_nil];omega) (by simp [Value.oneCell']) ?_;intro w3 hput)
   go_roundw
   case rel=>exact ⟨k+1,by omega,by go_num,HF.out.step (fs:=fieldsOf .int) HOK.out HGET.out (Below.refl _ _) (OwnVals.lit OwnVals.nil) (by simpa [fieldsOf] using hput)⟩
   case measure=>simp [intOf];omega
  ·go_wp2
   go_ret
   have e:k=m:=by omega
   subst e
   exact ⟨_,rfl,hfill.done HM.out (by unfold maxLen;omega) (by decide) HOK.out.lens⟩
end Go.Proofs.YtffmjghcpgpfpaaGreatDoor
