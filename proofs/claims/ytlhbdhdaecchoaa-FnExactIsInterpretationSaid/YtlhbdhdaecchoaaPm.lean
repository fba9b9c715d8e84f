/-
  A plain machine over data trees: what the operations of a function do, told without memory. Definitions. No function of the program is named here.
-/
import Derived.Test.YtlhbdhdaecchoaaRegion
set_option linter.unusedSimpArgs false
set_option linter.unusedVariables false
namespace Go.Proofs.Ytlhbdhdaecchoaa
open Go.RowKit

/-- Below block B, but for the blocks of E, the world is as it was. -/
structure Kept (E : Nat → Prop) (B : Nat) (w w' : World) : Prop where
  os : w'.os = w.os
  tape : w'.tape = w.tape
  output : w'.output = w.output
  size : w.heap.size ≤ w'.heap.size
  block : ∀ k, k < B → ¬ E k → w'.heap[k]? = w.heap[k]?
theorem Kept.refl (E : Nat → Prop) (B : Nat) (w : World) : Kept E B w w := ⟨rfl, rfl, rfl, Nat.le_refl _, fun _ _ _ => rfl⟩
theorem Kept.trans {E : Nat → Prop} {B : Nat} {a b c : World} (h : Kept E B a b) (k : Kept E B b c) : Kept E B a c :=
  ⟨k.os.trans h.os, k.tape.trans h.tape, k.output.trans h.output, Nat.le_trans h.size k.size, fun i hi hE => (k.block i hi hE).trans (h.block i hi hE)⟩
theorem Kept.mono {E : Nat → Prop} {B B' : Nat} {w w' : World} (h : Kept E B w w') (hB : B' ≤ B) : Kept E B' w w' :=
  ⟨h.os, h.tape, h.output, h.size, fun k hk hE => h.block k (Nat.lt_of_lt_of_le hk hB) hE⟩
theorem Kept.of_below {E : Nat → Prop} {B : Nat} {w w' : World} (h : Below B w w') : Kept E B w w' := ⟨h.os, h.tape, h.output, h.size, fun k hk _ => h.block k hk⟩
theorem Kept.below {B : Nat} {w w' : World} (h : Kept (fun _ => False) B w w') : Below B w w' := ⟨h.os, h.tape, h.output, h.size, fun k hk => h.block k hk id⟩

/-- The program, the blocks that may turn, and what is kept of them. -/
structure Env where
  P : Program
  E : Nat → Prop
  G : World → Prop
structure Env.Ok (e : Env) : Prop where
  keep : ∀ w w' : World, w.heap.size ≤ w'.heap.size → (∀ b, e.E b → w'.heap[b]? = w.heap[b]?) → e.G w → e.G w'
  mixed : e.P.follows .mixedOrders = true

inductive D where
  | one (c : C)
  | agg (cs : List C)
  | elt (cs : List C)
inductive A where
  | undef
  | no
  | d (x : D)
  | tup (xs : List D)
  | ref (m off : Nat)

def DRel (w : World) (S : Nat → Prop) : D → Value → Prop
  | .one c, v => Rep w S c v
  | .agg cs, v => ∃ vs : List Value, v = .agg vs.toArray ∧ RepVals w S cs vs
  | .elt cs, v => ∃ b off, v = .pointer (some ⟨b, off, none⟩) ∧ S b ∧ b < w.heap.size ∧ RepRow w S b off cs
def DsRel (w : World) (S : Nat → Prop) : List D → List Value → Prop
  | [], [] => True
  | x :: xs, v :: vs => DRel w S x v ∧ DsRel w S xs vs
  | _, _ => False
def ARel (w : World) (S : Nat → Prop) (B : Nat → Nat) : A → Value → Prop
  | .undef, _ => True
  | .no, v => v = Go.undef
  | .d x, v => DRel w S x v
  | .tup xs, v => ∃ vs : List Value, v = .tuple vs.toArray ∧ DsRel w S xs vs
  | .ref m off, v => v = .pointer (some ⟨B m, off, none⟩)
def retA : List D → A
  | [x] => .d x
  | xs => .tup xs

def hasBody (P : Program) (f : FuncId) : Bool :=
  match P.funcs[f]? with
  | some fn => !(fn.name == "runtime.NumGoroutine") && fn.body.isSome
  | none => false
/-- What a call of a function gives, for data. -/
def Con (e : Env) (f : FuncId) (args r : List D) : Prop := hasBody e.P f = true ∧
  ∀ (w : World) (S : Nat → Prop) (vs : List Value), (∀ b, S b → b < w.heap.size ∧ ¬ e.E b) → (∀ b, e.E b → b < w.heap.size) → e.G w → DsRel w S args vs →
    Calls e.P f vs.toArray w fun en w' => ∃ v, en = .returned v ∧ Kept e.E w.heap.size w w' ∧ e.G w' ∧ ARel w' (fun b => S b ∨ (w.heap.size ≤ b ∧ b < w'.heap.size)) (fun _ => 0) (retA r) v

def toC : Value → C
  | .slice none 0 0 => .sl []
  | v => .lit v
inductive TK where
  | one
  | agg (n : Nat)
def isAggD : TypeDesc → Bool
  | .struct _ => true
  | .array _ _ => true
  | _ => false
def kindT (P : Program) (t : TypeId) : Option TK :=
  match P.underlying t, P.info? t with
  | some d, some i => if isAggD d then some (.agg i.size) else if i.size = 1 then some .one else none
  | _, _ => none
def offT (P : Program) (t : TypeId) (f : Nat) : Option (Nat × TypeId) :=
  match P.underlying t with
  | some (.struct fs) => match fs[f]? with
    | some g => match P.info? g.type with
      | some i => if i.size = 0 then none else some (g.offset, g.type)
      | none => none
    | none => none
  | _ => none
def elemT (P : Program) (t : TypeId) : Option Nat :=
  match P.underlying t with
  | some (.slice e) => (P.info? e).map (·.size)
  | _ => none
def lenT (P : Program) (ts : Array TypeId) : Option Bool :=
  match ts[0]? with
  | some t => match P.underlying t with
    | some (.slice _) => some true
    | some .string => some false
    | _ => none
  | none => none
def sizeT (P : Program) (t : TypeId) : Option Nat := (P.info? t).map (·.size)
def zeroT (P : Program) (t : TypeId) : Option (List C) := ((P.info? t).bind (·.zero)).map fun v => v.cells.toList.map toC

def valT : TK → List C → Option A
  | .one, c :: _ => some (.d (.one c))
  | .agg n, cs => if n ≤ cs.length then some (.d (.agg (cs.take n))) else none
  | _, _ => none

def gs : List (Nat × A) → Nat → A
  | [], _ => .undef
  | (k, a) :: r, t => if t = k then a else gs r t
def gm : List (Nat × List C) → Nat → Option (List C)
  | [], _ => none
  | (k, a) :: r, t => if t = k then some a else gm r t
structure St where
  s : List (Nat × A)
  m : List (Nat × List C)
def evA (s : List (Nat × A)) : Operand → A
  | .tmp t => gs s t
  | .const v => .d (.one (toC v))
  | .func f => .d (.one (.lit (.func (.func f) #[] #[])))
  | .global _ => .undef
def ptrA (m : List (Nat × List C)) : A → Option (List C)
  | .d (.elt cs) => some cs
  | .ref k off => (gm m k).map (·.drop off)
  | _ => none
def dsA : List A → Option (List D)
  | [] => some []
  | .d x :: r => (dsA r).map (x :: ·)
  | _ :: _ => none
def okCell : C → Bool
  | .lit v => v.oneCell'
  | .sl _ => true
def cellsA : A → Option (List C)
  | .d (.one c) => if okCell c then some [c] else none
  | .d (.agg cs) => if cs.all okCell then some cs else none
  | _ => none
def rowsLen (n : Nat) (rows : List (List C)) : Prop := ∀ r ∈ rows, r.length = n

def binV : BinOp → Value → Value → Option Value
  | .add, .int .i64 a, .int .i64 b => some (.int .i64 (IntKind.i64.wrap (a + b)))
  | .sub, .int .i64 a, .int .i64 b => some (.int .i64 (IntKind.i64.wrap (a - b)))
  | .mul, .int .i64 a, .int .i64 b => some (.int .i64 (IntKind.i64.wrap (a * b)))
  | .lss, .int .i64 a, .int .i64 b => some (.bool (decide (a < b)))
  | .leq, .int .i64 a, .int .i64 b => some (.bool (decide (a ≤ b)))
  | .gtr, .int .i64 a, .int .i64 b => some (.bool (decide (b < a)))
  | .geq, .int .i64 a, .int .i64 b => some (.bool (decide (b ≤ a)))
  | .eql, .int .i64 a, .int .i64 b => some (.bool (decide (a = b)))
  | .neq, .int .i64 a, .int .i64 b => some (.bool (!decide (a = b)))
  | .lss, .int .u8 a, .int .u8 b => some (.bool (decide (a < b)))
  | .leq, .int .u8 a, .int .u8 b => some (.bool (decide (a ≤ b)))
  | .gtr, .int .u8 a, .int .u8 b => some (.bool (decide (b < a)))
  | .geq, .int .u8 a, .int .u8 b => some (.bool (decide (b ≤ a)))
  | .eql, .int .u8 a, .int .u8 b => some (.bool (decide (a = b)))
  | .neq, .int .u8 a, .int .u8 b => some (.bool (!decide (a = b)))
  | .eql, .string a, .string b => some (.bool (a.toList == b.toList))
  | .neq, .string a, .string b => some (.bool (!(a.toList == b.toList)))
  | .lss, .string a, .string b => some (.bool (Go.Op.bytesLess a.toList b.toList))
  | _, _, _ => none
def boolT (t : Option TypeDesc) (v : Bool) : Option Value :=
  match t with
  | some .bool => some (.bool v)
  | _ => none
def binT (P : Program) (op : BinOp) (t : TypeId) (a b : Value) : Option Value :=
  match op, a, b with
  | .eql, .bool a, .bool b => boolT (P.underlying t) (a == b)
  | .neq, .bool a, .bool b => boolT (P.underlying t) (!(a == b))
  | op, a, b => binV op a b
def unV : UnOp → Value → Option Value
  | .not, .bool b => some (.bool (!b))
  | .neg, .int .i64 a => some (.int .i64 (IntKind.i64.wrap (0 - a)))
  | _, _ => none

/-- One operation that changes no memory: what it gives. -/
def popV (e : Env) (m : List (Nat × List C)) (ρ : Operand → A) (K : A → Prop) : Op → Prop
  | .move x => K (ρ x)
  | .assign x => K (ρ x)
  | .pick c a b => match ρ c with
    | .d (.one (.lit (.bool t))) => K (if t then ρ a else ρ b)
    | _ => False
  | .load t x => match kindT e.P t, ptrA m (ρ x) with
    | some k, some cs => match valT k cs with
      | some r => K r
      | none => False
    | _, _ => False
  | .fieldAddr t x f => match offT e.P t f, ρ x with
    | some (n, _), .d (.elt cs) => K (.d (.elt (cs.drop n)))
    | some (n, _), .ref k off => K (.ref k (off + n))
    | _, _ => False
  | .field t x f => match offT e.P t f, ρ x with
    | some (n, ft), .d (.agg cs) => match kindT e.P ft with
      | some k => match valT k (cs.drop n) with
        | some r => K r
        | none => False
      | none => False
    | _, _ => False
  | .indexAddr t x i => match elemT e.P t, ρ x, ρ i with
    | some n, .d (.one (.sl rows)), .d (.one (.lit (.int _ j))) => 0 ≤ j ∧ rowsLen n rows ∧ ∃ r, rows[j.toNat]? = some r ∧ K (.d (.elt r))
    | _, _, _ => False
  | .index t x i => match e.P.underlying t, ρ x, ρ i with
    | some .string, .d (.one (.lit (.string s))), .d (.one (.lit (.int _ j))) => 0 ≤ j ∧ ∃ b, s[j.toNat]? = some b ∧ K (.d (.one (.lit (.int .u8 b.toNat))))
    | _, _, _ => False
  | .binOp op t x y _ => match ρ x, ρ y with
    | .d (.one (.lit a)), .d (.one (.lit b)) => match binT e.P op t a b with
      | some v => K (.d (.one (.lit v)))
      | none => False
    | _, _ => False
  | .unOp op _ x => match ρ x with
    | .d (.one (.lit a)) => match unV op a with
      | some v => K (.d (.one (.lit v)))
      | none => False
    | _ => False
  | .extract x i => match ρ x with
    | .tup xs => match xs[i]? with
      | some r => K (.d r)
      | none => False
    | _ => False
  | .nilCheck x => match ρ x with
    | .d (.elt cs) => K (.d (.elt cs))
    | .ref k off => K (.ref k off)
    | _ => False
  | .call c => match c.callee with
    | .value (.func f) => match dsA (c.args.toList.map ρ) with
      | some xs => ∃ r, Con e f xs r ∧ K (retA r)
      | none => False
    | .builtin .len => match lenT e.P c.argTypes, c.args.toList.map ρ with
      | some true, [.d (.one (.sl rows))] => K (.d (.one (.lit (.int .i64 rows.length))))
      | some false, [.d (.one (.lit (.string s)))] => K (.d (.one (.lit (.int .i64 s.size))))
      | _, _ => False
    | _ => False
  | _ => False

def killR (k : Nat) : List (Nat × A) → List (Nat × A)
  | [] => []
  | (t, .ref k' off) :: r => (t, if k' = k then .undef else .ref k' off) :: killR k r
  | (t, a) :: r => (t, a) :: killR k r
def setA (s : List (Nat × A)) : Option Nat → A → List (Nat × A)
  | some d, a => (d, a) :: s
  | none, _ => s
/-- One operation in a place where the order is fixed. -/
def popE (e : Env) (σ : St) (o : Oper) (K : St → Prop) : Prop :=
  match o.op with
  | .alloc t => match o.dst, zeroT e.P t with
    | some d, some cs => K ⟨(d, .ref d 0) :: killR d σ.s, (d, cs) :: σ.m⟩
    | _, _ => False
  | .box _ x => match o.dst, cellsA (evA σ.s x) with
    | some d, some cs => K ⟨(d, .ref d 0) :: killR d σ.s, (d, cs) :: σ.m⟩
    | _, _ => False
  | .store t x y => match o.dst, evA σ.s x, cellsA (evA σ.s y), sizeT e.P t with
    | none, .ref k off, some us, some n => match gm σ.m k with
      | some cs => us.length = n ∧ off + n ≤ cs.length ∧ K ⟨σ.s, (k, cs.take off ++ us ++ cs.drop (off + n)) :: σ.m⟩
      | none => False
    | _, _, _, _ => False
  | op => popV e σ.m (evA σ.s) (fun α => K ⟨setA σ.s o.dst α, σ.m⟩) op
/-- The slot in which an operation's guard lies. -/
def guardSlot (ops : List Oper) (j : Nat) : Option Nat := (ops[j]?).bind (·.dst)
def pops (e : Env) (ops : List Oper) : List Oper → St → (St → Prop) → Prop
  | [], σ, K => K σ
  | o :: os, σ, K => match o.guard with
    | none => popE e σ o (fun σ' => pops e ops os σ' K)
    | some (j, want) => match (guardSlot ops j).map (gs σ.s) with
      | some (.d (.one (.lit (.bool b)))) => if b = want then popE e σ o (fun σ' => pops e ops os σ' K) else pops e ops os ⟨setA σ.s o.dst .no, σ.m⟩ K
      | some .no => pops e ops os ⟨setA σ.s o.dst .no, σ.m⟩ K
      | _ => False

def trimS (mask : Nat) : List (Nat × A) → List (Nat × A)
  | [] => []
  | (k, a) :: r => if mask.testBit k then (k, a) :: trimS mask r else trimS mask r
def weakS (s : List (Nat × A)) : List (Nat × A) → Prop
  | [] => True
  | (k, a) :: r => gs s k = a ∧ weakS s r
def weakM (m : List (Nat × List C)) : List (Nat × List C) → Prop
  | [] => True
  | (k, a) :: r => gm m k = some a ∧ weakM m r
inductive PX where
  | normal
  | exit (id : Nat)
  | ret

def pwp (e : Env) (mask : Nat) : Code → St → (PX → St → Prop) → Prop
  | .skip, σ, Q => Q .normal σ
  | .region _ ops _, σ, Q => pops e ops.toList ops.toList σ (fun σ' => Q .normal ⟨trimS mask σ'.s, σ'.m⟩)
  | .seq a b, σ, Q => pwp e mask a σ (fun x σ' => match x with
    | .normal => pwp e mask b σ' Q
    | x => Q x σ')
  | .cond c a b, σ, Q => match evA σ.s c with
    | .d (.one (.lit (.bool t))) => if t then pwp e mask a σ Q else pwp e mask b σ Q
    | _ => False
  | .block id c, σ, Q => pwp e mask c σ (fun x σ' => match x with
    | .exit j => if j = id then Q .normal σ' else Q (.exit j) σ'
    | x => Q x σ')
  | .loop c, σ, Q => ∃ (ι : Type) (st : ι → St) (ok : ι → Prop) (μ : ι → Nat) (x0 : ι), ok x0 ∧ weakS σ.s (st x0).s ∧ weakM σ.m (st x0).m ∧ ∀ x, ok x → pwp e mask c (st x) (fun p σ'' => match p with
    | .normal => ∃ y, ok y ∧ weakS σ''.s (st y).s ∧ weakM σ''.m (st y).m ∧ μ y < μ x
    | p => Q p σ'')
  | .exit id, σ, Q => Q (.exit id) σ
  | .ret, σ, Q => Q .ret σ
  | _, _, _ => False
end Go.Proofs.Ytlhbdhdaecchoaa
