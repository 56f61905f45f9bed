/- Part of a verified evaluator of the model's programs and of runs by it: EvDef EvRel EvMem EvQ1 EvQ2 EvQ3 EvQ4 EvQ5 EvQ6 EvQ7 EvQ8. -/
import GoSem.Dispatch
import GoSem.Machine.Return
import Derived.Below
import Derived.Laws.Append
import Derived.Laws.CopyRow
import Derived.Lib.FrozenHead
import Derived.Laws.Strings
import Derived.Laws.Concat
import Derived.Laws.StructEq
namespace Go.Ev
set_option linter.unusedSimpArgs false
set_option linter.unusedVariables false

/-! A trie over numbers, least digit first. -/
inductive Tree (α : Type) where
  | leaf
  | node (l : Tree α) (v : Option α) (r : Tree α)

namespace Tree
variable {α : Type}
def get : Tree α → Nat → Option α
  | .leaf, _ => none
  | .node l v r, i => bif Nat.beq i 0 then v else bif Nat.beq (i % 2) 1 then get l (i / 2) else get r (i / 2 - 1)

def set : Nat → Tree α → Nat → α → Tree α
  | 0, t, _, _ => t
  | f + 1, .leaf, i, x => bif Nat.beq i 0 then .node .leaf (some x) .leaf else bif Nat.beq (i % 2) 1 then .node (set f .leaf (i / 2) x) none .leaf else .node .leaf none (set f .leaf (i / 2 - 1) x)
  | f + 1, .node l v r, i, x => bif Nat.beq i 0 then .node l (some x) r else bif Nat.beq (i % 2) 1 then .node (set f l (i / 2) x) v r else .node l v (set f r (i / 2 - 1) x)
end Tree

/-- The trie's depth: numbers below 2^40 - 1. -/
def D : Nat := 40

inductive AObj where
  /-- n cells; kind 0: the call's own; 1: not written (of the world outside); 2: the call's own, maybe a string's bytes -/
  | cells (n : Nat) (c : Tree Value) (elem : TypeId) (kind : Nat)
  | map (es : List (Value × Value))
  | dead

structure Mem where
  t : Tree AObj
  next : Nat

def Mem.get (m : Mem) (b : Nat) : Option AObj := m.t.get b
def Mem.put (m : Mem) (b : Nat) (o : AObj) : Mem := { m with t := m.t.set (b + 1) b o }
def Mem.new (m : Mem) (o : AObj) : Mem := { t := m.t.set (m.next + 1) m.next o, next := m.next + 1 }

def ofListFrom (c : Tree Value) (i : Nat) : List Value → Tree Value
  | [] => c
  | v :: l => ofListFrom (c.set (i + 1) i v) (i + 1) l

/-- so many cells from i on; none: one is lacking. -/
def cellsFrom (c : Tree Value) (i : Nat) : Nat → Option (List Value)
  | 0 => some []
  | n + 1 => match c.get i with
    | none => none
    | some v => match cellsFrom c (i + 1) n with
      | none => none
      | some l => some (v :: l)

def oneCell : Value → Bool
  | .agg _ | .tuple _ => false
  | _ => true

def storeFrom (c : Tree Value) (i n : Nat) : List Value → Option (Tree Value)
  | [] => some c
  | v :: l => bif Nat.blt i n && oneCell v then storeFrom (c.set (i + 1) i v) (i + 1) n l else none

def cellsOf : Value → List Value
  | .agg ⟨l⟩ => l
  | v => [v]

structure Env where
  P : Program
  types : Tree TypeInfo
  funcs : Tree Func
  /-- struct types that == may be asked of -/
  eqs : List TypeId
  /-- calls whose answer is known -/
  known : List (Nat × List Value × Value) := []
  /-- what is known of operations on signs for values -/
  facts : List (BinOp × Value × Value × Value) := []

/-- is it a sign for a value? -/
def isTok : Value → Bool
  | .chan (some _) => true
  | _ => false

structure TI where
  desc : TypeDesc
  size : Nat

def Env.ti (E : Env) (t : TypeId) : Option TypeInfo := E.types.get t
def Env.under (E : Env) (t : TypeId) : Option TypeDesc :=
  match E.ti t with
  | none => none
  | some i => match i.desc with
    | .named _ u => match E.ti u with
      | none => none
      | some j => some j.desc
    | d => some d
def Env.size (E : Env) (t : TypeId) : Option Nat := match E.ti t with | none => none | some i => some i.size
def Env.zero (E : Env) (t : TypeId) : Option Value := match E.ti t with | none => none | some i => i.zero
def isAggD : TypeDesc → Bool
  | .struct _ | .array _ _ => true
  | _ => false

def rowD : TypeDesc → Bool
  | .slice _ | .string => true
  | _ => false

def size1 (E : Env) (e : TypeId) : Bool := match E.size e with | some k => Nat.beq k 1 | none => false

def loadAt (E : Env) (m : Mem) (t : TypeId) (b o : Nat) : Option Value :=
  match E.under t, m.get b with
  | some d, some (.cells n c _ _) =>
    bif isAggD d then
      match E.size t with
      | none => none
      | some k => bif Nat.ble (o + k) n then (match cellsFrom c o k with | none => none | some l => some (.agg ⟨l⟩)) else none
    else bif Nat.blt o n then c.get o else none
  | _, _ => none

def storeAt (E : Env) (m : Mem) (t : TypeId) (b o : Nat) (v : Value) : Option Mem :=
  match E.size t, m.get b with
  | some k, some (.cells n c e kd) =>
    bif Nat.beq (cellsOf v).length k && !(Nat.beq kd 1) then
      match storeFrom c o n (cellsOf v) with
      | none => none
      | some c' => some (m.put b (.cells n c' e kd))
    else none
  | _, _ => none

/-- a new block of these cells; none: too many. -/
def newCells (m : Mem) (e : TypeId) (kd : Nat) (l : List Value) : Option Mem :=
  bif Nat.ble l.length 1000000000 then some (m.new (.cells l.length (ofListFrom .leaf 0 l) e kd)) else none

def withAddr (m : Mem) (f : Addr → Value) : Option Mem → Option (Value × Mem)
  | none => none
  | some m' => some (f ⟨m.next, 0, none⟩, m')

/-- put a part's cells over others. -/
def splice (off : Nat) (v l : List Value) : List Value :=
  match off, l with
  | 0, l => over v l
  | _ + 1, [] => []
  | o + 1, x :: l => x :: splice o v l
where
  over : List Value → List Value → List Value
    | [], l => l
    | _ :: _, [] => []
    | a :: v, _ :: l => a :: over v l

def fill (place : Nat → Option (Nat × Nat)) : List Value → List (Nat × Value) → Option (List Value)
  | cells, [] => some cells
  | cells, (i, v) :: rest =>
    match place i with
    | none => none
    | some (off, size) =>
      bif Nat.beq (cellsOf v).length size && Nat.ble (off + size) cells.length then fill place (splice off (cellsOf v) cells) rest else none

def places (E : Env) : List Field → Option (List (Nat × Nat))
  | [] => some []
  | f :: fs => match E.size f.type, places E fs with
    | some k, some l => some ((f.offset, k) :: l)
    | _, _ => none

def nth {α : Type} : List α → Nat → Option α
  | [], _ => none
  | x :: _, 0 => some x
  | _ :: l, n + 1 => nth l n

def repeatList (z : List Value) : Nat → List Value
  | 0 => []
  | n + 1 => z ++ repeatList z n

abbrev Rho := Operand → Value

def intEq (a b : Int) : Bool := decide (a = b)

def wrap64 (k : IntKind) (n : Int) : Int := k.wrap n

def intOp (op : BinOp) (k : IntKind) (a b : Int) : Option Value :=
  match op with
  | .add => some (.int k (k.wrap (a + b)))
  | .sub => some (.int k (k.wrap (a - b)))
  | .mul => some (.int k (k.wrap (a * b)))
  | .quo => if b = 0 then none else some (.int k (k.wrap (a.tdiv b)))
  | .rem => if b = 0 then none else some (.int k (a.tmod b))
  | .eql => some (.bool (a == b))
  | .neq => some (.bool (a != b))
  | .lss => some (.bool (a < b))
  | .leq => some (.bool (a ≤ b))
  | .gtr => some (.bool (a > b))
  | .geq => some (.bool (a ≥ b))
  | .and => some (.int k (k.wrap (BitVec.ofInt k.bits a &&& BitVec.ofInt k.bits b).toNat))
  | .or => some (.int k (k.wrap (BitVec.ofInt k.bits a ||| BitVec.ofInt k.bits b).toNat))
  | .xor => some (.int k (k.wrap (BitVec.ofInt k.bits a ^^^ BitVec.ofInt k.bits b).toNat))
  | .andNot => some (.int k (k.wrap (BitVec.ofInt k.bits a &&& ~~~(BitVec.ofInt k.bits b)).toNat))
  | _ => none

def shiftOp (op : BinOp) (k : IntKind) (a b : Int) : Option Value :=
  if b < 0 then none else
  match op with
  | .shl => some (.int k (k.wrap (a * 2 ^ (min b.toNat k.bits))))
  | .shr => some (.int k (a.fdiv (2 ^ (min b.toNat k.bits))))
  | _ => none

def bytesEq : List UInt8 → List UInt8 → Bool
  | [], [] => true
  | a :: l, b :: r => bif Nat.beq a.toNat b.toNat then bytesEq l r else false
  | _, _ => false

def bytesLt : List UInt8 → List UInt8 → Bool
  | _, [] => false
  | [], _ :: _ => true
  | a :: x, b :: y => bif Nat.blt a.toNat b.toNat then true else bif Nat.beq a.toNat b.toNat then bytesLt x y else false

def strOp (op : BinOp) (x y : List UInt8) : Option Value :=
  match op with
  | .add => bif Nat.ble (x.length + y.length) 4611686018427387904 then some (.string ⟨⟨x ++ y⟩⟩) else none
  | .eql => some (.bool (bytesEq x y))
  | .neq => some (.bool !(bytesEq x y))
  | .lss => some (.bool (bytesLt x y))
  | .leq => some (.bool (bytesLt x y || bytesEq x y))
  | .gtr => some (.bool !(bytesLt x y || bytesEq x y))
  | .geq => some (.bool !(bytesLt x y))
  | _ => none

/-- may the block be a string's bytes? -/
def notStr (m : Mem) (b : Nat) : Bool :=
  match m.get b with
  | some (.cells _ _ _ 0) => true
  | _ => false

def eqPtr (E : Env) (m : Mem) (t : TypeId) (x y : Value) : Option Bool :=
  match E.under t, x, y with
  | some (.pointer _), .pointer none, .pointer none => some true
  | some (.pointer _), .pointer none, .pointer (some _) => some false
  | some (.pointer _), .pointer (some _), .pointer none => some false
  | some (.pointer e), .pointer (some a), .pointer (some b) =>
    match E.size e with
    | some (_ + 1) =>
      bif Nat.beq a.block b.block then (if a.spot = none ∧ b.spot = none then some (Nat.beq a.off b.off) else none)
      else bif notStr m a.block && notStr m b.block then some false else none
    | _ => none
  | some (.slice _), .slice none _ _, .slice none _ _ => some true
  | some (.slice _), .slice none _ _, .slice (some _) _ _ => some false
  | some (.slice _), .slice (some _) _ _, .slice none _ _ => some false
  | some (.map _ _), .map none, .map none => some true
  | some (.map _ _), .map none, .map (some _) => some false
  | some (.map _ _), .map (some _), .map none => some false
  | some (.func _ _ _), .nilFunc, .nilFunc => some true
  | some (.func _ _ _), .nilFunc, .func _ _ _ => some false
  | some (.func _ _ _), .func _ _ _, .nilFunc => some false
  | _, _, _ => none

/-- structs of plain fields of one cell each: field by field; none: not taken. -/
def eqFlds (E : Env) : Nat → List Field → List Value → List Value → Option Bool
  | _, [], [], [] => some true
  | i, f :: fs, x :: l, y :: r =>
    bif Nat.beq f.offset i && (f.name != "_") then
      match E.under f.type, x, y with
      | some .bool, .bool a, .bool b => bif a == b then eqFlds E (i + 1) fs l r else some false
      | some (.int _), .int k a, .int k' b => if k = k' then (bif a == b then eqFlds E (i + 1) fs l r else some false) else none
      | some .string, .string ⟨⟨a⟩⟩, .string ⟨⟨b⟩⟩ => bif bytesEq a b then eqFlds E (i + 1) fs l r else some false
      | _, _, _ => none
    else none
  | _, _, _, _ => none

def eqAny (E : Env) (m : Mem) (t : TypeId) (x y : Value) : Option Bool :=
  match x, y with
  | .bool a, .bool b => match E.under t with | some .bool => some (a == b) | _ => none
  | .agg ⟨a⟩, .agg ⟨b⟩ =>
    match E.under t with
    | some (.struct fs) => bif E.eqs.any (Nat.beq t) then eqFlds E 0 fs.toList a b else none
    | _ => none
  | _, _ => eqPtr E m t x y

def binOp0 (E : Env) (m : Mem) (op : BinOp) (t : TypeId) (x y : Value) : Option Value :=
  match op, x, y with
  | .shl, .int k a, .int _ b | .shr, .int k a, .int _ b => shiftOp op k a b
  | _, .int k a, .int k' b => if k = k' then intOp op k a b else none
  | _, .string ⟨⟨a⟩⟩, .string ⟨⟨b⟩⟩ => strOp op a b
  | .eql, x, y => match eqAny E m t x y with | none => none | some r => some (.bool r)
  | .neq, x, y => match eqAny E m t x y with | none => none | some r => some (.bool (!r))
  | _, _, _ => none

def bytesSame : Value → Value → Bool
  | .bool a, .bool b => a == b
  | .int k a, .int k' b => decide (k = k') && decide (a = b)
  | .string ⟨⟨a⟩⟩, .string ⟨⟨b⟩⟩ => bytesEq a b
  | .chan (some n), .chan (some n') => Nat.beq n n'
  | _, _ => false

def factOf : List (BinOp × Value × Value × Value) → BinOp → Value → Value → Option Value
  | [], _, _, _ => none
  | (op', x', y', r) :: l, op, x, y => bif decide (op' = op) && (bytesSame x' x && bytesSame y' y) then some r else factOf l op x y

def binOp (E : Env) (m : Mem) (op : BinOp) (t : TypeId) (x y : Value) : Option Value :=
  match (bif isTok x || isTok y then factOf E.facts op x y else none) with
  | some r => some r
  | none => binOp0 E m op t x y

def argsSame : List Value → List Value → Bool
  | [], [] => true
  | a :: l, b :: r => bytesSame a b && argsSame l r
  | _, _ => false

def knownOf : List (Nat × List Value × Value) → Nat → List Value → Option Value
  | [], _, _ => none
  | (g, as, v) :: l, f, args => bif Nat.beq g f && argsSame as args then some v else knownOf l f args

def unOp (op : UnOp) (x : Value) : Option Value :=
  match op, x with
  | .neg, .int k n => some (.int k (k.wrap (0 - n)))
  | .not, .bool b => some (.bool !b)
  | _, _ => none

def bytesOfCells : List Value → Option (List UInt8)
  | [] => some []
  | .int .u8 n :: l => match bytesOfCells l with | none => none | some r => some (UInt8.ofNat n.toNat :: r)
  | _ => none

def cellsOfBytes : List UInt8 → List Value
  | [] => []
  | b :: l => .int .u8 b.toNat :: cellsOfBytes l

/-- a bound of a slice expression. -/
def bound (ρ : Rho) (d : Nat) : Option Operand → Option Nat
  | none => some d
  | some v => match ρ v with
    | .int _ (.ofNat n) => some n
    | _ => none

/-- the value of an operation that changes no memory; none: not taken. -/
def quiet (E : Env) (m : Mem) (ρ : Rho) (o : Op) : Option Value :=
  match o with
  | .move x | .assign x => some (ρ x)
  | .pick c a b => match ρ c with | .bool true => some (ρ a) | .bool false => some (ρ b) | _ => none
  | .load t a => match ρ a with | .pointer (some ⟨b, o, none⟩) => loadAt E m t b o | _ => none
  | .nilCheck x => match ρ x with | .pointer (some a) => some (.pointer (some a)) | _ => none
  | .binOp op t x y _ => binOp E m op t (ρ x) (ρ y)
  | .unOp op _ x => unOp op (ρ x)
  | .extract x i => match ρ x with | .tuple ⟨l⟩ => nth l i | _ => none
  | .build t parts =>
    match E.zero t, E.under t with
    | some z, some (.struct fs) => match places E fs.toList with
      | none => none
      | some pl => match fill (nth pl) (cellsOf z) (parts.toList.map fun p => (p.1, ρ p.2)) with
        | none => none
        | some l => some (.agg ⟨l⟩)
    | some z, some (.array _ e) => match E.size e with
      | none => none
      | some k => match fill (fun i => some (i * k, k)) (cellsOf z) (parts.toList.map fun p => (p.1, ρ p.2)) with
        | none => none
        | some l => some (.agg ⟨l⟩)
    | _, _ => none
  | .fieldAddr s x f =>
    match E.under s, ρ x with
    | some (.struct fs), .pointer (some ⟨b, o, none⟩) => match nth fs.toList f with
      | none => none
      | some fd => match E.size fd.type with
        | some (_ + 1) => some (.pointer (some ⟨b, o + fd.offset, none⟩))
        | _ => none
    | _, _ => none
  | .indexAddr t x i =>
    match E.under t, ρ x, ρ i with
    | some (.slice e), .slice (some ⟨b, o, none⟩) len _, .int _ (.ofNat i) =>
      bif Nat.blt i len then (match E.size e with | some k => some (.pointer (some ⟨b, o + i * k, none⟩)) | none => none) else none
    | some (.array len e), .pointer (some ⟨b, o, none⟩), .int _ (.ofNat i) =>
      bif Nat.blt i len then (match E.size e with | some k => some (.pointer (some ⟨b, o + i * k, none⟩)) | none => none) else none
    | _, _, _ => none
  | .index t x i =>
    match E.under t, ρ x, ρ i with
    | some .string, .string ⟨⟨s⟩⟩, .int _ (.ofNat i) => match nth s i with | some b => some (.int .u8 b.toNat) | none => none
    | some (.array len e), .agg ⟨l⟩, .int _ (.ofNat i) =>
      bif Nat.blt i len then
        match E.size e, E.under e with
        | some 1, some d => bif isAggD d then none else nth l i
        | some k, some d => bif isAggD d then some (.agg ⟨(l.drop (i * k)).take k⟩) else none
        | _, _ => none
      else none
    | _, _, _ => none
  | .field t x f =>
    match E.under t, ρ x with
    | some (.struct fs), .agg ⟨l⟩ => match nth fs.toList f with
      | none => none
      | some fd => match E.size fd.type, E.under fd.type with
        | some k, some d => bif isAggD d then some (.agg ⟨(l.drop fd.offset).take k⟩) else nth l fd.offset
        | _, _ => none
    | _, _ => none
  | .slice t x lo hi mx =>
    match mx, E.under t, ρ x with
    | none, some .string, .string ⟨⟨s⟩⟩ =>
      match bound ρ 0 lo, bound ρ s.length hi with
      | some l, some h => bif Nat.ble l h && Nat.ble h s.length then some (.string ⟨⟨(s.drop l).take (h - l)⟩⟩) else none
      | _, _ => none
    | none, some (.slice e), .slice none 0 0 =>
      match bound ρ 0 lo, bound ρ 0 hi with
      | some 0, some 0 => (match E.size e with | some _ => some (.slice none 0 0) | none => none)
      | _, _ => none
    | none, some (.slice e), .slice (some ⟨b, o, none⟩) len cap =>
      match bound ρ 0 lo, bound ρ len hi with
      | some l, some h => bif Nat.ble l h && Nat.ble h cap then
          (bif Nat.beq l 0 || Nat.blt l cap then (match E.size e with | some k => some (.slice (some ⟨b, o + l * k, none⟩) (h - l) (cap - l)) | none => none)
           else match E.size e with | some _ => some (.slice (some ⟨b, o, some 0⟩) 0 0) | none => none) else none
      | _, _ => none
    | none, some (.slice e), .slice (some ⟨b, o, some s⟩) 0 0 =>
      match bound ρ 0 lo, bound ρ 0 hi with
      | some 0, some 0 => (match E.size e with | some _ => some (.slice (some ⟨b, o, some s⟩) 0 0) | none => none)
      | _, _ => none
    | _, _, _ => none
  | .makeFunc fn first captured => some (.func fn ⟨first.toList.map ρ⟩ ⟨captured.toList.map ρ⟩)
  | .convert s d x =>
    match E.under s, E.under d, ρ x with
    | some _, some (.int k), .int _ n => some (.int k (k.wrap n))
    | some _, some .string, .string s => some (.string s)
    | some (.slice e), some .string, .slice none _ _ => (match E.under e with | some (.int .u8) => some (.string ⟨⟨[]⟩⟩) | _ => none)
    | some (.slice e), some .string, .slice (some ⟨b, o, none⟩) len _ =>
      match E.under e, m.get b with
      | some (.int .u8), some (.cells n c _ _) => bif Nat.ble (o + len) n then (match cellsFrom c o len with | none => none | some l => match bytesOfCells l with | none => none | some r => some (.string ⟨⟨r⟩⟩)) else none
      | _, _ => none
    | _, _, _ => none
  | .lookup t x i ok =>
    match E.under t, ρ x with
    | some (.map kt et), mv =>
      match (match mv with | .map none => some [] | .map (some r) => (match m.get r with | some (.map es) => some es | _ => none) | _ => none), E.zero et with
      | some es, some z => match find E m kt (ρ i) es with
        | none => none
        | some r => some (match r with
          | some v => (bif ok then .tuple ⟨[v, .bool true]⟩ else v)
          | none => (bif ok then .tuple ⟨[z, .bool false]⟩ else z))
      | _, _ => none
    | _, _ => none
  | .call c =>
    match c.callee with
    | .builtin .len => match c.argTypes.toList, c.args.toList with
      | [t], [x] => match E.under t, ρ x with
        | some .string, .string ⟨⟨s⟩⟩ => some (.int .i64 s.length)
        | some (.slice _), .slice _ n _ => some (.int .i64 n)
        | some (.array n _), _ => some (.int .i64 n)
        | some (.map _ _), .map none => some (.int .i64 0)
        | some (.map _ _), .map (some r) => (match m.get r with | some (.map es) => some (.int .i64 es.length) | _ => none)
        | _, _ => none
      | _, _ => none
    | .builtin .max => match c.args.toList with
      | [x, y] => (match ρ x, ρ y with | .int k a, .int _ b => some (.int k (if b > a then b else a)) | _, _ => none)
      | _ => none
    | .builtin .min => match c.args.toList with
      | [x, y] => (match ρ x, ρ y with | .int k a, .int _ b => some (.int k (if b < a then b else a)) | _, _ => none)
      | _ => none
    | _ => none
  | _ => none
where
  find (E : Env) (m : Mem) (kt : TypeId) (k : Value) : List (Value × Value) → Option (Option Value)
    | [] => bif keyOk E kt k then some none else none
    | (k', v) :: es => match eqKey E m kt k k' with
      | none => none
      | some true => some (some v)
      | some false => find E m kt k es
  keyOk (E : Env) (kt : TypeId) (k : Value) : Bool :=
    match E.under kt, k with
    | some (.int _), .int _ _ => true
    | some .string, .string _ => true
    | some (.pointer _), .pointer _ => true
    | _, _ => false
  eqKey (E : Env) (m : Mem) (kt : TypeId) (x y : Value) : Option Bool :=
    match E.under kt, x, y with
    | some (.int _), .int k a, .int k' b => if k = k' then some (a == b) else none
    | some .string, .string ⟨⟨a⟩⟩, .string ⟨⟨b⟩⟩ => some (bytesEq a b)
    | some (.pointer _), .pointer a, .pointer b => eqPtr E m kt (.pointer a) (.pointer b)
    | _, _, _ => none

/-- operations that make memory, and change none that stands. -/
def allocs (E : Env) (m : Mem) (ρ : Rho) (o : Op) : Option (Value × Mem) :=
  match o with
  | .alloc e => match E.zero e with
    | none => none
    | some z => withAddr m (fun a => .pointer (some a)) (newCells m e 0 (cellsOf z))
  | .box e x => withAddr m (fun a => .pointer (some a)) (newCells m e 0 (cellsOf (ρ x)))
  | .buildSlice t len parts =>
    match E.under t with
    | some (.slice e) => match E.size e, E.zero e with
      | some k, some z =>
        bif Nat.ble (len * k) 10000000 && Nat.beq (cellsOf z).length k then
          match fill (fun i => some (i * k, k)) (repeatList (cellsOf z) len) (parts.toList.map fun p => (p.1, ρ p.2)) with
          | none => none
          | some l => withAddr m (fun a => .slice (some a) len len) (newCells m e 0 l)
        else none
      | _, _ => none
    | _ => none
  | .makeSlice t l c =>
    match E.under t, ρ l, ρ c with
    | some (.slice e), .int .i64 (.ofNat l), .int .i64 (.ofNat c) => match E.ti e with
      | none => none
      | some i => match i.zero with
        | some z => bif Nat.ble l c && Nat.ble (c * i.bytes) 1000000000 && Nat.blt c 1000000000 && Nat.beq (cellsOf z).length i.size then withAddr m (fun a => .slice (some a) l c) (newCells m e 0 (repeatList (cellsOf z) c)) else none
        | none => none
    | _, _, _ => none
  | .makeMap _ none => some (.map (some m.next), m.new (.map []))
  | _ => none

/-- operations that change memory. -/
def effect (E : Env) (m : Mem) (ρ : Rho) (o : Op) : Option (Value × Mem) :=
  match o with
  | .store t a x => match ρ a with
    | .pointer (some ⟨b, o, none⟩) => match storeAt E m t b o (ρ x) with | none => none | some m' => some (undef, m')
    | _ => none
  | .mapUpdate t mp k x | .insert t mp k x =>
    match E.under t, ρ mp with
    | some (.map kt _), .map (some r) => match m.get r with
      | some (.map es) => match upd E m kt (ρ k) (ρ x) es with
        | none => none
        | some es' => some (undef, m.put r (.map es'))
      | _ => none
    | _, _ => none
  | .convert s d x =>
    match ρ x with
    | .slice (some ⟨b, o, none⟩) len cap =>
      match E.under s, E.under d with
      | some (.slice _), some (.slice e) => match E.under e, m.get b with
        | some (.int .u8), some (.cells n c el kd) => bif Nat.beq s d && !(Nat.beq kd 1) then some (.slice (some ⟨b, o, none⟩) len cap, m.put b (.cells n c el 2)) else none
        | _, _ => none
      | _, _ => none
    | .string ⟨⟨str⟩⟩ => match E.under s, E.under d with
      | some _, some (.slice e) => match E.under e with
        | some (.int .u8) => bif size1 E e then withAddr m (fun a => .slice (some a) str.length str.length) (newCells m e 2 (cellsOfBytes str)) else none
        | _ => none
      | _, _ => none
    | _ => none
  | .call c =>
    match c.callee with
    | .builtin .append => match c.argTypes.toList, c.args.toList with
      | [t, u], [x, y] => match E.under t, E.under u with
        | some (.slice e), some du =>
          bif !(rowD du) then none else
          match E.ti e with
          | none => none
          | some i => match i.zero with
            | none => none
            | some z => bif Nat.beq (cellsOf z).length i.size then
                match cellsIn m i.size (ρ y) with
                | none => none
                | some (k, new) => append m e i.size i.bytes (ρ x) k new
              else none
        | _, _ => none
      | _, _ => none
    | _ => none
  | _ => none
where
  upd (E : Env) (m : Mem) (kt : TypeId) (k x : Value) : List (Value × Value) → Option (List (Value × Value))
    | [] => bif quiet.keyOk E kt k then some [(k, x)] else none
    | (k', v) :: es => match quiet.eqKey E m kt k k' with
      | none => none
      | some true => some ((k, x) :: es)
      | some false => match upd E m kt k x es with | none => none | some r => some ((k', v) :: r)
  cellsIn (m : Mem) (size : Nat) : Value → Option (Nat × List Value)
    | .slice none n _ => bif Nat.beq n 0 then some (0, []) else none
    | .slice (some ⟨_, _, some _⟩) n _ => bif Nat.beq n 0 then some (0, []) else none
    | .slice (some ⟨b, o, none⟩) n _ => match m.get b with
      | some (.cells k c _ _) => bif Nat.ble (o + n * size) k then (match cellsFrom c o (n * size) with | none => none | some l => some (n, l)) else none
      | _ => none
    | .string ⟨⟨s⟩⟩ => bif Nat.beq size 1 then some (s.length, cellsOfBytes s) else none
    | _ => none
  append (m : Mem) (e : TypeId) (size bytes : Nat) (x : Value) (k : Nat) (new : List Value) : Option (Value × Mem) :=
    match x with
    | .slice none n c =>
      bif Nat.beq n 0 && Nat.beq c 0 && Nat.ble (k * bytes) 1000000000 && Nat.ble k 1000000000 then
        bif Nat.beq k 0 then some (.slice none 0 0, m) else withAddr m (fun a => .slice (some a) k k) (newCells m e 0 new)
      else none
    | .slice (some ⟨b, o, none⟩) n cap =>
      match m.get b with
      | some (.cells nc c el kd) =>
        bif Nat.beq kd 1 then none else
        bif Nat.ble (n + k) cap then
          match storeFrom c (o + n * size) nc new with
          | none => none
          | some c' => some (.slice (some ⟨b, o, none⟩) (n + k) cap, m.put b (.cells nc c' el kd))
        else bif Nat.ble n cap && Nat.ble (cap * size) nc && Nat.beq el e && Nat.beq o 0 && Nat.ble ((n + k) * bytes) 1000000000 && Nat.ble (n + k) 1000000000 && Nat.ble ((n + k) * size) 1000000000 && new.all oneCell then
          -- the old block ends; the new one bears its first cells and the new ones
          some (.slice (some ⟨m.next, 0, none⟩) (n + k) (n + k), (m.put b .dead).new (.cells ((n + k) * size) (ofListFrom c (n * size) new) e kd))
        else none
      | _ => none
    | _ => none

/-! Functions, regions, code. -/

structure Act where
  tmps : Tree Value
  n : Nat
  defers : List (Nat × List Value)
  m : Mem

def Act.tmp (a : Act) (t : Nat) : Value := match a.tmps.get t with | some v => v | none => undef

def Act.eval (a : Act) : Operand → Value
  | .tmp t => a.tmp t
  | .const v => v
  | .global g => .pointer (some ⟨g, 0, none⟩)
  | .func f => .func (.func f) #[] #[]

def Act.put (a : Act) (dst : Option Tmp) (v : Value) : Option Act :=
  match dst with
  | none => some a
  | some d => bif Nat.blt d a.n then some { a with tmps := a.tmps.set (d + 1) d v } else none

inductive Ex where
  | normal | exit (id : Nat) | ret | goto (l : Nat)

/-- jumps within a scope. -/
def jumps (run : Code → Act → Option (Ex × Act)) (body : Code) : Nat → Option (Ex × Act) → Option (Ex × Act)
  | 0, _ => none
  | k + 1, r => match r with
    | some (.goto l, a) => match findLabel body l with
      | some rest => jumps run body k (run rest a)
      | none => some (.goto l, a)
    | r => r

abbrev CallFn := Nat → List Value → Mem → Option (Value × Mem)

def target (ρ : Rho) (c : Call) : Option (Nat × List Value) :=
  match c.callee with
  | .value f => match ρ f with
    | .func (.func g) ⟨first⟩ ⟨cap⟩ => some (g, first ++ c.args.toList.map ρ ++ cap)
    | _ => none
  | _ => none

/-- what an operation that is no call does: the kind: 0 quiet, 1 makes memory, 2 changes it. -/
def plainOp (E : Env) (m : Mem) (ρ : Rho) (o : Op) : Option (Nat × Value × Mem) :=
  match quiet E m ρ o with
  | some v => some (0, v, m)
  | none => match allocs E m ρ o with
      | some (v, m') => some (1, v, m')
      | none => match effect E m ρ o with
        | some (v, m') => some (2, v, m')
        | none => none

/-- one operation that is wanted. -/
def oper (E : Env) (call : CallFn) (a : Act) (o : Oper) : Option (Nat × Act) :=
  match plainOp E a.m a.eval o.op with
  | some (k, v, m') => match ({ a with m := m' } : Act).put o.dst v with | none => none | some a' => some (k, a')
  | none => match o.op with
    | .call c => match target a.eval c with
      | none => none
      | some (g, args) => match call g args a.m with
        | none => none
        | some (v, m') => match ({ a with m := m' } : Act).put o.dst v with | none => none | some a' => some (2, a')
    | .defer c => match target a.eval c with
      | none => none
      | some d => match ({ a with defers := d :: a.defers } : Act).put o.dst undef with | none => none | some a' => some (2, a')
    | _ => none

/-- is a guarded operation wanted? -/
def wanted (a : Act) (ops : List Oper) (o : Oper) : Bool :=
  match o.guard with
  | none => true
  | some (j, want) => match nth ops j with
    | none => false
    | some oj => match oj.dst with
      | none => false
      | some d => match a.tmp d with
        | .bool b => b == want
        | _ => false

/-- an operation, wanted or not; the kind. -/
def stepOp (E : Env) (call : CallFn) (all : List Oper) (a : Act) (o : Oper) : Option (Nat × Act) :=
  bif wanted a all o then oper E call a o else match a.put o.dst undef with | none => none | some a' => some (0, a')

def opers (E : Env) (call : CallFn) (all : List Oper) : List Oper → Act → Option Act
  | [], a => some a
  | o :: l, a => match stepOp E call all a o with
    | none => none
    | some (_, a') => opers E call all l a'

/-! A region that draws its order: it is gone through in one order, and held against all others. -/

/-- an operation with its number, and all that must be ahead of it as bits. -/
structure Ent where
  i : Nat
  o : Oper
  mask : Nat

def depsIn : List Edge → List Nat
  | [] => []
  | e :: l => bif Region.binds .any e then e.on :: depsIn l else depsIn l
def depsOf (o : Oper) : List Nat := depsIn o.after.toList

def maskOf (ms : List Nat) : List Nat → Nat
  | [] => 0
  | d :: l => (2 ^ d ||| (match nth ms d with | some x => x | none => 0)) ||| maskOf ms l

/-- of all operations: the bits of what must be ahead. -/
def masks : List Nat → List Oper → List Nat
  | ms, [] => ms
  | ms, o :: l => masks (ms ++ [maskOf ms (depsOf o)]) l

def isAl : Op → Bool
  | .alloc _ | .box .. | .buildSlice .. | .makeSlice .. | .makeMap .. => true
  | _ => false

def isEff (E : Env) : Op → Bool
  | .move _ | .assign _ | .pick .. | .load .. | .nilCheck _ | .binOp .. | .unOp .. | .extract .. | .build .. | .fieldAddr .. | .indexAddr .. | .index .. | .field .. | .slice .. | .makeFunc .. | .lookup .. => false
  | .alloc _ | .box .. | .buildSlice .. | .makeSlice .. | .makeMap .. => false
  | .convert _ d _ => match E.under d with | some (.slice _) => true | _ => false
  | .call c => match c.callee with | .builtin .len | .builtin .max | .builtin .min => false | _ => true
  | _ => true

def tmpIn (t : Nat) : List Operand → Bool
  | [] => false
  | .tmp s :: l => Nat.beq s t || tmpIn t l
  | _ :: l => tmpIn t l

/-- does an operation look at a temporary? -/
def reads (all : List Oper) (o : Oper) (t : Nat) : Bool :=
  tmpIn t o.op.operands.toList ||
  (match o.guard with
   | none => false
   | some (j, _) => match nth all j with
     | none => false
     | some oj => match oj.dst with | none => false | some d => Nat.beq d t)

def writesTo (o : Oper) (t : Nat) : Bool := match o.dst with | none => false | some d => Nat.beq d t

/-- may two not be told apart in either order, by their temporaries? -/
def clash (all : List Oper) (x y : Oper) : Bool :=
  (match x.dst with | none => false | some d => reads all y d || writesTo y d) || (match y.dst with | none => false | some d => reads all x d)

def pairOk (E : Env) (all : List Oper) (x y : Ent) : Bool :=
  !(Nat.beq x.i y.i) &&
  (!(clash all x.o y.o) || y.mask.testBit x.i) &&
  (!(isEff E x.o.op && (isEff E y.o.op || isAl y.o.op)) || y.mask.testBit x.i)

def allPairs (E : Env) (all : List Oper) : List Ent → Bool
  | [] => true
  | x :: l => l.all (pairOk E all x) && allPairs E all l

def entsFrom : Nat → List Nat → List Oper → List Ent
  | i, m :: ms, o :: l => ⟨i, o, m⟩ :: entsFrom (i + 1) ms l
  | _, _, _ => []

def loose (e : Ent) : Bool := (match e.o.op with | .alloc _ => true | _ => false) && (depsOf e.o).isEmpty

def ordered (l : List Ent) : List Ent := l.filter loose ++ l.filter (fun e => !(loose e))

/-- is x, ahead of p, done before what stands between, or is nothing of effect between? -/
def between (E : Env) (x : Ent) (l : List Ent) : Bool := (l.all fun e => !(isEff E e.o.op)) || l.any fun e => isEff E e.o.op && e.mask.testBit x.i

/-- the pairs (place of an operation, place of a stage) that must be asked again. -/
def needsOf (E : Env) (l : List Ent) : List (Nat × Nat) :=
  (List.range l.length).flatMap fun x => (List.range (l.length + 1)).filterMap fun p =>
    match nth l x with
    | none => none
    | some ex => bif isEff E ex.o.op then none else
      bif Nat.blt x p then
        (bif (match nth l p with | none => true | some ep => isEff E ep.o.op) then (bif between E ex ((l.take p).drop (x + 1)) then none else some (x, p)) else none)
      else bif Nat.blt p x then
        (match nth l p with | none => none | some ep => bif isEff E ep.o.op && !(ex.mask.testBit ep.i) then some (x, p) else none)
      else none

/-- a region's order, and what must be asked again; none: it is not taken. -/
def plan (E : Env) (ops : List Oper) : Option (List Ent × List (Nat × Nat)) :=
  let l := ordered (entsFrom 0 (masks [] ops) ops)
  bif Nat.beq l.length ops.length && l.all (fun e => (depsOf e.o).all fun d => Nat.blt d e.i) && allPairs E ops l then some (l, needsOf E l) else none

/-- in that order: of each the state ahead of it. -/
def trace (E : Env) (call : CallFn) (all : List Oper) : List Ent → Act → Option (List Act)
  | [], a => some [a]
  | e :: l, a => match stepOp E call all a e.o with
    | none => none
    | some (k, a') => bif isEff E e.o.op || Nat.beq k 0 || (Nat.beq k 1 && isAl e.o.op) then (match trace E call all l a' with | none => none | some r => some (a :: r)) else none

def sameCell : Value → Value → Bool
  | .bool a, .bool b => a == b
  | .int k a, .int k' b => decide (k = k') && decide (a = b)
  | .string ⟨⟨a⟩⟩, .string ⟨⟨b⟩⟩ => bytesEq a b
  | .pointer none, .pointer none => true
  | .pointer (some ⟨b, o, none⟩), .pointer (some ⟨b', o', none⟩) => Nat.beq b b' && Nat.beq o o'
  | .slice none n c, .slice none n' c' => Nat.beq n n' && Nat.beq c c'
  | .slice (some ⟨b, o, none⟩) n c, .slice (some ⟨b', o', none⟩) n' c' => Nat.beq b b' && Nat.beq o o' && Nat.beq n n' && Nat.beq c c'
  | .map none, .map none => true
  | .map (some r), .map (some r') => Nat.beq r r'
  | _, _ => false

def sameCells : List Value → List Value → Bool
  | [], [] => true
  | a :: l, b :: r => sameCell a b && sameCells l r
  | _, _ => false

/-- functions too, of plain captured cells. -/
def sameCell1 : Value → Value → Bool
  | .func (.func g) ⟨f⟩ ⟨c⟩, .func (.func g') ⟨f'⟩ ⟨c'⟩ => Nat.beq g g' && sameCells f f' && sameCells c c'
  | a, b => sameCell a b

def sameCells1 : List Value → List Value → Bool
  | [], [] => true
  | a :: l, b :: r => sameCell1 a b && sameCells1 l r
  | _, _ => false

def sameV : Value → Value → Bool
  | .agg ⟨a⟩, .agg ⟨b⟩ => sameCells1 a b
  | a, b => sameCell1 a b

def sameObj : Option AObj → Option AObj → Bool
  | some (.cells n c e k), some (.cells n' c' e' k') => Nat.beq n n' && Nat.beq e e' && Nat.beq k k' && (match cellsFrom c 0 n, cellsFrom c' 0 n with | some l, some l' => sameCells1 l l' | _, _ => false)
  | some (.map []), some (.map []) => true
  | _, _ => false

/-- an operation at a stage's memory: is it what it was? -/
def again (E : Env) (all : List Oper) (e : Ent) (a a' : Act) (m : Mem) : Bool :=
  bif wanted a all e.o then
    bif isAl e.o.op then sameObj (a'.m.get a.m.next) (m.get a.m.next)
    else match quiet E m a.eval e.o.op, e.o.dst with
      | some _, none => true
      | some v, some d => sameV v (a'.tmp d)
      | none, _ => false
  else true

def last : List Act → Option Act
  | [] => none
  | [a] => some a
  | _ :: l => last l

def drawn (E : Env) (call : CallFn) (all : List Oper) (a : Act) : Option Act :=
  match plan E all with
  | none => none
  | some (l, needs) => match trace E call all l a with
    | none => none
    | some tr => bif needs.all (fun q => match nth l q.1, nth tr q.1, nth tr (q.1 + 1), nth tr q.2 with | some e, some a, some a', some b => again E all e a a' b.m | _, _, _, _ => false) then last tr else none

def results (E : Env) (a : Act) : List ResultVar → Option (List Value)
  | [] => some []
  | .tmp t :: l => match results E a l with | none => none | some r => some (a.tmp t :: r)
  | .cell t ty :: l => match a.tmp t with
    | .pointer (some ⟨b, o, none⟩) => (match loadAt E a.m ty b o, results E a l with | some v, some r => some (v :: r) | _, _ => none)
    | _ => none

abbrev CallDFn := Nat → List Value → Mem → Option Mem

def defers (call : CallDFn) : List (Nat × List Value) → Mem → Option Mem
  | [], m => some m
  | (f, args) :: l, m => match call f args m with | none => none | some m' => defers call l m'

def one : List Value → Value
  | [v] => v
  | l => .tuple ⟨l⟩

/-- a function's body came to its end. -/
def ended : Option (Ex × Act) → Option Act
  | some (.normal, a) => some a
  | some (.ret, a) => some a
  | _ => none

mutual
def code (E : Env) : Nat → Code → Act → Option (Ex × Act)
  | 0, _, _ => none
  | n + 1, c, a =>
    match c with
    | .skip => some (.normal, a)
    | .region _ ops false => match opers E (call E n) ops.toList ops.toList a with | none => none | some a' => some (.normal, a')
    | .region _ ops true => match drawn E (call E n) ops.toList a with | none => none | some a' => some (.normal, a')
    | .seq x y => match code E n x a with
      | some (.normal, a') => code E n y a'
      | r => r
    | .cond c x y => match a.eval c with
      | .bool true => code E n x a
      | .bool false => code E n y a
      | _ => none
    | .block id x => match code E n x a with
      | some (.exit id', a') => bif Nat.beq id' id then some (.normal, a') else some (.exit id', a')
      | r => r
    | .loop x => match code E n x a with
      | some (.normal, a') => code E n (.loop x) a'
      | r => r
    | .exit id => some (.exit id, a)
    | .ret => some (.ret, a)
    | .label _ => some (.normal, a)
    | .goto l => some (.goto l, a)
    | .scope x => jumps (code E n) x n (code E n x a)
    | _ => none
def call (E : Env) : Nat → Nat → List Value → Mem → Option (Value × Mem)
  | 0, _, _, _ => none
  | n + 1, f, args, m =>
    match knownOf E.known f args with
    | some v => some (v, m)
    | none => match E.funcs.get f with
      | none => none
      | some fn => match fn.body with
        | none => none
        | some c =>
          bif Nat.ble args.length fn.ntmps && Nat.ble fn.ntmps 1000000000 then
            match ended (code E n c { tmps := ofListFrom .leaf 0 args, n := fn.ntmps, defers := [], m := m }) with
            | none => none
            | some a => match defers (callD E n) a.defers a.m with
              | none => none
              | some m' => match results E { a with m := m' } fn.results.toList with
                | none => none
                | some vs => some (one vs, m')
          else none
/-- a deferred call: of a function that defers nothing itself. -/
def callD (E : Env) : Nat → Nat → List Value → Mem → Option Mem
  | 0, _, _, _ => none
  | n + 1, f, args, m =>
    match E.funcs.get f with
    | none => none
    | some fn => match fn.body with
      | none => none
      | some c =>
        bif Nat.ble args.length fn.ntmps && Nat.ble fn.ntmps 1000000000 then
          match ended (code E n c { tmps := ofListFrom .leaf 0 args, n := fn.ntmps, defers := [], m := m }) with
          | none => none
          | some a => bif a.defers.isEmpty then (match results E a fn.results.toList with | none => none | some _ => some a.m) else none
        else none
end

end Go.Ev

namespace Go.Ev
set_option linter.unusedSimpArgs false
open Go.RowKit
set_option linter.unusedVariables false
set_option linter.unusedSectionVars false

/-! ## The trie -/
namespace Tree
variable {α : Type}

theorem beq_true {a b : Nat} (h : a = b) : Nat.beq a b = true := by subst h; exact Nat.beq_refl a
theorem beq_false {a b : Nat} (h : a ≠ b) : Nat.beq a b = false := by
 cases hb : Nat.beq a b
 ·rfl
 ·exact absurd (Nat.eq_of_beq_eq_true hb) h

theorem get_set_same : ∀ (f : Nat) (t : Tree α) (i : Nat) (x : α), i + 1 < 2 ^ f → (t.set f i x).get i = some x := by
 intro f
 induction f with
 | zero => intro t i x h; simp at h
 | succ f ih =>
  intro t i x h
  by_cases h0 : i = 0
  ·subst h0; cases t <;> simp [set, get]
  ·have hb : Nat.beq i 0 = false := beq_false h0
   have hp : 2 ^ (f + 1) = 2 * 2 ^ f := by rw [Nat.pow_succ]; omega
   by_cases h1 : i % 2 = 1
   ·have hb1 : Nat.beq (i % 2) 1 = true := beq_true h1
    have := ih (match t with | .leaf => .leaf | .node l _ _ => l) (i / 2) x (by omega)
    cases t <;> simpa [set, get, hb, hb1] using this
   ·have hb1 : Nat.beq (i % 2) 1 = false := beq_false h1
    have := ih (match t with | .leaf => .leaf | .node _ _ r => r) (i / 2 - 1) x (by omega)
    cases t <;> simpa [set, get, hb, hb1] using this

theorem get_set_other : ∀ (f : Nat) (t : Tree α) (i j : Nat) (x : α), i ≠ j → (t.set f i x).get j = t.get j := by
 intro f
 induction f with
 | zero => intro t i j x h; rfl
 | succ f ih =>
  intro t i j x h
  have ihl := fun (l : Tree α) (a b : Nat) (hab : a ≠ b) => ih l a b x hab
  by_cases h0 : i = 0
  ·subst h0
   have hj : Nat.beq j 0 = false := beq_false (fun e => h e.symm)
   cases t <;> simp [set, get, hj]
  ·have hb : Nat.beq i 0 = false := beq_false h0
   by_cases hj0 : j = 0
   ·subst hj0
    cases t <;> simp only [set, hb, cond_false] <;> cases Nat.beq (i % 2) 1 <;> simp [get]
   ·have hbj : Nat.beq j 0 = false := beq_false hj0
    by_cases h1 : i % 2 = 1
    ·have hb1 : Nat.beq (i % 2) 1 = true := beq_true h1
     by_cases h2 : j % 2 = 1
     ·have hb2 : Nat.beq (j % 2) 1 = true := beq_true h2
      cases t <;> simp [set, get, hb, hb1, hbj, hb2] <;> rw [ihl _ _ _ (by omega)] <;> rfl
     ·have hb2 : Nat.beq (j % 2) 1 = false := beq_false h2
      cases t <;> simp [set, get, hb, hb1, hbj, hb2]
    ·have hb1 : Nat.beq (i % 2) 1 = false := beq_false h1
     by_cases h2 : j % 2 = 1
     ·have hb2 : Nat.beq (j % 2) 1 = true := beq_true h2
      cases t <;> simp [set, get, hb, hb1, hbj, hb2]
     ·have hb2 : Nat.beq (j % 2) 1 = false := beq_false h2
      cases t <;> simp [set, get, hb, hb1, hbj, hb2] <;> rw [ihl _ _ _ (by omega)] <;> rfl

theorem get_leaf (i : Nat) : (leaf : Tree α).get i = none := by cases i <;> rfl
end Tree

theorem pow_D : (2 : Nat) ^ D = 1099511627776 := by decide

theorem Tree.get_set {α : Type} (t : Tree α) (i : Nat) (x : α) : (t.set (i + 1) i x).get i = some x := Tree.get_set_same _ t i x Nat.lt_two_pow_self

theorem get_set_D {α : Type} (t : Tree α) (i : Nat) (x : α) (h : i ≤ 2000000000) : (t.set D i x).get i = some x :=
 Tree.get_set_same D t i x (by rw [pow_D]; omega)

/-- cells laid from i on. -/
theorem get_ofListFrom : ∀ (l : List Value) (c : Tree Value) (i j : Nat), i + l.length ≤ 2000000000 →
  (ofListFrom c i l).get j = if i ≤ j ∧ j < i + l.length then l[j - i]? else c.get j := by
 intro l
 induction l with
 | nil => intro c i j h; simp only [ofListFrom, List.length_nil, Nat.add_zero]; rw [if_neg (by omega)]
 | cons v l ih =>
  intro c i j h
  simp only [List.length_cons] at h
  simp only [ofListFrom]
  rw [ih _ _ _ (by omega)]
  by_cases hj : i + 1 ≤ j ∧ j < i + 1 + l.length
  ·rw [if_pos hj, if_pos (by simp only [List.length_cons]; omega)]
   rw [show j - i = (j - (i + 1)) + 1 by omega]; rfl
  ·rw [if_neg hj]
   by_cases hij : i = j
   ·subst hij
    rw [Tree.get_set, if_pos (by simp only [List.length_cons]; omega)]; simp
   ·rw [Tree.get_set_other _ _ _ _ _ hij, if_neg (by simp only [List.length_cons]; omega)]

/-! ## Values -/
/-- which block of the world an object's number means; how many places more a slice of it may have in the world. -/
structure Phi where
 to : Nat → Option Nat
 cap : Nat → Nat
instance : CoeFun Phi (fun _ => Nat → Option Nat) := ⟨Phi.to⟩

/-- a value of one cell without addresses. -/
def plainCell : Value → Bool
 | .bool _ | .int _ _ | .float _ _ | .complex _ _ _ | .string _ | .pointer none | .slice none _ _ | .map none | .chan none | .nilFunc | .nilIface => true
 | _ => false

/-- what the signs stand for. -/
class Sym where
 val : Nat → Option Value

/-- an integer or a string. -/
def tokOk : Value → Bool
 | .int _ _ | .string _ => true
 | _ => false

variable [Sym]

mutual
inductive VR (φ : Phi) : Value → Value → Prop where
 | bool (b : Bool) : VR φ (.bool b) (.bool b)
 | int (k : IntKind) (n : Int) : VR φ (.int k n) (.int k n)
 | float (k : FloatKind) (n : Nat) : VR φ (.float k n) (.float k n)
 | complex (k : FloatKind) (n m : Nat) : VR φ (.complex k n m) (.complex k n m)
 | string (s : ByteArray) : VR φ (.string s) (.string s)
 | pnil : VR φ (.pointer none) (.pointer none)
 | ptr {b b' : Nat} (o : Nat) (h : φ b = some b') : VR φ (.pointer (some ⟨b, o, none⟩)) (.pointer (some ⟨b', o, none⟩))
 | snil (n c : Nat) : VR φ (.slice none n c) (.slice none n c)
 | slice {b b' : Nat} (o n : Nat) {c c' : Nat} (h : φ b = some b') (hc : c ≤ c' ∧ c' ≤ c + φ.cap b) : VR φ (.slice (some ⟨b, o, none⟩) n c) (.slice (some ⟨b', o, none⟩) n c')
 | slost (b o s : Nat) (a : Addr) (c : Nat) : VR φ (.slice (some ⟨b, o, some s⟩) 0 0) (.slice (some a) 0 c)
 | mnil : VR φ (.map none) (.map none)
 | map {b b' : Nat} (h : φ b = some b') : VR φ (.map (some b)) (.map (some b'))
 | cnil : VR φ (.chan none) (.chan none)
 | func (fn : Fn) {f f' c c' : List Value} (hf : VRs φ f f') (hc : VRs φ c c') : VR φ (.func fn ⟨f⟩ ⟨c⟩) (.func fn ⟨f'⟩ ⟨c'⟩)
 | nilFunc : VR φ .nilFunc .nilFunc
 | iface (t : TypeId) {v v' : Value} (h : VR φ v v') : VR φ (.iface t v) (.iface t v')
 | nilIface : VR φ .nilIface .nilIface
 | agg {l l' : List Value} (h : VRs φ l l') : VR φ (.agg ⟨l⟩) (.agg ⟨l'⟩)
 | tuple {l l' : List Value} (h : VRs φ l l') : VR φ (.tuple ⟨l⟩) (.tuple ⟨l'⟩)
 | tok (n : Nat) {v : Value} (h : Sym.val n = some v) (hv : tokOk v = true) : VR φ (.chan (some n)) v
inductive VRs (φ : Phi) : List Value → List Value → Prop where
 | nil : VRs φ [] []
 | cons {v v' : Value} {l l' : List Value} (h : VR φ v v') (hl : VRs φ l l') : VRs φ (v :: l) (v' :: l')
end

def Phi.le (φ ψ : Phi) : Prop := ∀ b b', φ b = some b' → ψ b = some b' ∧ ψ.cap b = φ.cap b
theorem Phi.le_refl (φ : Phi) : φ.le φ := fun _ _ h => ⟨h, rfl⟩
theorem Phi.le.trans {φ ψ χ : Phi} (h : φ.le ψ) (k : ψ.le χ) : φ.le χ := fun b b' e => ⟨(k b b' (h b b' e).1).1, ((k b b' (h b b' e).1).2).trans (h b b' e).2⟩

mutual
theorem VR.mono {φ ψ : Phi} (hle : φ.le ψ) : ∀ {v v' : Value}, VR φ v v' → VR ψ v v'
 | _, _, .bool b => .bool b
 | _, _, .int k n => .int k n
 | _, _, .float k n => .float k n
 | _, _, .complex k n m => .complex k n m
 | _, _, .string s => .string s
 | _, _, .pnil => .pnil
 | _, _, .ptr o h => .ptr o (hle _ _ h).1
 | _, _, .snil n c => .snil n c
 | _, _, .slice o n h hc => .slice o n (hle _ _ h).1 (by rw [(hle _ _ h).2]; exact hc)
 | _, _, .slost b o s a c => .slost b o s a c
 | _, _, .mnil => .mnil
 | _, _, .map h => .map (hle _ _ h).1
 | _, _, .cnil => .cnil
 | _, _, .func fn hf hc => .func fn (VRs.mono hle hf) (VRs.mono hle hc)
 | _, _, .nilFunc => .nilFunc
 | _, _, .iface t h => .iface t (VR.mono hle h)
 | _, _, .nilIface => .nilIface
 | _, _, .agg h => .agg (VRs.mono hle h)
 | _, _, .tuple h => .tuple (VRs.mono hle h)
 | _, _, .tok n h hv => .tok n h hv
theorem VRs.mono {φ ψ : Phi} (hle : φ.le ψ) : ∀ {l l' : List Value}, VRs φ l l' → VRs ψ l l'
 | _, _, .nil => .nil
 | _, _, .cons h hl => .cons (VR.mono hle h) (VRs.mono hle hl)
end

theorem VRs.length {φ : Phi} : ∀ {l l' : List Value}, VRs φ l l' → l.length = l'.length
 | _, _, .nil => rfl
 | _, _, .cons _ hl => by simp [VRs.length hl]

theorem VRs.get {φ : Phi} : ∀ {l l' : List Value}, VRs φ l l' → ∀ (i : Nat) (v : Value), l[i]? = some v → ∃ v', l'[i]? = some v' ∧ VR φ v v'
 | _, _, .nil, i, v, h => by simp at h
 | _, _, .cons (v := x) (v' := x') h hl, 0, v, e => by
  obtain rfl : x = v := by simpa using e
  exact ⟨x', by simp, h⟩
 | _, _, .cons h hl, i + 1, v, e => by
  obtain ⟨v', h1, h2⟩ := VRs.get hl i v (by simpa using e)
  exact ⟨v', by simpa using h1, h2⟩

theorem VRs.of_get {φ : Phi} : ∀ {l l' : List Value}, l.length = l'.length → (∀ (i : Nat) (v v' : Value), l[i]? = some v → l'[i]? = some v' → VR φ v v') → VRs φ l l'
 | [], [], _, _ => .nil
 | x :: l, x' :: l', hlen, h => .cons (h 0 x x' (by simp) (by simp)) (VRs.of_get (by simpa using hlen) fun i v v' h1 h2 => h (i + 1) v v' (by simpa using h1) (by simpa using h2))
 | [], _ :: _, hlen, _ => by simp at hlen
 | _ :: _, [], hlen, _ => by simp at hlen

theorem VRs.append {φ : Phi} : ∀ {a a' b b' : List Value}, VRs φ a a' → VRs φ b b' → VRs φ (a ++ b) (a' ++ b')
 | _, _, _, _, .nil, hb => hb
 | _, _, _, _, .cons h hl, hb => .cons h (VRs.append hl hb)

theorem VRs.take {φ : Phi} : ∀ {a a' : List Value} (n : Nat), VRs φ a a' → VRs φ (a.take n) (a'.take n)
 | _, _, 0, _ => by simpa using VRs.nil
 | _, _, n + 1, .nil => by simpa using VRs.nil
 | _, _, n + 1, .cons h hl => by simpa using VRs.cons h (VRs.take n hl)

theorem VRs.drop {φ : Phi} : ∀ {a a' : List Value} (n : Nat), VRs φ a a' → VRs φ (a.drop n) (a'.drop n)
 | _, _, 0, h => h
 | _, _, n + 1, .nil => by simpa using VRs.nil
 | _, _, n + 1, .cons h hl => by simpa using VRs.drop n hl

theorem VR.cells {φ : Phi} {v v' : Value} (h : VR φ v v') : VRs φ (cellsOf v) v'.cells.toList := by
 cases h with
 | tok n h hv => cases hq : v' <;> rw [hq] at hv h <;> first | (exact .cons (.tok n h hv) .nil) | (simp [tokOk] at hv)
 | agg h => exact h
 | _ => exact .cons (by first | assumption | constructor <;> assumption) .nil

theorem VR.oneCell {φ : Phi} {v v' : Value} (h : VR φ v v') : v'.oneCell' = oneCell v := by
 cases h with
 | tok n h hv => cases v' <;> first | rfl | (simp [tokOk] at hv)
 | _ => rfl

theorem VR.undef {φ : Phi} : VR φ undef undef := .tuple .nil

/-- a value without addresses. -/
def plainV : Value → Bool
 | .agg ⟨l⟩ => l.all plainCell
 | .tuple ⟨l⟩ => l.all plainCell
 | v => plainCell v

theorem VR.plainCell {φ : Phi} : ∀ (v : Value), plainCell v = true → VR φ v v
 | .bool b, _ => .bool b
 | .int k n, _ => .int k n
 | .float k n, _ => .float k n
 | .complex k n m, _ => .complex k n m
 | .string s, _ => .string s
 | .pointer none, _ => .pnil
 | .slice none n c, _ => .snil n c
 | .map none, _ => .mnil
 | .chan none, _ => .cnil
 | .nilFunc, _ => .nilFunc
 | .nilIface, _ => .nilIface
 | .pointer (some _), h | .slice (some _) _ _, h | .map (some _), h | .chan (some _), h | .iface _ _, h | .func _ _ _, h | .agg _, h | .tuple _, h => by simp [Ev.plainCell] at h

theorem VRs.plain {φ : Phi} : ∀ (l : List Value), l.all plainCell = true → VRs φ l l
 | [], _ => .nil
 | v :: l, h => by
  simp only [List.all_cons, Bool.and_eq_true] at h
  exact .cons (VR.plainCell v h.1) (VRs.plain l h.2)

theorem VR.plain {φ : Phi} (v : Value) (h : plainV v = true) : VR φ v v := by
 cases v with
 | agg l => exact .agg (VRs.plain _ h)
 | tuple l => exact .tuple (VRs.plain _ h)
 | _ => exact VR.plainCell _ h

/-! ## Memory -/

/-- an abstract object and what stands in its block. -/
def ObjR (P : Program) (φ : Phi) (κ : Nat) : AObj → Option Obj → Prop
 | .cells n c e kd, ob => ∃ (c' : Array Value) (fr : Nat × Nat), (∃ e2, ob = some (.cells c' e2 fr) ∧ (kd ≠ 1 → e2 = e)) ∧ n ≤ c'.size ∧
   (∀ i, i < n → (kd = 1 → (c.get i).isSome = true) → ∃ v v', c.get i = some v ∧ c'[i]? = some v' ∧ VR φ v v') ∧ (kd = 0 → fr = (0, 0)) ∧ (kd ≠ 1 → (fr.1 = fr.2 ∨ c'.size ≤ fr.1) ∧ n ≤ 1000000000 ∧ n + κ * P.cellsOf e ≤ c'.size)
 | .map es, ob => ∃ (es' : Array MapEntry) (clock : Nat), ob = some (.map es' clock) ∧ VRs φ (es.map (·.1)) (es'.toList.map (·.key)) ∧ VRs φ (es.map (·.2)) (es'.toList.map (·.val))
 | .dead, _ => True

def AObj.alive : AObj → Bool
 | .dead => false
 | _ => true

def AObj.rw : AObj → Bool
 | .dead => false
 | .cells _ _ _ 1 => false
 | _ => true

/-- the memory and the world: G variables of packages stand where they stand; from block N0 on the blocks are the call's own; below it the world is as it was at w0. -/
structure Rel (P : Program) (G : Nat) (w0 : World) (φ : Phi) (m : Mem) (w : World) : Prop where
 glob : ∀ g, g < G → φ g = some g
 lt : ∀ b b', φ b = some b' → b < m.next ∧ b' < w.heap.size
 obj : ∀ b o b', m.get b = some o → φ b = some b' → ObjR P φ (φ.cap b) o (w.heap[b']?)
 inj : ∀ b₁ b₂ o₁ o₂ b', m.get b₁ = some o₁ → m.get b₂ = some o₂ → o₁.alive = true → o₂.alive = true → φ b₁ = some b' → φ b₂ = some b' → b₁ = b₂
 own : ∀ b o b', m.get b = some o → o.rw = true → φ b = some b' → w0.heap.size ≤ b'
 fresh : ∀ b o, m.get b = some o → b < m.next
 below : Below w0.heap.size w0 w

end Go.Ev

namespace Go.Ev
set_option linter.unusedSimpArgs false
open Go.RowKit
set_option linter.unusedVariables false
set_option linter.unusedSectionVars false
variable [Sym]

theorem Mem.get_put_same (m : Mem) (b : Nat) (o : AObj) (h : True) : (m.put b o).get b = some o := Tree.get_set_same _ _ _ _ Nat.lt_two_pow_self
theorem Mem.get_put_other (m : Mem) (b b₂ : Nat) (o : AObj) (h : b ≠ b₂) : (m.put b o).get b₂ = m.get b₂ := Tree.get_set_other _ _ _ _ _ h
theorem Mem.get_new_same (m : Mem) (o : AObj) (h : True) : (m.new o).get m.next = some o := Tree.get_set_same _ _ _ _ Nat.lt_two_pow_self
theorem Mem.get_new_other (m : Mem) (b : Nat) (o : AObj) (h : m.next ≠ b) : (m.new o).get b = m.get b := Tree.get_set_other _ _ _ _ _ h
theorem Mem.next_new (m : Mem) (o : AObj) : (m.new o).next = m.next + 1 := rfl
theorem Mem.next_put (m : Mem) (b : Nat) (o : AObj) : (m.put b o).next = m.next := rfl

theorem ObjR.mono {P : Program} {φ ψ : Phi} {κ : Nat} (hle : φ.le ψ) {o : AObj} {ob : Option Obj} (h : ObjR P φ κ o ob) : ObjR P ψ κ o ob := by
 cases o with
 | cells n c e kd =>
  obtain ⟨c', fr, h1, h2, h3, h4⟩ := h
  exact ⟨c', fr, h1, h2, fun i hi hk => let ⟨v, v', a, b, hv⟩ := h3 i hi hk; ⟨v, v', a, b, hv.mono hle⟩, h4⟩
 | map es =>
  obtain ⟨es', clock, h1, h2, h3⟩ := h
  exact ⟨es', clock, h1, h2.mono hle, h3.mono hle⟩
 | dead => trivial

section
variable {P : Program} {G : Nat} {w0 : World} {φ : Phi} {m : Mem} {w : World}

/-- what may turn in the world beside the blocks. -/
theorem Rel.world (h : Rel P G w0 φ m w) {w' : World} (hh : w'.heap = w.heap) (ht : w'.tape = w.tape) (ho : w'.os = w.os) (hp : w'.output = w.output) : Rel P G w0 φ m w' where
 glob := h.glob
 lt := by rw [hh]; exact h.lt
 obj := by rw [hh]; exact h.obj
 inj := h.inj
 own := h.own
 fresh := h.fresh
 below := ⟨ho.trans h.below.os, ht.trans h.below.tape, hp.trans h.below.output, by rw [hh]; exact h.below.size, by rw [hh]; exact h.below.block⟩

theorem Rel.drew (h : Rel P G w0 φ m w) : Rel P G w0 φ m { w with drawn := w.drawn + 1 } := h.world rfl rfl rfl rfl

theorem Rel.gets (h : Rel P G w0 φ m w) {b : Nat} {o : AObj} (hb : m.get b = some o) : b < m.next := h.fresh b o hb

/-- an object more that the world does not have yet. -/
theorem Rel.ahead (h : Rel P G w0 φ m w) (o : AObj) (hn : True) : Rel P G w0 φ (m.new o) w where
 glob := h.glob
 lt := fun b b' e => ⟨Nat.lt_succ_of_lt (h.lt b b' e).1, (h.lt b b' e).2⟩
 obj := fun b o' b' hb e => by
  have := (h.lt b b' e).1
  rw [Mem.get_new_other _ _ _ (by omega)] at hb
  exact h.obj b o' b' hb e
 inj := fun b₁ b₂ o₁ o₂ b' h1 h2 a1 a2 e1 e2 => by
  have k1 := (h.lt b₁ b' e1).1
  have k2 := (h.lt b₂ b' e2).1
  rw [Mem.get_new_other _ _ _ (by omega)] at h1 h2
  exact h.inj b₁ b₂ o₁ o₂ b' h1 h2 a1 a2 e1 e2
 own := fun b o' b' hb hr e => by
  have := (h.lt b b' e).1
  rw [Mem.get_new_other _ _ _ (by omega)] at hb
  exact h.own b o' b' hb hr e
 fresh := fun b o' hb => by
  by_cases e : m.next = b
  ·subst e; exact Nat.lt_succ_self _
  ·rw [Mem.get_new_other _ _ _ e] at hb
   exact Nat.lt_succ_of_lt (h.fresh b o' hb)
 below := h.below

def Phi.set (φ : Phi) (b b' κ : Nat) : Phi := ⟨fun x => if x = b then some b' else φ x, fun x => if x = b then κ else φ.cap x⟩
theorem Phi.set_same (φ : Phi) (b b' κ : Nat) : φ.set b b' κ b = some b' := if_pos rfl
theorem Phi.set_other (φ : Phi) {b b' κ x : Nat} (h : x ≠ b) : φ.set b b' κ x = φ x := if_neg h
theorem Phi.cap_same (φ : Phi) (b b' κ : Nat) : (φ.set b b' κ).cap b = κ := if_pos rfl
theorem Phi.cap_other (φ : Phi) {b b' κ x : Nat} (h : x ≠ b) : (φ.set b b' κ).cap x = φ.cap x := if_neg h
theorem Phi.le_set {φ : Phi} {b : Nat} (h : φ b = none) (b' κ : Nat) : φ.le (φ.set b b' κ) := fun x y e => by
 have hx : x ≠ b := fun hx => by rw [hx, h] at e; cases e
 exact ⟨by rw [Phi.set_other _ hx]; exact e, Phi.cap_other _ hx⟩

/-- a block that the world makes for an object that is there already. -/
theorem Rel.meet (h : Rel P G w0 φ m w) {b κ : Nat} {o : AObj} (hb : m.get b = some o) (hφ : φ b = none) {ob : Obj}
  (hob : ObjR P (φ.set b w.heap.size κ) κ o (some ob)) {w' : World} (hh : w'.heap = w.heap.push ob) (ht : w'.tape = w.tape) (ho : w'.os = w.os) (hp : w'.output = w.output) :
  Rel P G w0 (φ.set b w.heap.size κ) m w' := by
 have hle : φ.le (φ.set b w.heap.size κ) := Phi.le_set hφ _ _
 have hblk : ∀ k, k < w.heap.size → w'.heap[k]? = w.heap[k]? := fun k hk => by rw [hh, Array.getElem?_push, if_neg (by omega)]
 have hsz : w'.heap.size = w.heap.size + 1 := by rw [hh]; simp
 have hb0 := h.below.size
 refine ⟨fun g hg => (hle _ _ (h.glob g hg)).1, ?_, ?_, ?_, ?_, h.fresh, ?_⟩
 ·intro x y e
  by_cases hx : x = b
  ·subst hx
   rw [Phi.set_same] at e
   cases e
   exact ⟨h.gets hb, by omega⟩
  ·rw [Phi.set_other _ hx] at e
   have := h.lt x y e
   exact ⟨this.1, by omega⟩
 ·intro x o' y hx e
  by_cases hxb : x = b
  ·subst hxb
   rw [Phi.set_same] at e
   cases e
   obtain rfl : o = o' := Option.some.inj (hb.symm.trans hx)
   rw [hh, Array.getElem?_push, if_pos rfl, Phi.cap_same]
   exact hob
  ·rw [Phi.set_other _ hxb] at e
   rw [hblk y (h.lt x y e).2, Phi.cap_other _ hxb]
   exact (h.obj x o' y hx e).mono hle
 ·intro x₁ x₂ o₁ o₂ y h1 h2 a1 a2 e1 e2
  by_cases hx1 : x₁ = b <;> by_cases hx2 : x₂ = b
  ·rw [hx1, hx2]
  ·subst hx1
   rw [Phi.set_same] at e1
   rw [Phi.set_other _ hx2] at e2
   cases e1
   exact absurd (h.lt _ _ e2).2 (Nat.lt_irrefl _)
  ·subst hx2
   rw [Phi.set_same] at e2
   rw [Phi.set_other _ hx1] at e1
   cases e2
   exact absurd (h.lt _ _ e1).2 (Nat.lt_irrefl _)
  ·rw [Phi.set_other _ hx1] at e1
   rw [Phi.set_other _ hx2] at e2
   exact h.inj _ _ _ _ _ h1 h2 a1 a2 e1 e2
 ·intro x o' y hx hr e
  by_cases hxb : x = b
  ·subst hxb
   rw [Phi.set_same] at e
   cases e
   exact hb0
  ·rw [Phi.set_other _ hxb] at e
   exact h.own _ _ _ hx hr e
 ·exact ⟨ho.trans h.below.os, ht.trans h.below.tape, hp.trans h.below.output, by omega, fun k hk => (hblk k (by omega)).trans (h.below.block k hk)⟩

/-- a new object in both. -/
theorem Rel.alloc (h : Rel P G w0 φ m w) (o : AObj) (hn : True) {κ : Nat} {ob : Obj}
  (hob : ObjR P (φ.set m.next w.heap.size κ) κ o (some ob)) {w' : World} (hh : w'.heap = w.heap.push ob) (ht : w'.tape = w.tape) (ho : w'.os = w.os) (hp : w'.output = w.output) :
  Rel P G w0 (φ.set m.next w.heap.size κ) (m.new o) w' := by
 have hnone : φ m.next = none := by
  cases e : φ m.next with
  | none => rfl
  | some y => exact absurd (h.lt _ _ e).1 (Nat.lt_irrefl _)
 exact (h.ahead o hn).meet (Mem.get_new_same _ _ hn) hnone hob hh ht ho hp

theorem Rel.next_none (h : Rel P G w0 φ m w) : φ m.next = none := by
 cases e : φ m.next with
 | none => rfl
 | some y => exact absurd (h.lt _ _ e).1 (Nat.lt_irrefl _)

theorem Rel.le_next (h : Rel P G w0 φ m w) (b' κ : Nat) : φ.le (φ.set m.next b' κ) := Phi.le_set h.next_none _ _

/-- an object is written. -/
theorem Rel.update (h : Rel P G w0 φ m w) {b b' : Nat} {o o' : AObj} (hb : m.get b = some o) (hφ : φ b = some b') (hr : o.rw = true) (hr' : o'.rw = true ∨ o' = .dead) (hn : True)
  {w' : World} (hs : w'.heap.size = w.heap.size) (hk : ∀ k, k ≠ b' → w'.heap[k]? = w.heap[k]?) (hob : ObjR P φ (φ.cap b) o' (w'.heap[b']?))
  (ht : w'.tape = w.tape) (ho : w'.os = w.os) (hp : w'.output = w.output) : Rel P G w0 φ (m.put b o') w' := by
 have hbn := h.gets hb
 have halive : o.alive = true := by cases o <;> first | rfl | simp [AObj.rw] at hr
 refine ⟨h.glob, ?_, ?_, ?_, ?_, ?_, ?_⟩
 ·intro x y e; have := h.lt x y e; exact ⟨this.1, by omega⟩
 ·intro x ox y hx e
  by_cases hxb : b = x
  ·subst hxb
   rw [Mem.get_put_same _ _ _ trivial] at hx
   cases hx
   rw [hφ] at e
   cases e
   exact hob
  ·rw [Mem.get_put_other _ _ _ _ hxb] at hx
   cases hd : ox.alive with
   | false => cases ox <;> first | trivial | simp [AObj.alive] at hd
   | true =>
    have : y ≠ b' := fun ey => hxb (h.inj b x o ox b' hb hx halive hd hφ (ey ▸ e))
    rw [hk y this]
    exact h.obj x ox y hx e
 ·intro x₁ x₂ o₁ o₂ y h1 h2 a1 a2 e1 e2
  have key : ∀ x ox, (m.put b o').get x = some ox → ox.alive = true → ∃ oy, m.get x = some oy ∧ oy.alive = true := by
   intro x ox hx ha
   by_cases hxb : b = x
   ·subst hxb; exact ⟨o, hb, halive⟩
   ·rw [Mem.get_put_other _ _ _ _ hxb] at hx; exact ⟨ox, hx, ha⟩
  obtain ⟨p1, q1, r1⟩ := key _ _ h1 a1
  obtain ⟨p2, q2, r2⟩ := key _ _ h2 a2
  exact h.inj _ _ _ _ _ q1 q2 r1 r2 e1 e2
 ·intro x ox y hx hrx e
  by_cases hxb : b = x
  ·subst hxb; rw [hφ] at e; cases e; exact h.own _ _ _ hb hr hφ
  ·rw [Mem.get_put_other _ _ _ _ hxb] at hx; exact h.own _ _ _ hx hrx e
 ·intro x ox hx
  by_cases hxb : b = x
  ·subst hxb; exact hbn
  ·rw [Mem.get_put_other _ _ _ _ hxb] at hx; exact h.fresh _ _ hx
 ·have := h.own _ _ _ hb hr hφ
  exact ⟨ho.trans h.below.os, ht.trans h.below.tape, hp.trans h.below.output, by have := h.below.size; omega, fun k hkk => (hk k (by omega)).trans (h.below.block k hkk)⟩

/-- a dead object may be another name of a block: a new object takes an old one's block. -/
theorem Rel.move (h : Rel P G w0 φ m w) {b b' κ : Nat} {o o' : AObj} (hb : m.get b = some o) (hφ : φ b = some b') (hr : o.rw = true) (hr' : o'.rw = true) (hn : True)
  {w' : World} (hs : w'.heap.size = w.heap.size) (hk : ∀ k, k ≠ b' → w'.heap[k]? = w.heap[k]?) (hob : ObjR P (φ.set m.next b' κ) κ o' (w'.heap[b']?))
  (ht : w'.tape = w.tape) (ho : w'.os = w.os) (hp : w'.output = w.output) : Rel P G w0 (φ.set m.next b' κ) ((m.put b .dead).new o') w' := by
 have h1 : Rel P G w0 φ (m.put b .dead) w' := h.update hb hφ hr (.inr rfl) hn hs hk trivial ht ho hp
 have hbn := h.gets hb
 have hle := h.le_next b' κ
 have hown := h.own _ _ _ hb hr hφ
 have hlt := (h.lt _ _ hφ).2
 have halive' : o'.alive = true := by cases o' <;> first | rfl | simp [AObj.rw] at hr'
 have old : ∀ x, x ≠ m.next → ((m.put b .dead).new o').get x = (m.put b .dead).get x := fun x hx => Mem.get_new_other _ _ _ (by rw [Mem.next_put]; omega)
 have new : ((m.put b .dead).new o').get m.next = some o' := Mem.get_new_same (m.put b .dead) o' hn
 -- who else has that block: only what is dead
 have alone : ∀ x ox, (m.put b .dead).get x = some ox → ox.alive = true → φ x ≠ some b' := by
  intro x ox hx ha e
  by_cases hxb : b = x
  ·subst hxb; rw [Mem.get_put_same _ _ _ trivial] at hx; cases hx; simp [AObj.alive] at ha
  ·rw [Mem.get_put_other _ _ _ _ hxb] at hx
   exact hxb (h.inj b x o ox b' hb hx (by cases o <;> first | rfl | simp [AObj.rw] at hr) ha hφ e)
 refine ⟨fun g hg => (hle _ _ (h.glob g hg)).1, ?_, ?_, ?_, ?_, ?_, h1.below⟩
 ·intro x y e
  by_cases hx : x = m.next
  ·subst hx; rw [Phi.set_same] at e; cases e; exact ⟨Nat.lt_succ_self _, by omega⟩
  ·rw [Phi.set_other _ hx] at e; have := h1.lt x y e; exact ⟨Nat.lt_succ_of_lt this.1, this.2⟩
 ·intro x ox y hx e
  by_cases hxn : x = m.next
  ·subst hxn; rw [new] at hx; cases hx; rw [Phi.set_same] at e; cases e; rw [Phi.cap_same]; exact hob
  ·rw [Phi.set_other _ hxn] at e; rw [old x hxn] at hx; rw [Phi.cap_other _ hxn]; exact (h1.obj x ox y hx e).mono hle
 ·intro x₁ x₂ o₁ o₂ y g1 g2 a1 a2 e1 e2
  by_cases hx1 : x₁ = m.next <;> by_cases hx2 : x₂ = m.next
  ·rw [hx1, hx2]
  ·subst hx1; rw [Phi.set_same] at e1; rw [Phi.set_other _ hx2] at e2; rw [old _ hx2] at g2; cases e1; exact absurd e2 (alone _ _ g2 a2)
  ·subst hx2; rw [Phi.set_same] at e2; rw [Phi.set_other _ hx1] at e1; rw [old _ hx1] at g1; cases e2; exact absurd e1 (alone _ _ g1 a1)
  ·rw [Phi.set_other _ hx1] at e1; rw [Phi.set_other _ hx2] at e2; rw [old _ hx1] at g1; rw [old _ hx2] at g2; exact h1.inj _ _ _ _ _ g1 g2 a1 a2 e1 e2
 ·intro x ox y hx hrx e
  by_cases hxn : x = m.next
  ·subst hxn; rw [Phi.set_same] at e; cases e; exact hown
  ·rw [Phi.set_other _ hxn] at e; rw [old x hxn] at hx; exact h1.own _ _ _ hx hrx e
 ·intro x ox hx
  by_cases hxn : x = m.next
  ·subst hxn; exact Nat.lt_succ_self _
  ·rw [old x hxn] at hx; exact Nat.lt_succ_of_lt (h1.fresh _ _ hx)

/-- an object dies. -/
theorem Rel.die (h : Rel P G w0 φ m w) {b b' : Nat} {o : AObj} (hb : m.get b = some o) (hφ : φ b = some b') (hr : o.rw = true) (hn : True) : Rel P G w0 φ (m.put b .dead) w :=
 h.update hb hφ hr (.inr rfl) hn rfl (fun _ _ => rfl) trivial rfl rfl rfl

end
end Go.Ev

namespace Go.Ev
set_option linter.unusedSimpArgs false
open Go.RowKit
set_option linter.unusedVariables false
set_option linter.unusedSectionVars false
variable [Sym]

def operandOk (G : Nat) : Operand → Bool
 | .const v => plainV v
 | .global g => Nat.blt g G
 | _ => true

def operOk (G : Nat) (o : Oper) : Bool := o.op.operands.toList.all (operandOk G)

def codeOk (G : Nat) : Code → Bool
 | .region _ ops _ => ops.toList.all (operOk G)
 | .seq a b => codeOk G a && codeOk G b
 | .cond c a b => operandOk G c && codeOk G a && codeOk G b
 | .block _ b | .loop b | .scope b => codeOk G b
 | _ => true

structure EnvOk (E : Env) (G : Nat) : Prop where
 types : ∀ t i, E.types.get t = some i → E.P.info? t = some i
 funcs : ∀ f fn, E.funcs.get f = some fn → E.P.funcs[f]? = some fn ∧ (fn.name == "runtime.NumGoroutine") = false ∧ ∀ c, fn.body = some c → codeOk G c = true
 eqs : ∀ t, E.eqs.any (Nat.beq t) = true → E.P.stoodInHeld t = false ∧ E.P.eqGuardType E.P.depth t = false
 mixed : E.P.follows .mixedOrders = true
 facts : ∀ op x y r, factOf E.facts op x y = some r → ∃ u v, (∀ φ x', VR φ x x' → x' = u) ∧ (∀ φ y', VR φ y y' → y' = v) ∧ plainV u = true ∧ plainV v = true ∧ ∀ m t, binOp0 E m op t u v = some r
 zeros : ∀ t z, E.zero t = some z → plainV z = true

section
variable {E : Env} {G : Nat} (hE : EnvOk E G)
include hE

theorem ti_info {t : TypeId} {i : TypeInfo} (h : E.ti t = some i) : E.P.info? t = some i := hE.types t i h

theorem under_eq {t : TypeId} {d : TypeDesc} (h : E.under t = some d) : E.P.underlying t = some d := by
 unfold Env.under at h
 cases hi : E.ti t with
 | none => simp [hi] at h
 | some i =>
  have hp := ti_info hE hi
  simp only [hi] at h
  unfold Program.underlying
  rw [hp]
  obtain ⟨desc, _, _, _, _, _, _, _, _, _⟩ := i
  cases desc <;> simp only at h ⊢ <;> try exact h
  rename_i nm u
  cases hu : E.ti u with
  | none => simp [hu] at h
  | some j => rw [ti_info hE hu]; simpa [hu] using h

theorem size_run {t : TypeId} {k : Nat} (h : E.size t = some k) (w : World) : (sizeOf t).run E.P w = .ok k w := by
 unfold Env.size at h
 cases hi : E.ti t with
 | none => simp [hi] at h
 | some i =>
  simp only [hi, Option.some.injEq] at h
  simp [sizeOf, typeInfo, ti_info hE hi, h]

theorem under_run {t : TypeId} {d : TypeDesc} (h : E.under t = some d) (w : World) : (underlying t).run E.P w = .ok d w := run_underlying (under_eq hE h) w

theorem zero_run {t : TypeId} {z : Value} (h : E.zero t = some z) (w : World) : (zeroValue t).run E.P w = .ok z w := by
 unfold Env.zero at h
 cases hi : E.ti t with
 | none => simp [hi] at h
 | some i => simp only [hi] at h; simp [zeroValue, typeInfo, ti_info hE hi, h]

theorem agg_run {t : TypeId} {d : TypeDesc} (h : E.under t = some d) (w : World) : (isAgg t).run E.P w = .ok (isAggD d) w := by
 unfold isAgg
 simp only [Sem.run_bind, under_run hE h, Result.andThen_ok]
 cases d <;> rfl

end

/-! what a value is that is related to one whose form is known -/
section
variable {φ : Phi} {v' : Value}
theorem VR.ptr_inv {b o : Nat} (h : VR φ (.pointer (some ⟨b, o, none⟩)) v') : ∃ b', v' = .pointer (some ⟨b', o, none⟩) ∧ φ b = some b' := by
 cases h with | ptr o h => exact ⟨_, rfl, h⟩
theorem VR.ptr_any {a : Addr} (h : VR φ (.pointer (some a)) v') : ∃ b', v' = .pointer (some ⟨b', a.off, none⟩) ∧ φ a.block = some b' ∧ a.spot = none := by
 cases h with | ptr o h => exact ⟨_, rfl, h, rfl⟩
theorem VR.pnil_inv (h : VR φ (.pointer none) v') : v' = .pointer none := by cases h; rfl
theorem VR.int_inv {k : IntKind} {n : Int} (h : VR φ (.int k n) v') : v' = .int k n := by cases h; rfl
theorem VR.bool_inv {b : Bool} (h : VR φ (.bool b) v') : v' = .bool b := by cases h; rfl
theorem VR.string_inv {s : ByteArray} (h : VR φ (.string s) v') : v' = .string s := by cases h; rfl
theorem VR.slice_inv {b o n c : Nat} (h : VR φ (.slice (some ⟨b, o, none⟩) n c) v') : ∃ b' c', v' = .slice (some ⟨b', o, none⟩) n c' ∧ φ b = some b' ∧ c ≤ c' ∧ c' ≤ c + φ.cap b := by
 cases h with | slice o n h hc => exact ⟨_, _, rfl, h, hc.1, hc.2⟩
theorem VR.slost_inv {b o s n c : Nat} (h : VR φ (.slice (some ⟨b, o, some s⟩) n c) v') : ∃ a c', v' = .slice (some a) 0 c' ∧ n = 0 ∧ c = 0 := by
 cases h with | slost b o s a c => exact ⟨_, _, rfl, rfl, rfl⟩
theorem VR.snil_inv {n c : Nat} (h : VR φ (.slice none n c) v') : v' = .slice none n c := by cases h; rfl
theorem VR.agg_inv {l : List Value} (h : VR φ (.agg ⟨l⟩) v') : ∃ l', v' = .agg ⟨l'⟩ ∧ VRs φ l l' := by cases h with | agg h => exact ⟨_, rfl, h⟩
theorem VR.tuple_inv {l : List Value} (h : VR φ (.tuple ⟨l⟩) v') : ∃ l', v' = .tuple ⟨l'⟩ ∧ VRs φ l l' := by cases h with | tuple h => exact ⟨_, rfl, h⟩
theorem VR.map_inv {r : Nat} (h : VR φ (.map (some r)) v') : ∃ r', v' = .map (some r') ∧ φ r = some r' := by cases h with | map h => exact ⟨_, rfl, h⟩
theorem VR.mnil_inv (h : VR φ (.map none) v') : v' = .map none := by cases h; rfl
theorem VR.func_inv {fn : Fn} {f c : List Value} (h : VR φ (.func fn ⟨f⟩ ⟨c⟩) v') : ∃ f' c', v' = .func fn ⟨f'⟩ ⟨c'⟩ ∧ VRs φ f f' ∧ VRs φ c c' := by cases h with | func fn hf hc => exact ⟨_, _, rfl, hf, hc⟩
theorem VR.nilFunc_inv (h : VR φ .nilFunc v') : v' = .nilFunc := by cases h; rfl
end

theorem nth_eq {α : Type} : ∀ (l : List α) (i : Nat), nth l i = l[i]?
 | [], i => by simp [nth]
 | x :: l, 0 => by simp [nth]
 | x :: l, i + 1 => by simp [nth, nth_eq l i]

theorem cellsFrom_len {c : Tree Value} : ∀ {k o : Nat} {l : List Value}, cellsFrom c o k = some l → l.length = k
 | 0, o, l, h => by simp [cellsFrom] at h; subst h; rfl
 | k + 1, o, l, h => by
  simp only [cellsFrom] at h
  split at h
  ·cases h
  ·split at h
   ·cases h
   ·rename_i l' hl; cases h; simp [cellsFrom_len hl]

theorem cellsFrom_rel {φ : Phi} {c : Tree Value} {c' : Array Value} {n : Nat} {kd : Nat} (hc : ∀ i, i < n → (kd = 1 → (c.get i).isSome = true) → ∃ v v', c.get i = some v ∧ c'[i]? = some v' ∧ VR φ v v') :
  ∀ (k o : Nat) (l : List Value), o + k ≤ n → cellsFrom c o k = some l → ∃ l', VRs φ l l' ∧ l'.length = k ∧ ∀ j v, l'[j]? = some v → c'[o + j]? = some v
 | 0, o, l, _, h => by
  simp [cellsFrom] at h; subst h
  exact ⟨[], .nil, rfl, fun j v hv => by simp at hv⟩
 | k + 1, o, l, hk, h => by
  have hso : (c.get o).isSome = true := by
   cases hq : c.get o with
   | none => simp [cellsFrom, hq] at h
   | some q => rfl
  obtain ⟨v, v', h1, h2, h3⟩ := hc o (by omega) (fun _ => hso)
  simp only [cellsFrom, h1] at h
  cases hl : cellsFrom c (o + 1) k with
  | none => simp [hl] at h
  | some r =>
   simp only [hl, Option.some.injEq] at h
   subst h
   obtain ⟨l', a, b, d⟩ := cellsFrom_rel hc k (o + 1) r (by omega) hl
   refine ⟨v' :: l', .cons h3 a, by simp [b], fun j x hx => ?_⟩
   cases j with
   | zero => simp at hx; subst hx; simpa using h2
   | succ j => have := d j x (by simpa using hx); rw [show o + (j + 1) = o + 1 + j by omega]; exact this

theorem add_at (b o j : Nat) : (⟨b, o, none⟩ : Addr).add j = ⟨b, o + j, none⟩ := by unfold Addr.add; split <;> simp_all

theorem cell_at {w : World} {b : Nat} {c : Array Value} {e : TypeId} {fr : Nat × Nat} (h : w.heap[b]? = some (.cells c e fr)) (i : Nat) : w.cell? ⟨b, i, none⟩ = c[i]? := by
 simp [World.cell?, h]

section
variable {E : Env} {G : Nat} {w0 w : World} {φ : Phi} {m : Mem}

theorem loadCells_sound {b b' o k n : Nat} {c : Tree Value} {e : TypeId} {kd : Nat} {l : List Value} (hR : Rel E.P G w0 φ m w) (hm : m.get b = some (.cells n c e kd)) (hφ : φ b = some b')
  (hk : o + k ≤ n) (hl : cellsFrom c o k = some l) : ∃ l', (loadCells ⟨b', o, none⟩ k).run E.P w = .ok ⟨l'⟩ w ∧ VRs φ l l' ∧ l'.length = k := by
 obtain ⟨c', fr, ⟨e2, hob, _⟩, hn, hc, _⟩ := hR.obj b _ b' hm hφ
 obtain ⟨l', h1, h2, h3⟩ := cellsFrom_rel hc k o l hk hl
 refine ⟨l', ?_, h1, h2⟩
 have := run_loadCells_list (P := E.P) w ⟨b', o, none⟩ l' (fun j v hv => by rw [add_at, cell_at hob]; exact h3 j v hv)
 rw [h2] at this
 exact this

theorem load_sound (hE : EnvOk E G) (hR : Rel E.P G w0 φ m w) {t : TypeId} {b b' o : Nat} {v : Value} (h : loadAt E m t b o = some v) (hφ : φ b = some b') :
  ∃ v', (loadVar t ⟨b', o, none⟩).run E.P w = .ok v' w ∧ VR φ v v' := by
 unfold loadAt at h
 split at h
 ·rename_i d n c e kd hd hm
  unfold loadVar
  simp only [Sem.run_bind, agg_run hE hd, Result.andThen_ok]
  cases ha : isAggD d with
  | true =>
   simp only [ha, cond_true] at h
   cases hs : E.size t with
   | none => simp [hs] at h
   | some k =>
    simp only [hs] at h
    cases hle : Nat.ble (o + k) n with
    | false => simp [hle] at h
    | true =>
     simp only [hle, cond_true] at h
     cases hl : cellsFrom c o k with
     | none => simp [hl] at h
     | some l =>
      simp only [hl, Option.some.injEq] at h
      subst h
      obtain ⟨l', h1, h2, _⟩ := loadCells_sound (E := E) hR hm hφ (Nat.le_of_ble_eq_true hle) hl
      exact ⟨.agg ⟨l'⟩, by simp [size_run hE hs, h1], .agg h2⟩
  | false =>
   simp only [ha, cond_false] at h
   cases hlt : Nat.blt o n with
   | false => simp [hlt] at h
   | true =>
    simp only [hlt, cond_true] at h
    have hon : o < n := by simpa [Nat.blt_eq] using hlt
    obtain ⟨c', fr, ⟨e2, hob, _⟩, hn, hc, _⟩ := hR.obj b _ b' hm hφ
    obtain ⟨x, x', h1, h2, h3⟩ := hc o hon (fun _ => by rw [h]; rfl)
    obtain rfl : x = v := Option.some.inj (h1.symm.trans h)
    exact ⟨x', by simp [cell_at hob, h2], h3⟩
 ·cases h

end
end Go.Ev

namespace Go.Ev
set_option linter.unusedSimpArgs false
open Go.RowKit
set_option linter.unusedVariables false
set_option linter.unusedSectionVars false
variable [Sym]

theorem bytesEq_eq : ∀ (a b : List UInt8), bytesEq a b = (a == b)
  | [], [] => rfl
  | [], b :: r => rfl
  | a :: l, [] => rfl
  | a :: l, b :: r => by
    simp only [bytesEq, List.cons_beq_cons, bytesEq_eq l r]
    by_cases h : a = b
    · subst h; simp
    · have : Nat.beq a.toNat b.toNat = false := Tree.beq_false fun e => h (UInt8.toNat_inj.1 e)
      simp [this, h]

theorem bytesLt_eq : ∀ (a b : List UInt8), bytesLt a b = Op.bytesLess a b
  | [], [] => rfl
  | _ :: _, [] => rfl
  | [], _ :: _ => rfl
  | a :: x, b :: y => by
    simp only [bytesLt, Op.bytesLess, bytesLt_eq x y]
    by_cases h : a < b
    · have : Nat.blt a.toNat b.toNat = true := by simpa [Nat.blt_eq, UInt8.lt_iff_toNat_lt] using h
      simp [this, h]
    · have h1 : Nat.blt a.toNat b.toNat = false := by
        cases hb : Nat.blt a.toNat b.toNat
        · rfl
        · exact absurd (by simpa [Nat.blt_eq, UInt8.lt_iff_toNat_lt] using hb) h
      by_cases e : a = b
      · subst e; simp [h1]
      · have h2 : Nat.beq a.toNat b.toNat = false := Tree.beq_false fun e' => e (UInt8.toNat_inj.1 e')
        simp [h1, h2, h, e]

section
variable {P : Program} {w : World}

theorem intOp_run {op : BinOp} {k : IntKind} {a b : Int} {v : Value} (h : intOp op k a b = some v) (hs : op ≠ .shl) (hr : op ≠ .shr) (t : TypeId) :
    (Go.binOp op t (.int k a) (.int k b)).run P w = .ok v w := by
  cases op <;> simp only [intOp, Option.some.injEq] at h <;> first
    | (subst h; simp [Go.binOp, Op.intArith, Op.intCmp, Op.intBits]; done)
    | (split at h
       · cases h
       · rename_i hb; cases h; simp [Go.binOp, Op.intDiv, hb])
    | cases h
    | simp at hs
    | simp at hr

theorem strAdd_run {a b : List UInt8} {v : Value} (h : (bif Nat.ble (a.length + b.length) 4611686018427387904 then some (Value.string ⟨⟨a ++ b⟩⟩) else none) = some v) (t : TypeId) :
    (Go.binOp .add t (.string ⟨⟨a⟩⟩) (.string ⟨⟨b⟩⟩)).run P w = .ok v w := by
  cases hb : Nat.ble (a.length + b.length) 4611686018427387904 with
  | false => simp [hb] at h
  | true =>
    simp only [hb, cond_true, Option.some.injEq] at h
    subst h
    have hle := Nat.le_of_ble_eq_true hb
    have hsz : (ByteArray.mk ⟨a⟩).size + (ByteArray.mk ⟨b⟩).size ≤ 9223372036854775807 := by
      show a.length + b.length ≤ _
      omega
    have := run_string_add_sum (P := P) (w := w) (ByteArray.mk ⟨a⟩) (ByteArray.mk ⟨b⟩) hsz
    rw [binOp_string_add, this]
    have e := ByteArray.mk_append_mk a b
    simp only [List.toArray] at e
    rw [e]

theorem strOp_run {op : BinOp} {a b : List UInt8} {v : Value} (h : strOp op a b = some v) (t : TypeId) :
    (Go.binOp op t (.string ⟨⟨a⟩⟩) (.string ⟨⟨b⟩⟩)).run P w = .ok v w := by
  have ta : (ByteArray.mk ⟨a⟩).toList = a := by rw [ByteArray.toList_eq]
  have tb : (ByteArray.mk ⟨b⟩).toList = b := by rw [ByteArray.toList_eq]
  cases op <;> simp only [strOp, Option.some.injEq] at h <;> first
    | (subst h; simp [Go.binOp, Op.stringOp, ta, tb, bytesEq_eq, bytesLt_eq]; done)
    | exact strAdd_run h t
    | cases h

theorem shiftOp_run {op : BinOp} {k k' : IntKind} {a b : Int} {v : Value} (h : shiftOp op k a b = some v) (t : TypeId) :
    (op = .shl ∨ op = .shr) → (Go.binOp op t (.int k a) (.int k' b)).run P w = .ok v w := by
  unfold shiftOp at h
  split at h
  · cases h
  · rename_i hb
    rintro (rfl | rfl) <;> simp at h <;> subst h <;> simp [Go.binOp, Op.shift, hb]

theorem unOp_run {op : UnOp} {x v : Value} (h : unOp op x = some v) : (Op.unary op x).run P w = .ok v w := by
  unfold unOp at h
  split at h
  · cases h; simp [Op.unary, Op.intArith]
  · cases h; simp [Op.unary]
  · cases h
end

section
variable {E : Env} {G : Nat} {w0 w : World} {φ : Phi} {m : Mem}

theorem not_frozen {b' : Nat} {c' : Array Value} {e : TypeId} (h : w.heap[b']? = some (.cells c' e (0, 0))) (i : Nat) : w.frozen? ⟨b', i, none⟩ = false := by
  simp [World.frozen?, h]

theorem notStr_sound (hR : Rel E.P G w0 φ m w) {b b' : Nat} (h : notStr m b = true) (hφ : φ b = some b') : ∃ c' e, w.heap[b']? = some (.cells c' e (0, 0)) := by
  unfold notStr at h
  split at h
  · rename_i n c e hm
    obtain ⟨c', fr, ⟨e2, hob, _⟩, _, _, h0, _⟩ := hR.obj b _ b' hm hφ
    rw [h0 rfl] at hob
    exact ⟨c', e2, hob⟩
  · cases h

theorem notStr_alive {b : Nat} (h : notStr m b = true) : ∃ o, m.get b = some o ∧ o.alive = true := by
  unfold notStr at h
  split at h
  · rename_i n c e hm; exact ⟨_, hm, rfl⟩
  · cases h

theorem sameAddr_far (hR : Rel E.P G w0 φ m w) {a b : Nat} {oa ob : Nat} {a' b' : Nat} (ha : notStr m a = true) (hb : notStr m b = true) (hab : a ≠ b) (hφa : φ a = some a') (hφb : φ b = some b') :
    (sameAddr ⟨a', oa, none⟩ ⟨b', ob, none⟩).run E.P w = .ok false w := by
  obtain ⟨ca, ea, ha'⟩ := notStr_sound hR ha hφa
  obtain ⟨cb, eb, hb'⟩ := notStr_sound hR hb hφb
  obtain ⟨x, hx, hxa⟩ := notStr_alive ha
  obtain ⟨y, hy, hya⟩ := notStr_alive hb
  have hne : a' ≠ b' := fun e => hab (hR.inj a b x y a' hx hy hxa hya hφa (e ▸ hφb))
  simp [sameAddr, hne, not_frozen ha', noView, viewAt, World.shape?, ha', hb', mayBeOne, stringish, not_frozen hb']

theorem eqPtr_sound (hE : EnvOk E G) (hR : Rel E.P G w0 φ m w) {t : TypeId} {x y x' y' : Value} {r : Bool} (h : eqPtr E m t x y = some r) (hx : VR φ x x') (hy : VR φ y y') (d : Nat) :
    (Op.equalIn (d + 1) t x' y').run E.P w = .ok r w := by
  unfold eqPtr at h
  split at h
  · rename_i ht; cases h; cases hx.pnil_inv; cases hy.pnil_inv; simp [Op.equalIn, under_run hE ht]
  · rename_i ht; cases h; cases hx.pnil_inv; obtain ⟨b', rfl, _⟩ := hy.ptr_any; simp [Op.equalIn, under_run hE ht]
  · rename_i ht; cases h; cases hy.pnil_inv; obtain ⟨b', rfl, _⟩ := hx.ptr_any; simp [Op.equalIn, under_run hE ht]
  · rename_i e a b ht
    obtain ⟨ba, oa, sa⟩ := a
    obtain ⟨bb, ob, sb⟩ := b
    obtain ⟨a', rfl, hφa, hsa⟩ := hx.ptr_any
    obtain ⟨b', rfl, hφb, hsb⟩ := hy.ptr_any
    simp only at hφa hφb hsa hsb
    split at h
    · rename_i k hk
      cases hbb : Nat.beq ba bb with
      | true =>
        simp only [hbb, cond_true] at h
        have := Nat.eq_of_beq_eq_true hbb
        subst this
        rw [hφa] at hφb
        cases hφb
        split at h
        · cases h
          simp only [Op.equalIn, Sem.run_bind, under_run hE ht, Result.andThen_ok, size_run hE hk]
          simp only [sameAddr]
          simp
          rw [Bool.eq_iff_iff]; simp
        · cases h
      | false =>
        simp only [hbb, cond_false] at h
        cases hn : notStr m ba && notStr m bb with
        | false => simp [hn] at h
        | true =>
          simp only [hn, cond_true, Option.some.injEq] at h
          subst h
          simp only [Bool.and_eq_true] at hn
          have hne : ba ≠ bb := fun e => by subst e; simp at hbb
          have hs := sameAddr_far (E := E) (oa := oa) (ob := ob) hR hn.1 hn.2 hne hφa hφb
          simp [Op.equalIn, under_run hE ht, size_run hE hk, hs]
    · cases h
  · rename_i ht; cases h; cases hx.snil_inv; cases hy.snil_inv; simp [Op.equalIn, under_run hE ht]
  · rename_i ht; cases h; cases hx.snil_inv; cases hy <;> simp [Op.equalIn, under_run hE ht]
  · rename_i ht; cases h; cases hy.snil_inv; cases hx <;> simp [Op.equalIn, under_run hE ht]
  · rename_i ht; cases h; cases hx.mnil_inv; cases hy.mnil_inv; simp [Op.equalIn, under_run hE ht]
  · rename_i ht; cases h; cases hx.mnil_inv; obtain ⟨r', rfl, _⟩ := hy.map_inv; simp [Op.equalIn, under_run hE ht]
  · rename_i ht; cases h; cases hy.mnil_inv; obtain ⟨r', rfl, _⟩ := hx.map_inv; simp [Op.equalIn, under_run hE ht]
  · rename_i ht; cases h; cases hx.nilFunc_inv; cases hy.nilFunc_inv; simp [Op.equalIn, under_run hE ht]
  · rename_i ht; cases h; cases hx.nilFunc_inv; cases hy; simp [Op.equalIn, under_run hE ht]
  · rename_i ht; cases h; cases hy.nilFunc_inv; cases hx; simp [Op.equalIn, under_run hE ht]
  · cases h
end
end Go.Ev

namespace Go.Ev
set_option linter.unusedSimpArgs false
open Go.RowKit
set_option linter.unusedVariables false
set_option linter.unusedSectionVars false
variable [Sym]

section
variable {E : Env} {G : Nat} {w0 w : World} {φ : Phi} {m : Mem}

theorem part_run (hE : EnvOk E G) {t : TypeId} {d : TypeDesc} (ht : E.under t = some d) (hd : isAggD d = false) (l : List Value) (i : Nat) (v : Value) (h : l[i]? = some v) :
  (part t ⟨l⟩ i).run E.P w = .ok v w := by
 unfold part
 simp only [Sem.run_bind, agg_run hE ht, hd, Result.andThen_ok]
 simp [h]

theorem part_run_agg (hE : EnvOk E G) {t : TypeId} {d : TypeDesc} {k : Nat} (ht : E.under t = some d) (hd : isAggD d = true) (hk : E.size t = some k) (l : List Value) (i : Nat) :
  (part t ⟨l⟩ i).run E.P w = .ok (.agg ⟨(l.drop i).take k⟩) w := by
 unfold part
 simp only [Sem.run_bind, agg_run hE ht, hd, Result.andThen_ok]
 simp [size_run hE hk]

theorem eqFlds_run (hE : EnvOk E G) (d : Nat) : ∀ (fs : List Field) (i : Nat) (l r l' r' : List Value) (xs ys : List Value) (b : Bool), eqFlds E i fs l r = some b → VRs φ l l' → VRs φ r r' →
  xs.drop i = l' → ys.drop i = r' → (Op.eqFields (d + 1) ⟨xs⟩ ⟨ys⟩ fs).run E.P w = .ok b w := by
 intro fs
 induction fs with
 | nil =>
  intro i l r l' r' xs ys b h hl hr hx hy
  cases l <;> cases r <;> simp [eqFlds] at h
  subst h
  simp [Op.eqFields]
 | cons f fs ih =>
  intro i l r l' r' xs ys b h hl hr hx hy
  cases hl with
  | nil => simp [eqFlds] at h
  | cons hv hl =>
   rename_i v v' l l'
   cases hr with
   | nil => simp [eqFlds] at h
   | cons hu hr =>
    rename_i u u' r r'
    simp only [eqFlds] at h
    cases hc : (Nat.beq f.offset i && (f.name != "_")) with
    | false => simp [hc] at h
    | true =>
     simp only [hc, cond_true] at h
     simp only [Bool.and_eq_true, bne_iff_ne] at hc
     obtain ⟨ho, hn⟩ := hc
     have ho := Nat.eq_of_beq_eq_true ho
     have gx : xs[f.offset]? = some v' := by rw [ho]; have := congrArg (·[0]?) hx; simpa using this
     have gy : ys[f.offset]? = some u' := by rw [ho]; have := congrArg (·[0]?) hy; simpa using this
     have nx : xs.drop (i + 1) = l' := by rw [← List.drop_drop, hx]; rfl
     have ny : ys.drop (i + 1) = r' := by rw [← List.drop_drop, hy]; rfl
     have rec1 := fun b h => ih (i + 1) l r l' r' xs ys b h hl hr nx ny
     simp only [Op.eqFields, ne_eq, hn, not_false_eq_true, if_true]
     split at h
     ·rename_i a c ht
      cases hv.bool_inv; cases hu.bool_inv
      simp only [Sem.run_bind, part_run hE ht rfl _ _ _ gx, part_run hE ht rfl _ _ _ gy, Result.andThen_ok, run_equalIn_bool w d _ _ _ (under_eq hE ht)]
      cases hac : a == c with
      | true => simp only [hac, cond_true] at h; simpa using rec1 b h
      | false => simp only [hac, cond_false, Option.some.injEq] at h; subst h; simp
     ·rename_i k a k' c ht
      cases hv.int_inv; cases hu.int_inv
      split at h
      ·rename_i hk
       subst hk
       simp only [Sem.run_bind, part_run hE ht rfl _ _ _ gx, part_run hE ht rfl _ _ _ gy, Result.andThen_ok, run_equalIn_int w d _ _ _ _ _ (under_eq hE ht)]
       cases hac : a == c with
       | true => simp only [hac, cond_true] at h; simpa using rec1 b h
       | false => simp only [hac, cond_false, Option.some.injEq] at h; subst h; simp
      ·cases h
     ·rename_i a c ht
      cases hv.string_inv; cases hu.string_inv
      simp only [Sem.run_bind, part_run hE ht rfl _ _ _ gx, part_run hE ht rfl _ _ _ gy, Result.andThen_ok, run_equalIn_string w d _ _ _ (under_eq hE ht)]
      have e1 : (ByteArray.mk ⟨a⟩).toList = a := by rw [ByteArray.toList_eq]
      have e2 : (ByteArray.mk ⟨c⟩).toList = c := by rw [ByteArray.toList_eq]
      rw [bytesEq_eq] at h
      rw [e1, e2]
      cases hac : a == c with
      | true => simp only [hac, cond_true] at h; simpa using rec1 b h
      | false => simp only [hac, cond_false, Option.some.injEq] at h; subst h; simp
     ·cases h

theorem eqAny_run (hE : EnvOk E G) (hR : Rel E.P G w0 φ m w) {t : TypeId} {x y x' y' : Value} {r : Bool} (h : eqAny E m t x y = some r) (hx : VR φ x x') (hy : VR φ y y') :
  (Op.equal t x' y').run E.P w = .ok r w := by
 unfold eqAny at h
 split at h
 ·rename_i a b
  split at h
  ·rename_i ht
   cases h
   cases hx.bool_inv; cases hy.bool_inv
   exact run_equal_bool w t a b (under_eq hE ht)
  ·cases h
 ·rename_i a b
  split at h
  ·rename_i fs ht
   cases he : E.eqs.any (Nat.beq t) with
   | false => simp [he] at h
   | true =>
    simp only [he, cond_true] at h
    obtain ⟨l', rfl, hl⟩ := hx.agg_inv
    obtain ⟨r', rfl, hr⟩ := hy.agg_inv
    have ht' := under_eq hE ht
    have hfs : E.P.fieldsOf t = fs := by simp [Program.fieldsOf, ht']
    have := run_equalIn_struct (P := E.P) w 9999 t ⟨l'⟩ ⟨r'⟩ (by rw [hfs]; exact ht') (hE.eqs t he).1
    show (Op.equalIn (9999 + 1) t (.agg ⟨l'⟩) (.agg ⟨r'⟩)).run E.P w = _
    rw [this, hfs]
    exact eqFlds_run hE 9998 fs.toList 0 a b l' r' l' r' r h hl hr rfl rfl
  ·cases h
 ·exact eqPtr_sound hE hR h hx hy 9999

theorem eqGuard_other {P : Program} (op : BinOp) (t : TypeId) (ox oy : Operand) {a b : Value} (h1 : ¬ ∃ l r, a = .agg l ∧ b = .agg r) (h2 : ¬ (a = .nilIface ∧ b = .nilIface)) :
  (eqGuard op t ox oy a b).run P w = .ok () w := by
 cases op <;> first
  | rfl
  | (cases a <;> first
    | rfl
    | (cases b <;> first | rfl | exact absurd ⟨_, _, rfl, rfl⟩ h1 | exact absurd ⟨rfl, rfl⟩ h2))

theorem eqGuard_run (hE : EnvOk E G) {t : TypeId} {x y x' y' : Value} {r : Bool} (h : eqAny E m t x y = some r) (hx : VR φ x x') (hy : VR φ y y') (op : BinOp) (ox oy : Operand) :
  (eqGuard op t ox oy x' y').run E.P w = .ok () w := by
 by_cases hag : ∃ l r, x' = .agg l ∧ y' = .agg r
 ·obtain ⟨l, r', rfl, rfl⟩ := hag
  cases hx with
  | tok _ _ hv => simp [tokOk] at hv
  | agg hl =>
   cases hy with
   | tok _ _ hv => simp [tokOk] at hv
   | agg hr =>
    simp only [eqAny] at h
    split at h
    ·cases he : E.eqs.any (Nat.beq t) with
     | false => simp [he] at h
     | true => exact run_eqGuard_agg w op t ox oy _ _ (hE.eqs t he).2
    ·cases h
 ·have hni : ¬ (x' = .nilIface ∧ y' = .nilIface) := by
   rintro ⟨rfl, rfl⟩
   cases hx with
   | tok _ _ hv => simp [tokOk] at hv
   | nilIface =>
    cases hy with
    | tok _ _ hv => simp [tokOk] at hv
    | nilIface => simp [eqAny, eqPtr] at h
  exact eqGuard_other op t ox oy hag hni

theorem eql_form {t : TypeId} {x y x' y' : Value} {r : Bool} (h : eqAny E m t x y = some r) (hx : VR φ x x') (hy : VR φ y y') :
  Go.binOp .eql t x' y' = (do pure (.bool (← Op.equal t x' y'))) ∧ Go.binOp .neq t x' y' = (do pure (.bool (!(← Op.equal t x' y')))) := by
 unfold eqAny at h
 split at h
 ·cases hx; cases hy; exact ⟨rfl, rfl⟩
 ·cases hx; cases hy; exact ⟨rfl, rfl⟩
 ·unfold eqPtr at h
  split at h <;> first | cases h | skip
  all_goals (cases hx <;> cases hy <;> exact ⟨rfl, rfl⟩)

theorem binOp0_sound (hE : EnvOk E G) (hR : Rel E.P G w0 φ m w) {op : BinOp} {t : TypeId} {x y x' y' v : Value} (h : binOp0 E m op t x y = some v) (hx : VR φ x x') (hy : VR φ y y') (ox oy : Operand) :
  (do eqGuard op t ox oy x' y'; Go.binOp op t x' y' : Sem Value).run E.P w = .ok v w := by
 have guardInt : ∀ k n k' n', x' = .int k n → y' = .int k' n' → (eqGuard op t ox oy x' y').run E.P w = .ok () w := by
  rintro k n k' n' rfl rfl
  exact eqGuard_other op t ox oy (by simp) (by simp)
 have guardStr : ∀ s s', x' = .string s → y' = .string s' → (eqGuard op t ox oy x' y').run E.P w = .ok () w := by
  rintro s s' rfl rfl
  exact eqGuard_other op t ox oy (by simp) (by simp)
 unfold binOp0 at h
 split at h
 ·cases hx.int_inv; cases hy.int_inv
  rw [Sem.run_bind, guardInt _ _ _ _ rfl rfl]
  exact shiftOp_run h t (.inl rfl)
 ·cases hx.int_inv; cases hy.int_inv
  rw [Sem.run_bind, guardInt _ _ _ _ rfl rfl]
  exact shiftOp_run h t (.inr rfl)
 ·rename_i k a k' b hs1 hs2
  split at h
  ·rename_i hk
   subst hk
   cases hx.int_inv; cases hy.int_inv
   rw [Sem.run_bind, guardInt _ _ _ _ rfl rfl]
   refine intOp_run h ?_ ?_ t
   ·exact fun e => hs1 e
   ·exact fun e => hs2 e
  ·cases h
 ·cases hx.string_inv; cases hy.string_inv
  rw [Sem.run_bind, guardStr _ _ rfl rfl]
  exact strOp_run h t
 ·rename_i hni hns
  split at h
  ·cases h
  ·rename_i r hr
   cases h
   rw [Sem.run_bind, eqGuard_run hE hr hx hy, (eql_form hr hx hy).1]
   simp [eqAny_run hE hR hr hx hy]
 ·rename_i hni hns
  split at h
  ·cases h
  ·rename_i r hr
   cases h
   rw [Sem.run_bind, eqGuard_run hE hr hx hy, (eql_form hr hx hy).2]
   simp [eqAny_run hE hR hr hx hy]
 ·cases h

theorem intOp_plain {op : BinOp} {k : IntKind} {a b : Int} {v : Value} (h : intOp op k a b = some v) : plainV v = true := by
 cases op <;> simp only [intOp, Option.some.injEq] at h <;> first | (subst h; rfl) | (cases h; done) | (split at h <;> first | (cases h; done) | (cases h; rfl))

theorem strOp_plain {op : BinOp} {a b : List UInt8} {v : Value} (h : strOp op a b = some v) : plainV v = true := by
 cases op <;> simp only [strOp, Option.some.injEq] at h <;> first | (subst h; rfl) | cases h | (cases hb : Nat.ble (a.length + b.length) 4611686018427387904 <;> simp [hb] at h; subst h; rfl)

theorem shiftOp_plain {op : BinOp} {k : IntKind} {a b : Int} {v : Value} (h : shiftOp op k a b = some v) : plainV v = true := by
 unfold shiftOp at h
 split at h
 ·cases h
 ·cases op <;> simp at h <;> subst h <;> rfl

theorem binOp0_plain {op : BinOp} {t : TypeId} {x y v : Value} (h : binOp0 E m op t x y = some v) : VR φ v v := by
 refine VR.plain v ?_
 unfold binOp0 at h
 split at h
 ·exact shiftOp_plain h
 ·exact shiftOp_plain h
 ·split at h
  ·exact intOp_plain h
  ·cases h
 ·exact strOp_plain h
 ·split at h <;> cases h; rfl
 ·split at h <;> cases h; rfl
 ·cases h

theorem binOp_sound (hE : EnvOk E G) (hR : Rel E.P G w0 φ m w) {op : BinOp} {t : TypeId} {x y x' y' v : Value} (h : binOp E m op t x y = some v) (hx : VR φ x x') (hy : VR φ y y') (ox oy : Operand) :
  (do eqGuard op t ox oy x' y'; Go.binOp op t x' y' : Sem Value).run E.P w = .ok v w ∧ VR φ v v := by
 unfold binOp at h
 split at h
 ·rename_i r hf
  cases h
  cases hb : (isTok x || isTok y) with
  | false => rw [hb] at hf; cases hf
  | true =>
   rw [hb] at hf
   obtain ⟨u, z, h1, h2, h3, h4, h5⟩ := hE.facts op x y v hf
   obtain rfl := h1 φ x' hx
   obtain rfl := h2 φ y' hy
   exact ⟨binOp0_sound hE hR (h5 m t) (VR.plain _ h3) (VR.plain _ h4) ox oy, binOp0_plain (h5 m t)⟩
 ·exact ⟨binOp0_sound hE hR h hx hy ox oy, binOp0_plain h⟩

theorem unOp_plain {op : UnOp} {x v : Value} (h : unOp op x = some v) : VR φ v v := by
 unfold unOp at h
 split at h <;> cases h <;> constructor

end
end Go.Ev

namespace Go.Ev
set_option linter.unusedSimpArgs false
open Go.RowKit
set_option linter.unusedVariables false
set_option linter.unusedSectionVars false
variable [Sym]

theorem over_get : ∀ (v l : List Value) (i : Nat), v.length ≤ l.length → (splice.over v l)[i]? = if i < v.length then v[i]? else l[i]?
 | [], l, i, _ => by simp [splice.over]
 | a :: v, [], i, h => by simp at h
 | a :: v, b :: l, 0, h => by simp [splice.over]
 | a :: v, b :: l, i + 1, h => by
  simp only [splice.over, List.getElem?_cons_succ, List.length_cons]
  rw [over_get v l i (by simpa using h)]
  by_cases hi : i < v.length
  ·rw [if_pos hi, if_pos (by omega)]
  ·rw [if_neg hi, if_neg (by omega)]

theorem splice_get : ∀ (off : Nat) (v l : List Value) (i : Nat), off + v.length ≤ l.length → (splice off v l)[i]? = if off ≤ i ∧ i < off + v.length then v[i - off]? else l[i]?
 | 0, v, l, i, h => by
  have : splice 0 v l = splice.over v l := by cases l <;> rfl
  rw [this, over_get v l i (by omega)]
  simp
 | off + 1, v, [], i, h => by simp at h
 | off + 1, v, b :: l, 0, h => by simp [splice]
 | off + 1, v, b :: l, i + 1, h => by
  simp only [splice, List.getElem?_cons_succ]
  rw [splice_get off v l i (by simp at h; omega)]
  by_cases hi : off ≤ i ∧ i < off + v.length
  ·rw [if_pos hi, if_pos (by omega), show i + 1 - (off + 1) = i - off by omega]
  ·rw [if_neg hi, if_neg (by omega)]

theorem splice_len (off : Nat) (v l : List Value) (h : off + v.length ≤ l.length) : (splice off v l).length = l.length := by
 apply Nat.le_antisymm
 ·refine Nat.le_of_not_lt fun hlt => ?_
  have := splice_get off v l l.length h
  rw [if_neg (by omega), List.getElem?_eq_none (Nat.le_refl _)] at this
  rw [List.getElem?_eq_none_iff] at this
  omega
 ·refine Nat.le_of_not_lt fun hlt => ?_
  have := splice_get off v l (splice off v l).length h
  rw [List.getElem?_eq_none (Nat.le_refl _)] at this
  split at this
  ·rename_i hc
   rw [eq_comm, List.getElem?_eq_none_iff] at this
   omega
  ·rw [eq_comm, List.getElem?_eq_none_iff] at this
   omega

theorem setAll_get (off : Nat) : ∀ (l : List Value) (k : Nat) (A : Array Value) (i : Nat), off + k + l.length ≤ A.size →
  ((l.zipIdx k).foldl (fun cs (x : Value × Nat) => cs.setIfInBounds (off + x.2) x.1) A)[i]? = if off + k ≤ i ∧ i < off + k + l.length then l[i - (off + k)]? else A[i]?
 | [], k, A, i, h => by
  have hn : ¬ (off + k ≤ i ∧ i < off + k + ([] : List Value).length) := by simp only [List.length_nil]; omega
  rw [if_neg hn]; rfl
 | v :: l, k, A, i, h => by
  simp only [List.length_cons] at h
  simp only [List.zipIdx_cons, List.foldl_cons]
  rw [setAll_get off l (k + 1) _ i (by rw [Array.size_setIfInBounds]; omega)]
  by_cases hi : off + (k + 1) ≤ i ∧ i < off + (k + 1) + l.length
  ·rw [if_pos hi, if_pos (by simp only [List.length_cons]; omega), show i - (off + k) = (i - (off + (k + 1))) + 1 by omega]; rfl
  ·rw [if_neg hi]
   by_cases he : i = off + k
   ·subst he
    rw [if_pos (by simp only [List.length_cons]; omega), Array.getElem?_setIfInBounds, if_pos rfl, if_pos (by omega)]
    simp
   ·rw [if_neg (by simp only [List.length_cons]; omega), Array.getElem?_setIfInBounds, if_neg (by omega)]

theorem zipFold (off : Nat) (v : Array Value) (A : Array Value) :
  v.zipIdx.foldl (fun cs (x : Value × Nat) => cs.setIfInBounds (off + x.2) x.1) A = (v.toList.zipIdx 0).foldl (fun cs (x : Value × Nat) => cs.setIfInBounds (off + x.2) x.1) A := by
 rw [← Array.foldl_toList, Array.toList_zipIdx]

/-- parts put over cells, in both. -/
theorem fill_sound {φ : Phi} {place : Nat → Option (Nat × Nat)} : ∀ (parts : List (Nat × Value)) (parts' : List (Nat × Value)) (cells cells' r : List Value),
  parts.map (·.1) = parts'.map (·.1) → VRs φ (parts.map (·.2)) (parts'.map (·.2)) → VRs φ cells cells' → fill place cells parts = some r →
  ∃ r', Instr.fill place ⟨cells'⟩ parts' = some ⟨r'⟩ ∧ VRs φ r r' := by
 intro parts
 induction parts with
 | nil =>
  intro parts' cells cells' r hi hv hc h
  have : parts' = [] := by simpa using hi.symm
  subst this
  cases h
  exact ⟨cells', rfl, hc⟩
 | cons p parts ih =>
  intro parts' cells cells' r hi hv hc h
  obtain ⟨i, v⟩ := p
  cases parts' with
  | nil => simp at hi
  | cons p' parts' =>
   obtain ⟨i', v'⟩ := p'
   simp only [List.map_cons, List.cons.injEq] at hi
   obtain ⟨rfl, hi⟩ := hi
   simp only [List.map_cons] at hv
   cases hv with
   | cons hv hvs =>
   simp only [fill] at h
   cases hp : place i with
   | none => simp [hp] at h
   | some q =>
    obtain ⟨off, size⟩ := q
    simp only [hp] at h
    cases hb : (Nat.beq (cellsOf v).length size && Nat.ble (off + size) cells.length) with
    | false => simp [hb] at h
    | true =>
     simp only [hb, cond_true] at h
     simp only [Bool.and_eq_true] at hb
     have hs := Nat.eq_of_beq_eq_true hb.1
     have hl := Nat.le_of_ble_eq_true hb.2
     have hcv := hv.cells
     have hlv : v'.cells.toList.length = (cellsOf v).length := hcv.length.symm
     have hlc : cells'.length = cells.length := hc.length.symm
     have hsz : v'.cells.size = size := by rw [← Array.length_toList, hlv, hs]
     simp only [Instr.fill, hp]
     have hcond : (decide (v'.cells.size ≠ size) || decide (off + v'.cells.size > (⟨cells'⟩ : Array Value).size)) = false := by
      have : (⟨cells'⟩ : Array Value).size = cells'.length := rfl
      simp [hsz, this]; omega
     simp only [hcond]
     have key : v'.cells.zipIdx.foldl (fun cs (x : Value × Nat) => cs.setIfInBounds (off + x.2) x.1) (⟨cells'⟩ : Array Value) = ⟨splice off v'.cells.toList cells'⟩ := by
      rw [zipFold]
      apply Array.ext_getElem?
      intro j
      have hb : off + 0 + v'.cells.toList.length ≤ (⟨cells'⟩ : Array Value).size := by
       show _ ≤ cells'.length
       omega
      rw [setAll_get off v'.cells.toList 0 ⟨cells'⟩ j hb]
      have := splice_get off v'.cells.toList cells' j (by omega)
      simp only [Nat.add_zero, List.getElem?_toArray]
      rw [this]
     have hsp : VRs φ (splice off (cellsOf v) cells) (splice off v'.cells.toList cells') := by
      refine VRs.of_get ?_ ?_
      ·rw [splice_len _ _ _ (by omega), splice_len _ _ _ (by omega)]; exact hlc.symm
      ·intro j x x' hx hx'
       rw [splice_get _ _ _ _ (by omega)] at hx hx'
       by_cases hj : off ≤ j ∧ j < off + (cellsOf v).length
       ·rw [if_pos hj] at hx
        rw [if_pos (by omega)] at hx'
        obtain ⟨y, hy, hxy⟩ := hcv.get _ _ hx
        rw [hy] at hx'; cases hx'; exact hxy
       ·rw [if_neg hj] at hx
        rw [if_neg (by omega)] at hx'
        obtain ⟨y, hy, hxy⟩ := hc.get _ _ hx
        rw [hy] at hx'; cases hx'; exact hxy
     obtain ⟨r', h1, h2⟩ := ih parts' _ _ r hi hvs hsp h
     refine ⟨r', ?_, h2⟩
     simp only [Bool.false_eq_true, if_false]
     rw [← h1]
     congr 1

section
variable {E : Env} {G : Nat} {w0 w : World} {φ : Phi} {m : Mem}

theorem parts_rel {ρ ρ' : Rho} : ∀ (parts : List (Nat × Operand)), (∀ p ∈ parts, VR φ (ρ p.2) (ρ' p.2)) →
  (parts.map fun p => (p.1, ρ p.2)).map (·.1) = (parts.map fun p => (p.1, ρ' p.2)).map (·.1) ∧ VRs φ ((parts.map fun p => (p.1, ρ p.2)).map (·.2)) ((parts.map fun p => (p.1, ρ' p.2)).map (·.2))
 | [], _ => ⟨rfl, .nil⟩
 | p :: l, h => by
  obtain ⟨a, b⟩ := parts_rel l fun q hq => h q (by simp [hq])
  refine ⟨by simp, ?_⟩
  simp only [List.map_cons]
  exact .cons (h p (by simp)) b

theorem places_run (hE : EnvOk E G) : ∀ (fs : List Field) (l : List (Nat × Nat)), places E fs = some l →
  (fs.mapM (m := Sem) fun f => do pure (f.offset, ← sizeOf f.type)).run E.P w = .ok l w
 | [], l, h => by simp [places] at h; subst h; simp
 | f :: fs, l, h => by
  simp only [places] at h
  split at h
  ·rename_i k r hk hr
   cases h
   have ih := places_run hE fs r hr
   simp only [List.mapM_cons, Sem.run_bind, size_run hE hk, Result.andThen_ok, Sem.run_pure, ih]
  ·cases h

theorem places_run_array (hE : EnvOk E G) (fs : Array Field) (l : List (Nat × Nat)) (h : places E fs.toList = some l) :
  (fs.mapM (m := Sem) fun f => do pure (f.offset, ← sizeOf f.type)).run E.P w = .ok ⟨l⟩ w := by
 rw [Array.mapM_eq_mapM_toList]
 have := places_run (w := w) hE fs.toList l h
 simp only [Sem.run_map, this, Result.andThen_ok]

end
end Go.Ev

namespace Go.Ev
set_option linter.unusedSimpArgs false
open Go.RowKit
set_option linter.unusedVariables false
set_option linter.unusedSectionVars false
variable [Sym]

section
variable {E : Env} {G : Nat} {w0 w : World} {φ : Phi} {m : Mem} {ρ ρ' : Rho}

theorem q_fieldAddr (hE : EnvOk E G) {s : TypeId} {f : Nat} {fs : Array Field} {fd : Field} {b o k : Nat} {x' : Value} (hs : E.under s = some (.struct fs)) (hf : nth fs.toList f = some fd)
  (hk : E.size fd.type = some (k + 1)) (hx : VR φ (.pointer (some ⟨b, o, none⟩)) x') :
  ∃ v', (Instr.fieldAt s x' f).run E.P w = .ok v' w ∧ VR φ (.pointer (some ⟨b, o + fd.offset, none⟩)) v' := by
 obtain ⟨b', rfl, hφ⟩ := hx.ptr_inv
 rw [nth_eq] at hf
 have hf' : fs[f]? = some fd := by simpa using hf
 refine ⟨.pointer (some ⟨b', o + fd.offset, none⟩), ?_, .ptr _ hφ⟩
 simp only [Instr.fieldAt, Sem.run_bind, under_run hE hs, Result.andThen_ok, hf', Instr.sureAddr, Sem.run_pure, fieldPlace, size_run hE hk, Sem.run_ite]
 simp [add_at]

theorem q_indexAddr_slice (hE : EnvOk E G) {t e : TypeId} {k b o i len cap : Nat} {ki : IntKind} {x' : Value} (ht : E.under t = some (.slice e)) (hk : E.size e = some k) (hi : i < len)
  (hx : VR φ (.slice (some ⟨b, o, none⟩) len cap) x') :
  ∃ v', (Instr.indexAt t x' (.int ki (.ofNat i))).run E.P w = .ok v' w ∧ VR φ (.pointer (some ⟨b, o + i * k, none⟩)) v' := by
 obtain ⟨b', c', rfl, hφ, _⟩ := hx.slice_inv
 refine ⟨.pointer (some ⟨b', o + i * k, none⟩), ?_, .ptr _ hφ⟩
 simp only [Instr.indexAt, asIntOf, Sem.run_bind, Sem.run_pure, Result.andThen_ok, under_run hE ht, size_run hE hk, Sem.run_ite]
 simp [add_at, hi]

theorem q_indexAddr_array (hE : EnvOk E G) {t e : TypeId} {k b o i len : Nat} {ki : IntKind} {x' : Value} (ht : E.under t = some (.array len e)) (hk : E.size e = some k) (hi : i < len)
  (hx : VR φ (.pointer (some ⟨b, o, none⟩)) x') :
  ∃ v', (Instr.indexAt t x' (.int ki (.ofNat i))).run E.P w = .ok v' w ∧ VR φ (.pointer (some ⟨b, o + i * k, none⟩)) v' := by
 obtain ⟨b', rfl, hφ⟩ := hx.ptr_inv
 refine ⟨.pointer (some ⟨b', o + i * k, none⟩), ?_, .ptr _ hφ⟩
 simp only [Instr.indexAt, asIntOf, Sem.run_bind, Sem.run_pure, Result.andThen_ok, under_run hE ht, size_run hE hk, Sem.run_ite, Instr.sureAddr]
 simp [add_at, hi]

theorem q_index_string (hE : EnvOk E G) {t : TypeId} {i : Nat} {ki : IntKind} {s : List UInt8} {c : UInt8} (ht : E.under t = some .string) (hc : nth s i = some c) :
  (Instr.index t (.string ⟨⟨s⟩⟩) (.int ki (.ofNat i))).run E.P w = .ok (.int .u8 c.toNat) w := by
 rw [nth_eq] at hc
 have hlt : i < s.length := by
  rcases Nat.lt_or_ge i s.length with h | h
  ·exact h
  ·rw [List.getElem?_eq_none h] at hc; cases hc
 have hb : (ByteArray.mk ⟨s⟩)[i]? = some c := by
  have hsz : i < (ByteArray.mk ⟨s⟩).size := hlt
  rw [getElem?_pos (ByteArray.mk ⟨s⟩) i hsz]
  congr 1
  have : s[i]? = some s[i] := List.getElem?_eq_getElem hlt
  rw [this] at hc
  exact Option.some.inj hc
 simp only [Instr.index, asIntOf, Sem.run_bind, Sem.run_pure, Result.andThen_ok, under_run hE ht]
 have h0 : (0 : Int) ≤ Int.ofNat i := Int.natCast_nonneg i
 rw [if_pos h0, show (Int.ofNat i).toNat = i from rfl, hb]
 rfl

theorem q_index_cell (hE : EnvOk E G) {t e : TypeId} {i len : Nat} {ki : IntKind} {l l' : List Value} {d : TypeDesc} {v : Value} (ht : E.under t = some (.array len e)) (hk : E.size e = some 1) (hd : E.under e = some d)
  (ha : isAggD d = false) (hi : i < len) (hv : nth l i = some v) (hl : VRs φ l l') : ∃ v', (Instr.index t (.agg ⟨l'⟩) (.int ki (.ofNat i))).run E.P w = .ok v' w ∧ VR φ v v' := by
 rw [nth_eq] at hv
 obtain ⟨v', h1, h2⟩ := hl.get i v hv
 refine ⟨v', ?_, h2⟩
 simp only [Instr.index, asIntOf, Sem.run_bind, Sem.run_pure, Result.andThen_ok, under_run hE ht, Sem.run_ite, size_run hE hk]
 have := part_run (w := w) hE hd ha l' i v' h1
 simp [hi, this]

theorem q_index_agg (hE : EnvOk E G) {t e : TypeId} {i len k : Nat} {ki : IntKind} {l l' : List Value} {d : TypeDesc} (ht : E.under t = some (.array len e)) (hk : E.size e = some k) (hd : E.under e = some d)
  (ha : isAggD d = true) (hi : i < len) (hl : VRs φ l l') : ∃ v', (Instr.index t (.agg ⟨l'⟩) (.int ki (.ofNat i))).run E.P w = .ok v' w ∧ VR φ (.agg ⟨(l.drop (i * k)).take k⟩) v' := by
 refine ⟨.agg ⟨(l'.drop (i * k)).take k⟩, ?_, .agg ((hl.drop _).take _)⟩
 simp only [Instr.index, asIntOf, Sem.run_bind, Sem.run_pure, Result.andThen_ok, under_run hE ht, Sem.run_ite, size_run hE hk]
 have := part_run_agg (w := w) hE hd ha hk l' (i * k)
 simp [hi, this]

theorem q_field (hE : EnvOk E G) {t : TypeId} {f k : Nat} {fs : Array Field} {fd : Field} {l l' : List Value} {d : TypeDesc} {v : Value} (ht : E.under t = some (.struct fs)) (hf : nth fs.toList f = some fd)
  (hk : E.size fd.type = some k) (hd : E.under fd.type = some d) (h : (bif isAggD d then some (.agg ⟨(l.drop fd.offset).take k⟩) else nth l fd.offset) = some v) (hl : VRs φ l l') :
  ∃ v', (Instr.field t (.agg ⟨l'⟩) f).run E.P w = .ok v' w ∧ VR φ v v' := by
 rw [nth_eq] at hf
 have hf' : fs[f]? = some fd := by simpa using hf
 simp only [Instr.field, Sem.run_bind, under_run hE ht, Result.andThen_ok, hf', asAgg, Sem.run_pure]
 cases ha : isAggD d with
 | true =>
  simp only [ha, cond_true, Option.some.injEq] at h
  subst h
  exact ⟨_, part_run_agg hE hd ha hk l' _, .agg ((hl.drop _).take _)⟩
 | false =>
  simp only [ha, cond_false] at h
  rw [nth_eq] at h
  obtain ⟨v', h1, h2⟩ := hl.get _ v h
  exact ⟨v', part_run hE hd ha l' _ v' h1, h2⟩

theorem bound_run {d l y : Nat} {code : BoundsCode} {lo : Option Operand} (hρ : ∀ x, lo = some x → VR φ (ρ x) (ρ' x)) (h : bound ρ d lo = some l) (hl : l ≤ y) (W : World) :
  (match lo.map ρ' with | some v => Instr.sliceBound v y code | none => pure d : Sem Nat).run E.P W = .ok l W := by
 cases lo with
 | none => simp only [bound, Option.some.injEq] at h; subst h; rfl
 | some x =>
  have hv := hρ x rfl
  simp only [bound] at h
  split at h
  ·rename_i k n hx
   cases h
   rw [hx] at hv
   have e := hv.int_inv
   simp only [Option.map_some, e, Instr.sliceBound, asIntOf, Sem.run_bind, Sem.run_pure, Result.andThen_ok, Sem.run_ite]
   have : (0 : Int) ≤ Int.ofNat l ∧ Int.ofNat l ≤ (y : Int) := ⟨Int.natCast_nonneg l, by simpa using hl⟩
   rw [if_pos this]
   rfl
  ·cases h

theorem bounds_run {isS : Bool} {len cap l h : Nat} {lo hi : Option Operand} (hlo : ∀ x, lo = some x → VR φ (ρ x) (ρ' x)) (hhi : ∀ x, hi = some x → VR φ (ρ x) (ρ' x))
  (h1 : bound ρ 0 lo = some l) (h2 : bound ρ len hi = some h) (hlh : l ≤ h) (hc : h ≤ cap) :
  (Instr.sliceBounds isS len cap (lo.map ρ') (hi.map ρ') none).run E.P w = .ok (l, h, cap) w := by
 unfold Instr.sliceBounds
 have b2 := bound_run (E := E) (y := cap) (code := if isS then .sliceAcap else .sliceAlen) hhi h2 hc w
 have b1 := bound_run (E := E) (y := h) (code := .sliceB) hlo h1 hlh w
 simp only [Sem.run_bind, Sem.run_pure, Result.andThen_ok]
 cases hi with
 | none =>
  simp only [bound, Option.some.injEq] at h2
  subst h2
  simp only [Option.map_none, Sem.run_bind, Sem.run_pure, Result.andThen_ok]
  simp only [Option.isSome_none, Bool.false_eq_true, if_false]
  cases lo with
  | none => simp only [bound, Option.some.injEq] at h1; subst h1; rfl
  | some x => simp only [Option.map_some] at b1 ⊢; simp [b1]
 | some y =>
  simp only [Option.map_some, Option.isSome_none, Bool.false_eq_true, if_false] at b2 ⊢
  rw [Sem.run_bind, b2]
  simp only [Result.andThen_ok]
  cases lo with
  | none => simp only [bound, Option.some.injEq] at h1; subst h1; rfl
  | some x => simp only [Option.map_some] at b1 ⊢; simp [b1]

end
end Go.Ev

namespace Go.Ev
set_option linter.unusedSimpArgs false
open Go.RowKit
set_option linter.unusedVariables false
set_option linter.unusedSectionVars false
variable [Sym]

section
variable {E : Env} {G : Nat} {w0 w : World} {φ : Phi} {m : Mem} {ρ ρ' : Rho}

theorem q_slice (hE : EnvOk E G) {t : TypeId} {x : Operand} {lo hi : Option Operand} {v : Value} (hx : VR φ (ρ x) (ρ' x)) (hlo : ∀ y, lo = some y → VR φ (ρ y) (ρ' y)) (hhi : ∀ y, hi = some y → VR φ (ρ y) (ρ' y))
  (mx : Option Operand) (h : quiet E m ρ (.slice t x lo hi mx) = some v) : ∃ v', (Instr.sliceAt t (ρ' x) (lo.map ρ') (hi.map ρ') (mx.map ρ')).run E.P w = .ok v' w ∧ VR φ v v' := by
 simp only [quiet] at h
 split at h
 ·-- a string
  rename_i s ht hxe
  rw [hxe] at hx
  have e := hx.string_inv
  rw [e]
  split at h
  ·rename_i l hh h1 h2
   cases hb : (Nat.ble l hh && Nat.ble hh s.length) with
   | false => simp [hb] at h
   | true =>
    simp only [hb, cond_true, Option.some.injEq] at h
    subst h
    simp only [Bool.and_eq_true] at hb
    have hl := Nat.le_of_ble_eq_true hb.1
    have hs := Nat.le_of_ble_eq_true hb.2
    have hbr := bounds_run (E := E) (w := w) (isS := false) (cap := (ByteArray.mk ⟨s⟩).size) hlo hhi h1 h2 hl hs
    refine ⟨.string ((ByteArray.mk ⟨s⟩).extract l hh), ?_, ?_⟩
    ·have hsz : (ByteArray.mk ⟨s⟩).size = s.length := rfl
     rw [hsz] at hbr
     simp only [Instr.sliceAt, Sem.run_bind, under_run hE ht, Result.andThen_ok, Option.map_none, Instr.slice, Option.isSome_none, Bool.false_eq_true, if_false, hsz, hbr, Sem.run_pure]
    ·have : (ByteArray.mk ⟨s⟩).extract l hh = ⟨⟨(s.drop l).take (hh - l)⟩⟩ := by
      apply ByteArray.ext
      apply Array.ext'
      simp
     rw [this]
     exact .string _
  ·cases h
 ·-- nil
  rename_i e ht hxe
  rw [hxe] at hx
  have e' := hx.snil_inv
  rw [e']
  split at h
  ·rename_i h1 h2
   split at h
   ·rename_i k hk
    cases h
    have hbr := bounds_run (E := E) (w := w) (isS := true) (cap := 0) hlo hhi h1 h2 (Nat.le_refl _) (Nat.le_refl _)
    refine ⟨.slice none 0 0, ?_, .snil 0 0⟩
    simp only [Instr.sliceAt, Sem.run_bind, under_run hE ht, Result.andThen_ok, Option.map_none, Instr.slice, hbr, size_run hE hk, Sem.run_pure]
    simp
   ·cases h
  ·cases h
 ·rename_i e b o len cap ht hxe
  rw [hxe] at hx
  obtain ⟨b', c', e', hφ, hcc, hck⟩ := hx.slice_inv
  rw [e']
  split at h
  ·rename_i l hh h1 h2
   cases hb : (Nat.ble l hh && Nat.ble hh cap) with
   | false => simp [hb] at h
   | true =>
    simp only [hb, cond_true] at h
    simp only [Bool.and_eq_true] at hb
    have hl := Nat.le_of_ble_eq_true hb.1
    have hs := Nat.le_of_ble_eq_true hb.2
    have hbr := bounds_run (E := E) (w := w) (isS := true) (cap := c') hlo hhi h1 h2 hl (by omega)
    cases hlc : (Nat.beq l 0 || Nat.blt l cap) with
    | true =>
     simp only [hlc, cond_true] at h
     split at h
     ·rename_i k hk
      cases h
      refine ⟨.slice (some ⟨b', o + l * k, none⟩) (hh - l) (c' - l), ?_, .slice _ _ hφ (by omega)⟩
      simp only [Instr.sliceAt, Sem.run_bind, under_run hE ht, Result.andThen_ok, Option.map_none, Instr.slice, hbr, size_run hE hk, Sem.run_pure, Option.map_some]
      simp only [Bool.or_eq_true, Nat.blt_eq] at hlc
      congr 2
      rcases hlc with h0 | hlt
      ·have := Nat.eq_of_beq_eq_true h0
       subst this
       simp [add_at]
      ·rw [if_neg (by omega), add_at]
     ·cases h
    | false =>
     simp only [hlc, cond_false] at h
     split at h
     ·rename_i k hk
      cases h
      have hcl : l = cap := by
       rcases Nat.lt_or_ge l cap with hlt | hge
       ·simp only [Bool.or_eq_false_iff] at hlc
        have := hlc.2
        rw [show Nat.blt l cap = true by rw [Nat.blt_eq]; exact hlt] at this
        cases this
       ·omega
      have hhl : hh = l := by omega
      subst hcl
      subst hhl
      refine ⟨.slice (if c' = hh then some ⟨b', o, none⟩ else some ((⟨b', o, none⟩ : Addr).add (hh * k))) (hh - hh) (c' - hh), ?_, ?_⟩
      ·simp only [Instr.sliceAt, Sem.run_bind, under_run hE ht, Result.andThen_ok, Option.map_none, Instr.slice, hbr, size_run hE hk, Sem.run_pure, Option.map_some]
      ·rw [Nat.sub_self]
       split <;> exact .slost _ _ _ _ _
     ·cases h
  ·cases h
 ·rename_i e b o s ht hxe
  rw [hxe] at hx
  obtain ⟨a, c', e', _, _⟩ := hx.slost_inv
  rw [e']
  split at h
  ·rename_i h1 h2
   split at h
   ·rename_i k hk
    cases h
    have hbr := bounds_run (E := E) (w := w) (isS := true) (cap := c') hlo hhi h1 h2 (Nat.le_refl _) (Nat.zero_le _)
    refine ⟨.slice (some a) 0 c', ?_, .slost _ _ _ _ _⟩
    simp only [Instr.sliceAt, Sem.run_bind, under_run hE ht, Result.andThen_ok, Option.map_none, Instr.slice, hbr, size_run hE hk, Sem.run_pure, Option.map_some]
    simp [Addr.add]
   ·cases h
  ·cases h
 ·cases h

theorem bytesOfCells_rel : ∀ (l l' : List Value) (r : List UInt8), bytesOfCells l = some r → VRs φ l l' → l' = l := by
 intro l
 induction l with
 | nil => intro l' r _ h; cases h; rfl
 | cons v l ih =>
  intro l' r h hv
  cases hv with
  | cons h1 h2 =>
   unfold bytesOfCells at h
   split at h
   ·rename_i heq; cases heq
   ·rename_i n t heq
    cases heq
    cases h1.int_inv
    split at h
    ·cases h
    ·rename_i r' hr
     rw [ih _ _ hr h2]
   ·cases h

theorem bytesLoop : ∀ (l : List Value) (r : List UInt8) (s : ByteArray), bytesOfCells l = some r →
  (forIn (m := Sem) l s fun c s =>
   match c with
   | .int .u8 n => pure (ForInStep.yield (s.push (UInt8.ofNat n.toNat)))
   | _ => do
    (stuck "bytesToString: byte expected" : Sem PUnit)
    pure (ForInStep.yield s)).run E.P w = .ok ⟨⟨s.data.toList ++ r⟩⟩ w := by
 intro l
 induction l with
 | nil =>
  intro r s h
  simp only [bytesOfCells, Option.some.injEq] at h
  subst h
  simp
 | cons v l ih =>
  intro r s h
  unfold bytesOfCells at h
  split at h
  ·rename_i heq; cases heq
  ·rename_i n t heq
   cases heq
   split at h
   ·cases h
   ·rename_i r' hr
    cases h
    simp only [List.forIn_cons, Sem.run_bind, Sem.run_pure, Result.andThen_ok]
    rw [ih _ _ hr]
    congr 3
    simp
  ·cases h

theorem q_convert (hE : EnvOk E G) (hR : Rel E.P G w0 φ m w) {s d : TypeId} {x : Operand} {v : Value} (hx : VR φ (ρ x) (ρ' x)) (h : quiet E m ρ (.convert s d x) = some v) :
  ∃ v', (Go.convert s d (ρ' x)).run E.P w = .ok v' w ∧ VR φ v v' := by
 simp only [quiet] at h
 split at h
 ·rename_i d' k k' n hs hd hxe
  cases h
  rw [hxe] at hx
  rw [hx.int_inv]
  refine ⟨_, ?_, .int k _⟩
  simp only [Go.convert, Sem.run_bind, under_run hE hs, under_run hE hd, Result.andThen_ok]
  cases d' <;> rfl
 ·rename_i d' str hs hd hxe
  cases h
  rw [hxe] at hx
  rw [hx.string_inv]
  refine ⟨_, ?_, .string str⟩
  simp only [Go.convert, Sem.run_bind, under_run hE hs, under_run hE hd, Result.andThen_ok]
  cases d' <;> rfl
 ·rename_i e n c hs hd hxe
  split at h
  ·rename_i he
   cases h
   rw [hxe] at hx
   rw [hx.snil_inv]
   refine ⟨_, ?_, .string _⟩
   simp only [Go.convert, Sem.run_bind, under_run hE hs, under_run hE hd, Result.andThen_ok, under_run hE he, Conv.bytesToString]
   rfl
  ·cases h
 ·rename_i e b o len c hs hd hxe
  split at h
  ·rename_i n cc e' kd he hm
   cases hb : Nat.ble (o + len) n with
   | false => simp [hb] at h
   | true =>
    simp only [hb, cond_true] at h
    cases hc : cellsFrom cc o len with
    | none => simp [hc] at h
    | some l =>
     simp only [hc] at h
     cases hr : bytesOfCells l with
     | none => simp [hr] at h
     | some r =>
      simp only [hr, Option.some.injEq] at h
      subst h
      rw [hxe] at hx
      obtain ⟨b', c', e'', hφ, _⟩ := hx.slice_inv
      rw [e'']
      obtain ⟨l', h1, h2, h3⟩ := loadCells_sound (E := E) hR hm hφ (Nat.le_of_ble_eq_true hb) hc
      obtain rfl := bytesOfCells_rel l l' r hr h2
      refine ⟨_, ?_, .string _⟩
      simp only [Go.convert, Sem.run_bind, under_run hE hs, under_run hE hd, Result.andThen_ok, under_run hE he, Conv.bytesToString, h1]
      rw [← Array.forIn_toList]
      have := bytesLoop (E := E) (w := w) l' r ByteArray.empty hr
      refine (congrArg (fun q => Result.andThen q _) this).trans ?_
      simp
  ·cases h
 ·cases h

end
end Go.Ev

namespace Go.Ev
set_option linter.unusedSimpArgs false
open Go.RowKit
set_option linter.unusedVariables false
set_option linter.unusedSectionVars false
variable [Sym]

section
variable {E : Env} {G : Nat} {w0 w : World} {φ : Phi} {m : Mem} {ρ ρ' : Rho}

theorem find_form {kt : TypeId} {k : Value} : ∀ (es : List (Value × Value)) (r : Option Value), quiet.find E m kt k es = some r →
  (r = none ∧ quiet.keyOk E kt k = true ∧ ∀ e ∈ es, quiet.eqKey E m kt k e.1 = some false) ∨
  (∃ pre k0 v post, es = pre ++ (k0, v) :: post ∧ r = some v ∧ (∀ e ∈ pre, quiet.eqKey E m kt k e.1 = some false) ∧ quiet.eqKey E m kt k k0 = some true)
 | [], r, h => by
  cases hk : quiet.keyOk E kt k with
  | false => simp [quiet.find, hk] at h
  | true => simp [quiet.find, hk] at h; exact .inl ⟨h.symm, rfl, by simp⟩
 | (k', v) :: es, r, h => by
  simp only [quiet.find] at h
  split at h
  ·cases h
  ·rename_i hk; cases h; exact .inr ⟨[], k', v, es, rfl, rfl, by simp, hk⟩
  ·rename_i hk
   rcases find_form es r h with ⟨h1, h0, h2⟩ | ⟨pre, k0, v0, post, h1, h2, h3, h4⟩
   ·exact .inl ⟨h1, h0, fun e he => (List.mem_cons.1 he).elim (fun hh => hh ▸ hk) (fun hh => h2 e hh)⟩
   ·refine .inr ⟨(k', v) :: pre, k0, v0, post, by rw [h1]; rfl, h2, fun e he => (List.mem_cons.1 he).elim (fun hh => hh ▸ hk) (fun hh => h3 e hh), h4⟩

theorem upd_form {kt : TypeId} {k x : Value} : ∀ (es r : List (Value × Value)), effect.upd E m kt k x es = some r →
  (r = es ++ [(k, x)] ∧ quiet.keyOk E kt k = true ∧ ∀ e ∈ es, quiet.eqKey E m kt k e.1 = some false) ∨
  (∃ pre k0 v post, es = pre ++ (k0, v) :: post ∧ r = pre ++ (k, x) :: post ∧ (∀ e ∈ pre, quiet.eqKey E m kt k e.1 = some false) ∧ quiet.eqKey E m kt k k0 = some true)
 | [], r, h => by
  cases hk : quiet.keyOk E kt k with
  | false => simp [effect.upd, hk] at h
  | true => simp [effect.upd, hk] at h; exact .inl ⟨by simp [h], rfl, by simp⟩
 | (k', v) :: es, r, h => by
  simp only [effect.upd] at h
  split at h
  ·cases h
  ·rename_i hk; cases h; exact .inr ⟨[], k', v, es, rfl, rfl, by simp, hk⟩
  ·rename_i hk
   split at h
   ·cases h
   ·rename_i r' hr
    cases h
    rcases upd_form es r' hr with ⟨h1, h0, h2⟩ | ⟨pre, k0, v0, post, h1, h2, h3, h4⟩
    ·exact .inl ⟨by rw [h1]; rfl, h0, fun e he => (List.mem_cons.1 he).elim (fun hh => hh ▸ hk) (fun hh => h2 e hh)⟩
    ·refine .inr ⟨(k', v) :: pre, k0, v0, post, by rw [h1]; rfl, by rw [h2]; rfl, fun e he => (List.mem_cons.1 he).elim (fun hh => hh ▸ hk) (fun hh => h3 e hh), h4⟩

/-- how the model holds a key against an entry's. -/
inductive KE (P : Program) (w : World) (d : TypeDesc) (kt : TypeId) (k e : Value) (b : Bool) : Prop where
 | now (h : Instr.sameNow d k e = some b)
 | ask (h : ∀ x y, Instr.sameNow d x y = none) (hb : (Op.equal kt k e).run P w = .ok b w)

theorem eqKey_sound (hE : EnvOk E G) (hR : Rel E.P G w0 φ m w) {kt : TypeId} {k e k' e' : Value} {b : Bool} (h : quiet.eqKey E m kt k e = some b) (hk : VR φ k k') (he : VR φ e e') :
  ∃ d, E.under kt = some d ∧ KE E.P w d kt k' e' b ∧ (∀ (n : Nat) (em : Bool), (Instr.checkKey em (n + 1) kt k').run E.P w = .ok () w) ∧ (b = true → Instr.sameBits 10000 e' k' = true) := by
 unfold quiet.eqKey at h
 split at h
 ·rename_i ki kk a kk' c hd
  cases hk.int_inv; cases he.int_inv
  split at h
  ·rename_i hkk
   subst hkk
   cases h
   refine ⟨_, hd, .now (by simp [Instr.sameNow]), fun n em => by simp [Instr.checkKey, under_run hE hd], fun hb => ?_⟩
   have : a = c := by simpa using hb
   subst this
   simp [Instr.sameBits]
  ·cases h
 ·rename_i a c hd
  cases hk.string_inv; cases he.string_inv
  cases h
  refine ⟨_, hd, .now ?_, fun n em => by simp [Instr.checkKey, under_run hE hd], fun hb => ?_⟩
  ·simp only [Instr.sameNow, Option.some.injEq]
   rw [bytesEq_eq, beq_toListBytes, ByteArray.toList_eq, ByteArray.toList_eq]
  ·rw [bytesEq_eq] at hb
   have : a = c := by simpa using hb
   subst this
   simp [Instr.sameBits, beq_toListBytes]
 ·rename_i el a c hd
  refine ⟨_, hd, .ask (fun x y => by cases x <;> cases y <;> rfl) (eqPtr_sound hE hR h hk he 9999), ?_, fun hb => ?_⟩
  ·intro n em
   cases hk <;> simp [Instr.checkKey, under_run hE hd]
  ·subst hb
   unfold eqPtr at h
   simp only [hd] at h
   cases a with
   | none =>
    cases c with
    | none => cases hk; cases he; simp [Instr.sameBits]
    | some c => simp at h
   | some a =>
    cases c with
    | none => simp at h
    | some c =>
     obtain ⟨ba, oa, sa⟩ := a
     obtain ⟨bc, oc, sc⟩ := c
     obtain ⟨a', rfl, hφa, hsa⟩ := hk.ptr_any
     obtain ⟨c', rfl, hφc, hsc⟩ := he.ptr_any
     simp only at hφa hφc hsa hsc
     subst hsa hsc
     simp only at h
     split at h
     ·cases hbb : Nat.beq ba bc with
      | true =>
       have := Nat.eq_of_beq_eq_true hbb
       subst this
       simp only [hbb, cond_true] at h
       simp only [and_self, if_true, Option.some.injEq] at h
       have := Nat.eq_of_beq_eq_true h
       subst this
       rw [hφa] at hφc
       cases hφc
       simp [Instr.sameBits]
      | false =>
       simp only [hbb, cond_false] at h
       cases hn : notStr m ba && notStr m bc <;> simp [hn] at h
     ·cases h
 ·cases h

theorem keyOk_sound (hE : EnvOk E G) {kt : TypeId} {k k' : Value} (h : quiet.keyOk E kt k = true) (hk : VR φ k k') :
  ∃ d, E.under kt = some d ∧ (∀ (n : Nat) (em : Bool), (Instr.checkKey em (n + 1) kt k').run E.P w = .ok () w) := by
 unfold quiet.keyOk at h
 split at h
 ·rename_i hd; cases hk; exact ⟨_, hd, fun n em => by simp [Instr.checkKey, under_run hE hd]⟩
 ·rename_i hd; cases hk; exact ⟨_, hd, fun n em => by simp [Instr.checkKey, under_run hE hd]⟩
 ·rename_i hd; refine ⟨_, hd, fun n em => ?_⟩; cases hk <;> simp [Instr.checkKey, under_run hE hd]
 ·cases h

theorem findNow_none {d : TypeDesc} {k : Value} : ∀ (es : List MapEntry) (i : Nat), (∀ e ∈ es, Instr.sameNow d k e.key = some false) → Instr.findNow d k es i = some none
 | [], i, _ => rfl
 | e :: es, i, h => by
  simp only [Instr.findNow, h e (by simp)]
  exact findNow_none es (i + 1) fun x hx => h x (by simp [hx])

theorem findNow_some {d : TypeDesc} {k : Value} {e0 : MapEntry} {post : List MapEntry} : ∀ (pre : List MapEntry) (i : Nat), (∀ e ∈ pre, Instr.sameNow d k e.key = some false) → Instr.sameNow d k e0.key = some true →
  Instr.findNow d k (pre ++ e0 :: post) i = some (some (i + pre.length, e0.val))
 | [], i, _, h0 => by simp [Instr.findNow, h0]
 | e :: pre, i, h, h0 => by
  simp only [List.cons_append, Instr.findNow, h e (by simp)]
  rw [findNow_some pre (i + 1) (fun x hx => h x (by simp [hx])) h0]
  simp; omega

theorem findAsking_none {kt : TypeId} {k : Value} : ∀ (es : List MapEntry) (i : Nat), (∀ e ∈ es, (Op.equal kt k e.key).run E.P w = .ok false w) → (Instr.findAsking kt k es i).run E.P w = .ok none w
 | [], i, _ => by simp [Instr.findAsking]
 | e :: es, i, h => by
  simp only [Instr.findAsking, Sem.run_bind, h e (by simp), Result.andThen_ok]
  exact findAsking_none es (i + 1) fun x hx => h x (by simp [hx])

theorem findAsking_some {kt : TypeId} {k : Value} {e0 : MapEntry} {post : List MapEntry} : ∀ (pre : List MapEntry) (i : Nat), (∀ e ∈ pre, (Op.equal kt k e.key).run E.P w = .ok false w) → (Op.equal kt k e0.key).run E.P w = .ok true w →
  (Instr.findAsking kt k (pre ++ e0 :: post) i).run E.P w = .ok (some (i + pre.length, e0.val)) w
 | [], i, _, h0 => by simp [Instr.findAsking, h0]
 | e :: pre, i, h, h0 => by
  simp only [List.cons_append, Instr.findAsking, Sem.run_bind, h e (by simp), Result.andThen_ok]
  have := findAsking_some (post := post) pre (i + 1) (fun x hx => h x (by simp [hx])) h0
  simp only [Bool.false_eq_true, if_false, this]
  simp; omega

theorem findKey_none (hE : EnvOk E G) {kt : TypeId} {d : TypeDesc} {k : Value} (es : List MapEntry) (hd : E.under kt = some d) (h : ∀ e ∈ es, KE E.P w d kt k e.key false) :
  (Instr.findKey kt k es).run E.P w = .ok none w := by
 unfold Instr.findKey
 simp only [Sem.run_bind, under_run hE hd, Result.andThen_ok]
 by_cases hn : ∀ e ∈ es, Instr.sameNow d k e.key = some false
 ·rw [findNow_none es 0 hn]; rfl
 ·have hask : ∀ x y, Instr.sameNow d x y = none := by
   apply Classical.byContradiction
   intro hno
   refine hn fun e he => ?_
   cases h e he with
   | now h => exact h
   | ask h _ => exact absurd h hno
  have h2 : ∀ e ∈ es, (Op.equal kt k e.key).run E.P w = .ok false w := fun e he => by
   cases h e he with
   | now h => rw [hask] at h; cases h
   | ask _ h => exact h
  cases es with
  | nil => exact absurd (by simp) hn
  | cons e es =>
   have : Instr.findNow d k (e :: es) 0 = none := by simp [Instr.findNow, hask]
   rw [this]
   exact findAsking_none (e :: es) 0 h2

theorem findKey_some (hE : EnvOk E G) {kt : TypeId} {d : TypeDesc} {k : Value} {e0 : MapEntry} {post : List MapEntry} (pre : List MapEntry) (hd : E.under kt = some d) (h : ∀ e ∈ pre, KE E.P w d kt k e.key false) (h0 : KE E.P w d kt k e0.key true) :
  (Instr.findKey kt k (pre ++ e0 :: post)).run E.P w = .ok (some (pre.length, e0.val)) w := by
 unfold Instr.findKey
 simp only [Sem.run_bind, under_run hE hd, Result.andThen_ok]
 cases h0 with
 | now h0 =>
  have : ∀ e ∈ pre, Instr.sameNow d k e.key = some false := fun e he => by
   cases h e he with
   | now h => exact h
   | ask h _ => rw [h] at h0; cases h0
  rw [findNow_some pre 0 this h0]
  simp
 | ask hask h0 =>
  have h2 : ∀ e ∈ pre, (Op.equal kt k e.key).run E.P w = .ok false w := fun e he => by
   cases h e he with
   | now h => rw [hask] at h; cases h
   | ask _ h => exact h
  have : Instr.findNow d k (pre ++ e0 :: post) 0 = none := by cases pre <;> simp [Instr.findNow, hask]
  rw [this]
  have := findAsking_some (E := E) (w := w) (post := post) pre 0 h2 h0
  simpa using this

/-- a map's entries, cut where the abstract ones are cut. -/
theorem entries_cut {φ : Phi} {pre post : List (Value × Value)} {k0 v0 : Value} {es' : List MapEntry} (hk : VRs φ ((pre ++ (k0, v0) :: post).map (·.1)) (es'.map (·.key)))
  (hv : VRs φ ((pre ++ (k0, v0) :: post).map (·.2)) (es'.map (·.val))) :
  ∃ pre' e0 post', es' = pre' ++ e0 :: post' ∧ pre'.length = pre.length ∧ VR φ k0 e0.key ∧ VR φ v0 e0.val ∧ VRs φ (pre.map (·.1)) (pre'.map (·.key)) ∧ VRs φ (pre.map (·.2)) (pre'.map (·.val)) ∧
   VRs φ (post.map (·.1)) (post'.map (·.key)) ∧ VRs φ (post.map (·.2)) (post'.map (·.val)) := by
 induction pre generalizing es' with
 | nil =>
  cases es' with
  | nil => cases hk
  | cons e es' =>
   simp only [List.nil_append, List.map_cons] at hk hv
   cases hk with | cons a b =>
   cases hv with | cons c d =>
   exact ⟨[], e, es', rfl, rfl, a, c, .nil, .nil, b, d⟩
 | cons p pre ih =>
  cases es' with
  | nil => cases hk
  | cons e es' =>
   simp only [List.cons_append, List.map_cons] at hk hv
   cases hk with | cons a b =>
   cases hv with | cons c d =>
   obtain ⟨pre', e0, post', h1, h2, h3, h4, h5, h6, h7, h8⟩ := ih b d
   exact ⟨e :: pre', e0, post', by rw [h1]; rfl, by simp [h2], h3, h4, .cons a h5, .cons c h6, h7, h8⟩

theorem keys_mem {φ : Phi} : ∀ {pre : List (Value × Value)} {pre' : List MapEntry}, VRs φ (pre.map (·.1)) (pre'.map (·.key)) → ∀ e' ∈ pre', ∃ e ∈ pre, VR φ e.1 e'.key
 | [], [], _, e', h => by simp at h
 | p :: pre, q :: pre', h, e', he => by
  simp only [List.map_cons] at h
  cases h with | cons a b =>
  rcases List.mem_cons.1 he with rfl | he
  ·exact ⟨p, by simp, a⟩
  ·obtain ⟨e, h1, h2⟩ := keys_mem b e' he
   exact ⟨e, by simp [h1], h2⟩
 | [], _ :: _, h, _, _ => by cases h
 | _ :: _, [], h, _, _ => by cases h

end
end Go.Ev

namespace Go.Ev
set_option linter.unusedSimpArgs false
open Go.RowKit
set_option linter.unusedVariables false
set_option linter.unusedSectionVars false
variable [Sym]

section
variable {E : Env} {G : Nat} {w0 w : World} {φ : Phi} {m : Mem} {ρ ρ' : Rho}

theorem map_at (hR : Rel E.P G w0 φ m w) {r r' : Nat} {es : List (Value × Value)} (hm : m.get r = some (.map es)) (hφ : φ r = some r') :
  ∃ es' clock, w.heap[r']? = some (.map es' clock) ∧ VRs φ (es.map (·.1)) (es'.toList.map (·.key)) ∧ VRs φ (es.map (·.2)) (es'.toList.map (·.val)) := hR.obj r _ r' hm hφ

theorem getObj_map {r' : Nat} {es' : Array MapEntry} {clock : Nat} (h : w.heap[r']? = some (.map es' clock)) : (getObj r').run E.P w = .ok (.map es' clock) w := by
 simp [getObj, Sem.run, h]

theorem VRs.map_len {φ : Phi} {es : List (Value × Value)} {es' : List MapEntry} (h : VRs φ (es.map (·.1)) (es'.map (·.key))) : es.length = es'.length := by
 simpa using h.length

theorem find_sound (hE : EnvOk E G) (hR : Rel E.P G w0 φ m w) {kt : TypeId} {k k' : Value} {es : List (Value × Value)} {es' : List MapEntry} {r : Option Value} (h : quiet.find E m kt k es = some r) (hk : VR φ k k')
  (h1 : VRs φ (es.map (·.1)) (es'.map (·.key))) (h2 : VRs φ (es.map (·.2)) (es'.map (·.val))) :
  (∀ (n : Nat) (em : Bool), (Instr.checkKey em (n + 1) kt k').run E.P w = .ok () w) ∧
   ((r = none ∧ (Instr.findKey kt k' es').run E.P w = .ok none w) ∨ ∃ v v' i, r = some v ∧ VR φ v v' ∧ (Instr.findKey kt k' es').run E.P w = .ok (some (i, v')) w) := by
 rcases find_form es r h with ⟨rfl, hok, hall⟩ | ⟨pre, k0, v, post, rfl, rfl, hall, h0⟩
 ·obtain ⟨d, hd, hck⟩ := keyOk_sound (w := w) hE hok hk
  refine ⟨hck, .inl ⟨rfl, findKey_none hE es' hd fun e' he' => ?_⟩⟩
  obtain ⟨y, hy, hye⟩ := keys_mem h1 e' he'
  obtain ⟨d', hd', hke, _⟩ := eqKey_sound hE hR (hall y hy) hk hye
  obtain rfl := Option.some.inj (hd.symm.trans hd')
  exact hke
 ·obtain ⟨pre', e0, post', rfl, hlen, hk0, hv0, a, b, c, d⟩ := entries_cut h1 h2
  obtain ⟨dd, hd, hke, hck, _⟩ := eqKey_sound hE hR h0 hk hk0
  refine ⟨hck, .inr ⟨v, e0.val, pre'.length, rfl, hv0, findKey_some hE pre' hd (fun e' he' => ?_) hke⟩⟩
  obtain ⟨y, hy, hye⟩ := keys_mem a e' he'
  obtain ⟨d', hd', hke', _⟩ := eqKey_sound hE hR (hall y hy) hk hye
  obtain rfl := Option.some.inj (hd.symm.trans hd')
  exact hke'

/-- what a look-up answers. -/
def looked (ok : Bool) (z : Value) : Option Value → Value
 | some v => bif ok then .tuple ⟨[v, .bool true]⟩ else v
 | none => bif ok then .tuple ⟨[z, .bool false]⟩ else z

theorem q_lookup_at (hE : EnvOk E G) {t kt et : TypeId} {z : Value} {ok : Bool} {k' : Value} {es' : Array MapEntry} {x' : Value} {r : Option Value} {q : Option (Nat × Value)} (ht : E.under t = some (.map kt et)) (hz : E.zero et = some z)
  (hx : (x' = .map none ∧ es' = #[]) ∨ ∃ b c, x' = .map (some b) ∧ w.heap[b]? = some (.map es' c)) (hck : (Instr.checkKey es'.isEmpty 10000 kt k').run E.P w = .ok () w)
  (hf : (Instr.findKey kt k' es'.toList).run E.P w = .ok q w) (hq : (r = none ∧ q = none) ∨ ∃ v v' i, r = some v ∧ VR φ v v' ∧ q = some (i, v')) :
  ∃ v', (Instr.lookup t x' k' ok).run E.P w = .ok v' w ∧ VR φ (looked ok z r) v' := by
 have hzz : VR φ z z := VR.plain z (hE.zeros et z hz)
 rcases hq with ⟨rfl, rfl⟩ | ⟨u, u', i, rfl, hu, rfl⟩
 ·refine ⟨if ok then .tuple #[z, .bool false] else z, ?_, ?_⟩
  ·rcases hx with ⟨rfl, rfl⟩ | ⟨b, c, rfl, hc⟩
   ·simp only [Instr.lookup, Sem.run_bind, under_run hE ht, Result.andThen_ok, Sem.run_pure, hck, hf, zero_run hE hz]
   ·simp only [Instr.lookup, Sem.run_bind, under_run hE ht, Result.andThen_ok, Sem.run_pure, getObj_map hc, hck, hf, zero_run hE hz]
  ·cases ok
   ·exact hzz
   ·exact .tuple (.cons hzz (.cons (.bool _) .nil))
 ·refine ⟨if ok then .tuple #[u', .bool true] else u', ?_, ?_⟩
  ·rcases hx with ⟨rfl, rfl⟩ | ⟨b, c, rfl, hc⟩
   ·simp only [Instr.lookup, Sem.run_bind, under_run hE ht, Result.andThen_ok, Sem.run_pure, hck, hf]
   ·simp only [Instr.lookup, Sem.run_bind, under_run hE ht, Result.andThen_ok, Sem.run_pure, getObj_map hc, hck, hf]
  ·cases ok
   ·exact hu
   ·exact .tuple (.cons hu (.cons (.bool _) .nil))

theorem q_lookup (hE : EnvOk E G) (hR : Rel E.P G w0 φ m w) {t : TypeId} {x i : Operand} {ok : Bool} {v : Value} (hx : VR φ (ρ x) (ρ' x)) (hi : VR φ (ρ i) (ρ' i)) (h : quiet E m ρ (.lookup t x i ok) = some v) :
  ∃ v', (Instr.lookup t (ρ' x) (ρ' i) ok).run E.P w = .ok v' w ∧ VR φ v v' := by
 simp only [quiet] at h
 split at h
 ·rename_i kt et ht
  split at h
  ·rename_i es z hes hz
   split at h
   ·cases h
   ·rename_i r hr
    have hv : v = looked ok z r := by cases h; cases r <;> rfl
    subst hv
    -- the entries in the world
    have key : ∃ es' : Array MapEntry, ((ρ' x = .map none ∧ es' = #[]) ∨ ∃ b c, ρ' x = .map (some b) ∧ w.heap[b]? = some (.map es' c)) ∧ VRs φ (es.map (·.1)) (es'.toList.map (·.key)) ∧ VRs φ (es.map (·.2)) (es'.toList.map (·.val)) := by
     split at hes
     ·rename_i hxe
      cases hes
      rw [hxe] at hx
      exact ⟨#[], .inl ⟨hx.mnil_inv, rfl⟩, .nil, .nil⟩
     ·rename_i r' hxe
      split at hes
      ·rename_i es0 hm
       cases hes
       rw [hxe] at hx
       obtain ⟨b, hb, hφ⟩ := hx.map_inv
       obtain ⟨es', c, h1, h2, h3⟩ := map_at hR hm hφ
       exact ⟨es', .inr ⟨b, c, hb, h1⟩, h2, h3⟩
      ·cases hes
     ·cases hes
    obtain ⟨es', hx', h1, h2⟩ := key
    obtain ⟨hck, hf⟩ := find_sound hE hR hr hi h1 h2
    rcases hf with ⟨rfl, hf⟩ | ⟨u, u', j, rfl, hu, hf⟩
    ·exact q_lookup_at hE ht hz hx' (hck 9999 _) hf (.inl ⟨rfl, rfl⟩)
    ·exact q_lookup_at hE ht hz hx' (hck 9999 _) hf (.inr ⟨u, u', j, rfl, hu, rfl⟩)
  ·cases h
 ·cases h


theorem q_len (hE : EnvOk E G) (hR : Rel E.P G w0 φ m w) {c : Call} (ty : TypeId) {v : Value} (hc : c.callee = .builtin .len) (hρ : ∀ x ∈ c.args.toList, VR φ (ρ x) (ρ' x)) (h : quiet E m ρ (.call c) = some v) :
  (Builtin.len_ c.argTypes ty (c.args.map ρ')).run E.P w = .ok v w ∧ VR φ v v := by
 simp only [quiet, hc] at h
 split at h
 ·rename_i t x hts hxs
  have e1 : c.argTypes[0]? = some t := by rw [← Array.getElem?_toList, hts]; rfl
  have e2 : (c.args.map ρ')[0]? = some (ρ' x) := by rw [Array.getElem?_map, ← Array.getElem?_toList, hxs]; rfl
  have hx := hρ x (by rw [hxs]; simp)
  simp only [Builtin.len_, e1, e2, Sem.run_bind]
  split at h
  ·rename_i s ht hxe
   cases h
   rw [hxe] at hx; rw [hx.string_inv]
   exact ⟨by simp only [under_run hE ht, Result.andThen_ok]; rfl, .int _ _⟩
  ·rename_i e a n cp ht hxe
   cases h
   rw [hxe] at hx
   refine ⟨?_, .int _ _⟩
   simp only [under_run hE ht, Result.andThen_ok]
   revert hx
   generalize ρ' x = y
   intro hx
   cases hx <;> rfl
  ·rename_i n el ht
   cases h
   refine ⟨?_, .int _ _⟩
   simp only [under_run hE ht, Result.andThen_ok]
   cases ρ' x <;> rfl
  ·rename_i kt et ht hxe
   cases h
   rw [hxe] at hx; rw [hx.mnil_inv]
   exact ⟨by simp only [under_run hE ht, Result.andThen_ok]; rfl, .int _ _⟩
  ·rename_i kt et r ht hxe
   split at h
   ·rename_i es hm
    cases h
    rw [hxe] at hx
    obtain ⟨b, hb, hφ⟩ := hx.map_inv
    rw [hb]
    obtain ⟨es', cl, h1, h2, _⟩ := map_at hR hm hφ
    refine ⟨?_, .int _ _⟩
    simp only [under_run hE ht, Result.andThen_ok, Sem.run_bind, getObj_map h1, Sem.run_pure]
    have := VRs.map_len h2
    simp [goInt, this]
   ·cases h
  ·cases h
 ·cases h

/-- the quiet operations. -/
theorem quiet_sound (hE : EnvOk E G) (hR : Rel E.P G w0 φ m w) (o : Oper) (hρ : ∀ x ∈ o.op.operands.toList, VR φ (ρ x) (ρ' x)) {v : Value} (h : quiet E m ρ o.op = some v) :
  ∃ v', (execOp ρ' o).run E.P w = .ok (.value v') w ∧ VR φ v v' := by
 have ofV : ∀ {s : Sem Value} {v'}, s.run E.P w = .ok v' w → (do pure (.value (← s)) : Sem Next).run E.P w = .ok (.value v') w := by
  intro s v' hs
  simp only [Sem.run_bind, hs, Result.andThen_ok, Sem.run_pure]
 unfold execOp
 generalize o.type = ty at *
 cases ho : o.op with
 | move x => simp only [ho, quiet, Option.some.injEq] at h ⊢; subst h; exact ⟨_, rfl, hρ x (by simp [ho, Op.operands])⟩
 | assign x => simp only [ho, quiet, Option.some.injEq] at h ⊢; subst h; exact ⟨_, rfl, hρ x (by simp [ho, Op.operands])⟩
 | pick c a b =>
  simp only [ho, quiet] at h ⊢
  have hc := hρ c (by simp [ho, Op.operands])
  split at h
  ·rename_i hb; cases h; rw [hb] at hc; rw [hc.bool_inv]; exact ⟨_, rfl, hρ a (by simp [ho, Op.operands])⟩
  ·rename_i hb; cases h; rw [hb] at hc; rw [hc.bool_inv]; exact ⟨_, rfl, hρ b (by simp [ho, Op.operands])⟩
  ·cases h
 | load t a =>
  simp only [ho, quiet] at h ⊢
  have ha := hρ a (by simp [ho, Op.operands])
  split at h
  ·rename_i b o' hae
   rw [hae] at ha
   obtain ⟨b', hb, hφ⟩ := ha.ptr_inv
   obtain ⟨v', h1, h2⟩ := load_sound hE hR h hφ
   refine ⟨v', ofV ?_, h2⟩
   rw [hb]
   simpa [Instr.loadAt, Instr.sureAddr] using h1
  ·cases h
 | nilCheck x =>
  simp only [ho, quiet] at h ⊢
  have hx := hρ x (by simp [ho, Op.operands])
  split at h
  ·rename_i a hae
   cases h
   rw [hae] at hx
   obtain ⟨b', hb, hφ, hs⟩ := hx.ptr_any
   rw [hb]
   obtain ⟨ab, ao, as⟩ := a
   simp only at hφ hs
   subst hs
   exact ⟨_, rfl, .ptr _ hφ⟩
  ·cases h
 | binOp op t x y u =>
  simp only [ho, quiet] at h ⊢
  obtain ⟨b1, b2⟩ := binOp_sound hE hR h (hρ x (by simp [ho, Op.operands])) (hρ y (by simp [ho, Op.operands])) x y
  exact ⟨v, ofV b1, b2⟩
 | unOp op t x =>
  simp only [ho, quiet] at h ⊢
  have hx := hρ x (by simp [ho, Op.operands])
  have hform : ρ' x = ρ x := by
   unfold unOp at h
   split at h
   ·rename_i hxe; rw [hxe] at hx ⊢; exact hx.int_inv
   ·rename_i hxe; rw [hxe] at hx ⊢; exact hx.bool_inv
   ·cases h
  rw [hform]
  exact ⟨v, ofV (unOp_run h), unOp_plain h⟩
 | extract x i =>
  simp only [ho, quiet] at h ⊢
  have hx := hρ x (by simp [ho, Op.operands])
  split at h
  ·rename_i l hxe
   rw [hxe] at hx
   obtain ⟨l', hl, hr⟩ := hx.tuple_inv
   rw [nth_eq] at h
   obtain ⟨v', h1, h2⟩ := hr.get i v h
   refine ⟨v', ofV ?_, h2⟩
   rw [hl]
   simp [Instr.extract, h1]
  ·cases h
 | build t parts =>
  simp only [ho, quiet] at h ⊢
  have hp := parts_rel (φ := φ) (ρ := ρ) (ρ' := ρ') parts.toList (fun p hp => hρ p.2 (by
   simp only [ho, Op.operands]
   exact List.mem_map.2 ⟨p, hp, rfl⟩))
  have earr : (parts.map fun (i, x) => (i, ρ' x)).toList = parts.toList.map fun p => (p.1, ρ' p.2) := by simp
  split at h
  ·rename_i z fs hz ht
   split at h
   ·cases h
   ·rename_i pl hpl
    split at h
    ·cases h
    ·rename_i l hl
     cases h
     obtain ⟨r', h1, h2⟩ := fill_sound _ _ _ _ _ hp.1 hp.2 ((VR.plain z (hE.zeros t z hz)).cells (φ := φ)) hl
     refine ⟨.agg ⟨r'⟩, ofV ?_, .agg h2⟩
     have hpl' : nth pl = fun i => (⟨pl⟩ : Array (Nat × Nat))[i]? := by funext i; rw [nth_eq]; simp
     have hzc : z.cells = ⟨z.cells.toList⟩ := rfl
     rw [hpl', ← hzc] at h1
     simp only [Instr.build, Sem.run_bind, zero_run hE hz, under_run hE ht, Result.andThen_ok, places_run_array hE fs pl hpl, earr, h1, Sem.run_pure]
  ·rename_i z n e hz ht
   split at h
   ·cases h
   ·rename_i k hk
    split at h
    ·cases h
    ·rename_i l hl
     cases h
     obtain ⟨r', h1, h2⟩ := fill_sound _ _ _ _ _ hp.1 hp.2 ((VR.plain z (hE.zeros t z hz)).cells (φ := φ)) hl
     refine ⟨.agg ⟨r'⟩, ofV ?_, .agg h2⟩
     have hzc : z.cells = ⟨z.cells.toList⟩ := rfl
     rw [← hzc] at h1
     simp only [Instr.build, Sem.run_bind, zero_run hE hz, under_run hE ht, Result.andThen_ok, size_run hE hk, earr, h1, Sem.run_pure]
  ·cases h
 | fieldAddr s x f =>
  simp only [ho, quiet] at h ⊢
  have hx := hρ x (by simp [ho, Op.operands])
  split at h
  ·rename_i fs b o' hs hxe
   split at h
   ·cases h
   ·rename_i fd hf
    split at h
    ·rename_i k hk
     cases h
     rw [hxe] at hx
     obtain ⟨v', h1, h2⟩ := q_fieldAddr (w := w) hE hs hf hk hx
     exact ⟨v', ofV h1, h2⟩
    ·cases h
  ·cases h
 | indexAddr t x i =>
  simp only [ho, quiet] at h ⊢
  have hx := hρ x (by simp [ho, Op.operands])
  have hi := hρ i (by simp [ho, Op.operands])
  split at h
  ·rename_i e b o' len cp ki n ht hxe hie
   cases hb : Nat.blt n len with
   | false => simp [hb] at h
   | true =>
    simp only [hb, cond_true] at h
    split at h
    ·rename_i k hk
     cases h
     rw [hxe] at hx; rw [hie] at hi; rw [hi.int_inv]
     obtain ⟨v', h1, h2⟩ := q_indexAddr_slice (w := w) (ki := ki) hE ht hk (by simpa [Nat.blt_eq] using hb) hx
     exact ⟨v', ofV h1, h2⟩
    ·cases h
  ·rename_i len e b o' ki n ht hxe hie
   cases hb : Nat.blt n len with
   | false => simp [hb] at h
   | true =>
    simp only [hb, cond_true] at h
    split at h
    ·rename_i k hk
     cases h
     rw [hxe] at hx; rw [hie] at hi; rw [hi.int_inv]
     obtain ⟨v', h1, h2⟩ := q_indexAddr_array (w := w) (ki := ki) hE ht hk (by simpa [Nat.blt_eq] using hb) hx
     exact ⟨v', ofV h1, h2⟩
    ·cases h
  ·cases h
 | index t x i =>
  simp only [ho, quiet] at h ⊢
  have hx := hρ x (by simp [ho, Op.operands])
  have hi := hρ i (by simp [ho, Op.operands])
  split at h
  ·rename_i s ki n ht hxe hie
   split at h
   ·rename_i c hc
    cases h
    rw [hxe] at hx; rw [hie] at hi; rw [hi.int_inv, hx.string_inv]
    exact ⟨_, ofV (q_index_string hE ht hc), .int _ _⟩
   ·cases h
  ·rename_i len e l ki n ht hxe hie
   cases hb : Nat.blt n len with
   | false => simp [hb] at h
   | true =>
    have hlt : n < len := by simpa [Nat.blt_eq] using hb
    simp only [hb, cond_true] at h
    rw [hxe] at hx; rw [hie] at hi
    obtain ⟨l', hl, hr⟩ := hx.agg_inv
    rw [hi.int_inv, hl]
    split at h
    ·rename_i d hk hd
     cases ha : isAggD d with
     | true => simp [ha] at h
     | false =>
      simp only [ha, cond_false] at h
      obtain ⟨v', h1, h2⟩ := q_index_cell (w := w) (ki := ki) hE ht hk hd ha hlt h hr
      exact ⟨v', ofV h1, h2⟩
    ·rename_i k d hne hk hd
     cases ha : isAggD d with
     | true =>
      simp only [ha, cond_true, Option.some.injEq] at h
      subst h
      obtain ⟨v', h1, h2⟩ := q_index_agg (w := w) (ki := ki) hE ht hk hd ha hlt hr
      exact ⟨v', ofV h1, h2⟩
     | false => simp [ha] at h
    ·cases h
  ·cases h
 | field t x f =>
  simp only [ho, quiet] at h ⊢
  have hx := hρ x (by simp [ho, Op.operands])
  split at h
  ·rename_i fs l ht hxe
   split at h
   ·cases h
   ·rename_i fd hf
    split at h
    ·rename_i k d hk hd
     rw [hxe] at hx
     obtain ⟨l', hl, hr⟩ := hx.agg_inv
     rw [hl]
     obtain ⟨v', h1, h2⟩ := q_field (w := w) hE ht hf hk hd h hr
     exact ⟨v', ofV h1, h2⟩
    ·cases h
  ·cases h
 | slice t x lo hi mx =>
  rw [ho] at h hρ
  have hx := hρ x (by simp [Op.operands])
  have hlo : ∀ y, lo = some y → VR φ (ρ y) (ρ' y) := fun y hy => hρ y (by subst hy; simp [Op.operands])
  have hhi : ∀ y, hi = some y → VR φ (ρ y) (ρ' y) := fun y hy => hρ y (by subst hy; simp [Op.operands])
  obtain ⟨v', h1, h2⟩ := q_slice hE (w := w) hx hlo hhi mx h
  exact ⟨v', ofV h1, h2⟩
 | makeFunc fn first captured =>
  simp only [ho, quiet, Option.some.injEq] at h ⊢
  subst h
  have rel : ∀ (l : List Operand), (∀ x ∈ l, VR φ (ρ x) (ρ' x)) → VRs φ (l.map ρ) (l.map ρ') := by
   intro l
   induction l with
   | nil => intro _; exact .nil
   | cons y l ih => intro hl; exact .cons (hl y (by simp)) (ih fun z hz => hl z (by simp [hz]))
  have r1 := rel first.toList (fun x hx => hρ x (by simp only [ho, Op.operands, Array.toList_append]; exact List.mem_append.2 (.inl hx)))
  have r2 := rel captured.toList (fun x hx => hρ x (by simp only [ho, Op.operands, Array.toList_append]; exact List.mem_append.2 (.inr hx)))
  refine ⟨.func fn (first.map ρ') (captured.map ρ'), rfl, ?_⟩
  have e1 : first.map ρ' = ⟨first.toList.map ρ'⟩ := by apply Array.ext'; simp
  have e2 : captured.map ρ' = ⟨captured.toList.map ρ'⟩ := by apply Array.ext'; simp
  rw [e1, e2]
  exact .func fn r1 r2
 | convert s d x =>
  rw [ho] at h hρ
  obtain ⟨v', h1, h2⟩ := q_convert hE hR (hρ x (by simp [Op.operands])) h
  exact ⟨v', ofV h1, h2⟩
 | lookup t x i ok =>
  rw [ho] at h hρ
  obtain ⟨v', h1, h2⟩ := q_lookup hE hR (hρ x (by simp [Op.operands])) (hρ i (by simp [Op.operands])) h
  exact ⟨v', ofV h1, h2⟩
 | call c =>
  rw [ho] at h hρ
  have hargs : ∀ x ∈ c.args.toList, VR φ (ρ x) (ρ' x) := fun x hx => hρ x (by simp only [Op.operands, Call.operands, Array.toList_append]; exact List.mem_append.2 (.inr hx))
  cases hcal : c.callee with
  | value f => simp [quiet, hcal] at h
  | invoke r nm => simp [quiet, hcal] at h
  | builtin b =>
   simp only [resolve, hcal, Sem.run_bind, Sem.run_pure, Result.andThen_ok, invoke, builtin]
   cases b <;> first
    | (simp only [quiet, hcal] at h; cases h; done)
    | skip
   ·obtain ⟨h1, h2⟩ := q_len hE hR ty hcal hargs h
    exact ⟨v, ofV h1, h2⟩
   ·simp only [quiet, hcal] at h
    split at h
    ·rename_i x y hxs
     split at h
     ·rename_i k a k' b hxe hye
      cases h
      have hx := hargs x (by rw [hxs]; simp)
      have hy := hargs y (by rw [hxs]; simp)
      rw [hxe] at hx; rw [hye] at hy
      have earr : c.args.map ρ' = #[.int k a, .int k' b] := by apply Array.ext'; simp [hxs, hx.int_inv, hy.int_inv]
      refine ⟨_, ofV (v' := .int k (if b > a then b else a)) ?_, .int _ _⟩
      rw [earr]
      exact run_max_int2 w _ _ k k' a b
     ·cases h
    ·cases h
   ·simp only [quiet, hcal] at h
    split at h
    ·rename_i x y hxs
     split at h
     ·rename_i k a k' b hxe hye
      cases h
      have hx := hargs x (by rw [hxs]; simp)
      have hy := hargs y (by rw [hxs]; simp)
      rw [hxe] at hx; rw [hye] at hy
      have earr : c.args.map ρ' = #[.int k a, .int k' b] := by apply Array.ext'; simp [hxs, hx.int_inv, hy.int_inv]
      refine ⟨_, ofV (v' := .int k (if b < a then b else a)) ?_, .int _ _⟩
      rw [earr]
      exact run_min_int2 w _ _ k k' a b
     ·cases h
    ·cases h
 | _ => simp [ho, quiet] at h

end
end Go.Ev
