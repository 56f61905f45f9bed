/- Part of a verified evaluator of the model's programs and of runs by it: EvDef EvMono EvRel EvMem EvQ1. -/
import GoSem.Dispatch
import GoSem.Machine.Return
import Derived.Below
import Derived.Laws.Append
import Derived.Laws.CopyRow
import Derived.Lib.FrozenHead
import Derived.Laws.Strings
import Derived.Laws.Concat
namespace Go.Ev
set_option linter.unusedSimpArgs false
set_option linter.unusedVariables false

/-! A trie over numbers, least digit first. -/
inductive Tree (α : Type) where
  | leaf
  | node (l : Tree α) (v : Option α) (r : Tree α)

namespace Tree
variable {α : Type}
def get : Tree α → Nat → Option α
  | .leaf, _ => none
  | .node l v r, i => bif Nat.beq i 0 then v else bif Nat.beq (i % 2) 1 then get l (i / 2) else get r (i / 2 - 1)

def set : Nat → Tree α → Nat → α → Tree α
  | 0, t, _, _ => t
  | f + 1, .leaf, i, x => bif Nat.beq i 0 then .node .leaf (some x) .leaf else bif Nat.beq (i % 2) 1 then .node (set f .leaf (i / 2) x) none .leaf else .node .leaf none (set f .leaf (i / 2 - 1) x)
  | f + 1, .node l v r, i, x => bif Nat.beq i 0 then .node l (some x) r else bif Nat.beq (i % 2) 1 then .node (set f l (i / 2) x) v r else .node l v (set f r (i / 2 - 1) x)
end Tree

/-- The trie's depth: numbers below 2^40 - 1. -/
def D : Nat := 40

inductive AObj where
  /-- n cells; kind 0: the call's own; 1: not written (of the world outside); 2: the call's own, maybe a string's bytes -/
  | cells (n : Nat) (c : Tree Value) (elem : TypeId) (kind : Nat)
  | map (es : List (Value × Value))
  | dead

structure Mem where
  t : Tree AObj
  next : Nat

def Mem.get (m : Mem) (b : Nat) : Option AObj := m.t.get b
def Mem.put (m : Mem) (b : Nat) (o : AObj) : Mem := { m with t := m.t.set (b + 1) b o }
def Mem.new (m : Mem) (o : AObj) : Mem := { t := m.t.set (m.next + 1) m.next o, next := m.next + 1 }

def ofListFrom (c : Tree Value) (i : Nat) : List Value → Tree Value
  | [] => c
  | v :: l => ofListFrom (c.set (i + 1) i v) (i + 1) l

/-- so many cells from i on; none: one is lacking. -/
def cellsFrom (c : Tree Value) (i : Nat) : Nat → Option (List Value)
  | 0 => some []
  | n + 1 => match c.get i with
    | none => none
    | some v => match cellsFrom c (i + 1) n with
      | none => none
      | some l => some (v :: l)

def oneCell : Value → Bool
  | .agg _ | .tuple _ => false
  | _ => true

def storeFrom (c : Tree Value) (i n : Nat) : List Value → Option (Tree Value)
  | [] => some c
  | v :: l => bif Nat.blt i n && oneCell v then storeFrom (c.set (i + 1) i v) (i + 1) n l else none

def cellsOf : Value → List Value
  | .agg ⟨l⟩ => l
  | v => [v]

structure Env where
  P : Program
  types : Tree TypeInfo
  funcs : Tree Func
  /-- struct types that == may be asked of -/
  eqs : List TypeId
  /-- calls whose answer is known -/
  known : List (Nat × List Value × Value) := []
  /-- what is known of operations on signs for values -/
  facts : List (BinOp × Value × Value × Value) := []

/-- is it a sign for a value? -/
def isTok : Value → Bool
  | .chan (some _) => true
  | _ => false

structure TI where
  desc : TypeDesc
  size : Nat

def Env.ti (E : Env) (t : TypeId) : Option TypeInfo := E.types.get t
def Env.under (E : Env) (t : TypeId) : Option TypeDesc :=
  match E.ti t with
  | none => none
  | some i => match i.desc with
    | .named _ u => match E.ti u with
      | none => none
      | some j => some j.desc
    | d => some d
def Env.size (E : Env) (t : TypeId) : Option Nat := match E.ti t with | none => none | some i => some i.size
def Env.zero (E : Env) (t : TypeId) : Option Value := match E.ti t with | none => none | some i => i.zero
def isAggD : TypeDesc → Bool
  | .struct _ | .array _ _ => true
  | _ => false

def rowD : TypeDesc → Bool
  | .slice _ | .string => true
  | _ => false

def size1 (E : Env) (e : TypeId) : Bool := match E.size e with | some k => Nat.beq k 1 | none => false

def loadAt (E : Env) (m : Mem) (t : TypeId) (b o : Nat) : Option Value :=
  match E.under t, m.get b with
  | some d, some (.cells n c _ _) =>
    bif isAggD d then
      match E.size t with
      | none => none
      | some k => bif Nat.ble (o + k) n then (match cellsFrom c o k with | none => none | some l => some (.agg ⟨l⟩)) else none
    else bif Nat.blt o n then c.get o else none
  | _, _ => none

def storeAt (E : Env) (m : Mem) (t : TypeId) (b o : Nat) (v : Value) : Option Mem :=
  match E.size t, m.get b with
  | some k, some (.cells n c e kd) =>
    bif Nat.beq (cellsOf v).length k && !(Nat.beq kd 1) then
      match storeFrom c o n (cellsOf v) with
      | none => none
      | some c' => some (m.put b (.cells n c' e kd))
    else none
  | _, _ => none

/-- a new block of these cells; none: too many. -/
def newCells (m : Mem) (e : TypeId) (kd : Nat) (l : List Value) : Option Mem :=
  bif Nat.ble l.length 1000000000 then some (m.new (.cells l.length (ofListFrom .leaf 0 l) e kd)) else none

def withAddr (m : Mem) (f : Addr → Value) : Option Mem → Option (Value × Mem)
  | none => none
  | some m' => some (f ⟨m.next, 0, none⟩, m')

/-- put a part's cells over others. -/
def splice (off : Nat) (v l : List Value) : List Value :=
  match off, l with
  | 0, l => over v l
  | _ + 1, [] => []
  | o + 1, x :: l => x :: splice o v l
where
  over : List Value → List Value → List Value
    | [], l => l
    | _ :: _, [] => []
    | a :: v, _ :: l => a :: over v l

def fill (place : Nat → Option (Nat × Nat)) : List Value → List (Nat × Value) → Option (List Value)
  | cells, [] => some cells
  | cells, (i, v) :: rest =>
    match place i with
    | none => none
    | some (off, size) =>
      bif Nat.beq (cellsOf v).length size && Nat.ble (off + size) cells.length then fill place (splice off (cellsOf v) cells) rest else none

def places (E : Env) : List Field → Option (List (Nat × Nat))
  | [] => some []
  | f :: fs => match E.size f.type, places E fs with
    | some k, some l => some ((f.offset, k) :: l)
    | _, _ => none

def nth {α : Type} : List α → Nat → Option α
  | [], _ => none
  | x :: _, 0 => some x
  | _ :: l, n + 1 => nth l n

def repeatList (z : List Value) : Nat → List Value
  | 0 => []
  | n + 1 => z ++ repeatList z n

abbrev Rho := Operand → Value

def intEq (a b : Int) : Bool := decide (a = b)

def wrap64 (k : IntKind) (n : Int) : Int := k.wrap n

def intOp (op : BinOp) (k : IntKind) (a b : Int) : Option Value :=
  match op with
  | .add => some (.int k (k.wrap (a + b)))
  | .sub => some (.int k (k.wrap (a - b)))
  | .mul => some (.int k (k.wrap (a * b)))
  | .quo => if b = 0 then none else some (.int k (k.wrap (a.tdiv b)))
  | .rem => if b = 0 then none else some (.int k (a.tmod b))
  | .eql => some (.bool (a == b))
  | .neq => some (.bool (a != b))
  | .lss => some (.bool (a < b))
  | .leq => some (.bool (a ≤ b))
  | .gtr => some (.bool (a > b))
  | .geq => some (.bool (a ≥ b))
  | .and => some (.int k (k.wrap (BitVec.ofInt k.bits a &&& BitVec.ofInt k.bits b).toNat))
  | .or => some (.int k (k.wrap (BitVec.ofInt k.bits a ||| BitVec.ofInt k.bits b).toNat))
  | .xor => some (.int k (k.wrap (BitVec.ofInt k.bits a ^^^ BitVec.ofInt k.bits b).toNat))
  | .andNot => some (.int k (k.wrap (BitVec.ofInt k.bits a &&& ~~~(BitVec.ofInt k.bits b)).toNat))
  | _ => none

def shiftOp (op : BinOp) (k : IntKind) (a b : Int) : Option Value :=
  if b < 0 then none else
  match op with
  | .shl => some (.int k (k.wrap (a * 2 ^ (min b.toNat k.bits))))
  | .shr => some (.int k (a.fdiv (2 ^ (min b.toNat k.bits))))
  | _ => none

def bytesEq : List UInt8 → List UInt8 → Bool
  | [], [] => true
  | a :: l, b :: r => bif Nat.beq a.toNat b.toNat then bytesEq l r else false
  | _, _ => false

def bytesLt : List UInt8 → List UInt8 → Bool
  | _, [] => false
  | [], _ :: _ => true
  | a :: x, b :: y => bif Nat.blt a.toNat b.toNat then true else bif Nat.beq a.toNat b.toNat then bytesLt x y else false

def strOp (op : BinOp) (x y : List UInt8) : Option Value :=
  match op with
  | .add => bif Nat.ble (x.length + y.length) 4611686018427387904 then some (.string ⟨⟨x ++ y⟩⟩) else none
  | .eql => some (.bool (bytesEq x y))
  | .neq => some (.bool !(bytesEq x y))
  | .lss => some (.bool (bytesLt x y))
  | .leq => some (.bool (bytesLt x y || bytesEq x y))
  | .gtr => some (.bool !(bytesLt x y || bytesEq x y))
  | .geq => some (.bool !(bytesLt x y))
  | _ => none

/-- may the block be a string's bytes? -/
def notStr (m : Mem) (b : Nat) : Bool :=
  match m.get b with
  | some (.cells _ _ _ 0) => true
  | _ => false

def eqPtr (E : Env) (m : Mem) (t : TypeId) (x y : Value) : Option Bool :=
  match E.under t, x, y with
  | some (.pointer _), .pointer none, .pointer none => some true
  | some (.pointer _), .pointer none, .pointer (some _) => some false
  | some (.pointer _), .pointer (some _), .pointer none => some false
  | some (.pointer e), .pointer (some a), .pointer (some b) =>
    match E.size e with
    | some (_ + 1) =>
      bif Nat.beq a.block b.block then (if a.spot = none ∧ b.spot = none then some (Nat.beq a.off b.off) else none)
      else bif notStr m a.block && notStr m b.block then some false else none
    | _ => none
  | some (.slice _), .slice none _ _, .slice none _ _ => some true
  | some (.slice _), .slice none _ _, .slice (some _) _ _ => some false
  | some (.slice _), .slice (some _) _ _, .slice none _ _ => some false
  | some (.map _ _), .map none, .map none => some true
  | some (.map _ _), .map none, .map (some _) => some false
  | some (.map _ _), .map (some _), .map none => some false
  | some (.func _ _ _), .nilFunc, .nilFunc => some true
  | some (.func _ _ _), .nilFunc, .func _ _ _ => some false
  | some (.func _ _ _), .func _ _ _, .nilFunc => some false
  | _, _, _ => none

/-- structs of plain fields of one cell each: field by field; none: not taken. -/
def eqFlds (E : Env) : Nat → List Field → List Value → List Value → Option Bool
  | _, [], [], [] => some true
  | i, f :: fs, x :: l, y :: r =>
    bif Nat.beq f.offset i && (f.name != "_") then
      match E.under f.type, x, y with
      | some .bool, .bool a, .bool b => bif a == b then eqFlds E (i + 1) fs l r else some false
      | some (.int _), .int k a, .int k' b => if k = k' then (bif a == b then eqFlds E (i + 1) fs l r else some false) else none
      | some .string, .string ⟨⟨a⟩⟩, .string ⟨⟨b⟩⟩ => bif bytesEq a b then eqFlds E (i + 1) fs l r else some false
      | _, _, _ => none
    else none
  | _, _, _, _ => none

def eqAny (E : Env) (m : Mem) (t : TypeId) (x y : Value) : Option Bool :=
  match x, y with
  | .bool a, .bool b => match E.under t with | some .bool => some (a == b) | _ => none
  | .agg ⟨a⟩, .agg ⟨b⟩ =>
    match E.under t with
    | some (.struct fs) => bif E.eqs.any (Nat.beq t) then eqFlds E 0 fs.toList a b else none
    | _ => none
  | _, _ => eqPtr E m t x y

def binOp0 (E : Env) (m : Mem) (op : BinOp) (t : TypeId) (x y : Value) : Option Value :=
  match op, x, y with
  | .shl, .int k a, .int _ b | .shr, .int k a, .int _ b => shiftOp op k a b
  | _, .int k a, .int k' b => if k = k' then intOp op k a b else none
  | _, .string ⟨⟨a⟩⟩, .string ⟨⟨b⟩⟩ => strOp op a b
  | .eql, x, y => match eqAny E m t x y with | none => none | some r => some (.bool r)
  | .neq, x, y => match eqAny E m t x y with | none => none | some r => some (.bool (!r))
  | _, _, _ => none

def bytesSame : Value → Value → Bool
  | .bool a, .bool b => a == b
  | .int k a, .int k' b => decide (k = k') && decide (a = b)
  | .string ⟨⟨a⟩⟩, .string ⟨⟨b⟩⟩ => bytesEq a b
  | .chan (some n), .chan (some n') => Nat.beq n n'
  | _, _ => false

def factOf : List (BinOp × Value × Value × Value) → BinOp → Value → Value → Option Value
  | [], _, _, _ => none
  | (op', x', y', r) :: l, op, x, y => bif decide (op' = op) && (bytesSame x' x && bytesSame y' y) then some r else factOf l op x y

def binOp (E : Env) (m : Mem) (op : BinOp) (t : TypeId) (x y : Value) : Option Value :=
  match (bif isTok x || isTok y then factOf E.facts op x y else none) with
  | some r => some r
  | none => binOp0 E m op t x y

def argsSame : List Value → List Value → Bool
  | [], [] => true
  | a :: l, b :: r => bytesSame a b && argsSame l r
  | _, _ => false

def knownOf : List (Nat × List Value × Value) → Nat → List Value → Option Value
  | [], _, _ => none
  | (g, as, v) :: l, f, args => bif Nat.beq g f && argsSame as args then some v else knownOf l f args

def unOp (op : UnOp) (x : Value) : Option Value :=
  match op, x with
  | .neg, .int k n => some (.int k (k.wrap (0 - n)))
  | .not, .bool b => some (.bool !b)
  | _, _ => none

def bytesOfCells : List Value → Option (List UInt8)
  | [] => some []
  | .int .u8 n :: l => match bytesOfCells l with | none => none | some r => some (UInt8.ofNat n.toNat :: r)
  | _ => none

def cellsOfBytes : List UInt8 → List Value
  | [] => []
  | b :: l => .int .u8 b.toNat :: cellsOfBytes l

/-- a bound of a slice expression. -/
def bound (ρ : Rho) (d : Nat) : Option Operand → Option Nat
  | none => some d
  | some v => match ρ v with
    | .int _ (.ofNat n) => some n
    | _ => none

/-- the value of an operation that changes no memory; none: not taken. -/
def quiet (E : Env) (m : Mem) (ρ : Rho) (o : Op) : Option Value :=
  match o with
  | .move x | .assign x => some (ρ x)
  | .pick c a b => match ρ c with | .bool true => some (ρ a) | .bool false => some (ρ b) | _ => none
  | .load t a => match ρ a with | .pointer (some ⟨b, o, none⟩) => loadAt E m t b o | _ => none
  | .nilCheck x => match ρ x with | .pointer (some a) => some (.pointer (some a)) | _ => none
  | .binOp op t x y _ => binOp E m op t (ρ x) (ρ y)
  | .unOp op _ x => unOp op (ρ x)
  | .extract x i => match ρ x with | .tuple ⟨l⟩ => nth l i | _ => none
  | .build t parts =>
    match E.zero t, E.under t with
    | some z, some (.struct fs) => match places E fs.toList with
      | none => none
      | some pl => match fill (nth pl) (cellsOf z) (parts.toList.map fun p => (p.1, ρ p.2)) with
        | none => none
        | some l => some (.agg ⟨l⟩)
    | some z, some (.array _ e) => match E.size e with
      | none => none
      | some k => match fill (fun i => some (i * k, k)) (cellsOf z) (parts.toList.map fun p => (p.1, ρ p.2)) with
        | none => none
        | some l => some (.agg ⟨l⟩)
    | _, _ => none
  | .fieldAddr s x f =>
    match E.under s, ρ x with
    | some (.struct fs), .pointer (some ⟨b, o, none⟩) => match nth fs.toList f with
      | none => none
      | some fd => match E.size fd.type with
        | some (_ + 1) => some (.pointer (some ⟨b, o + fd.offset, none⟩))
        | _ => none
    | _, _ => none
  | .indexAddr t x i =>
    match E.under t, ρ x, ρ i with
    | some (.slice e), .slice (some ⟨b, o, none⟩) len _, .int _ (.ofNat i) =>
      bif Nat.blt i len then (match E.size e with | some k => some (.pointer (some ⟨b, o + i * k, none⟩)) | none => none) else none
    | some (.array len e), .pointer (some ⟨b, o, none⟩), .int _ (.ofNat i) =>
      bif Nat.blt i len then (match E.size e with | some k => some (.pointer (some ⟨b, o + i * k, none⟩)) | none => none) else none
    | _, _, _ => none
  | .index t x i =>
    match E.under t, ρ x, ρ i with
    | some .string, .string ⟨⟨s⟩⟩, .int _ (.ofNat i) => match nth s i with | some b => some (.int .u8 b.toNat) | none => none
    | some (.array len e), .agg ⟨l⟩, .int _ (.ofNat i) =>
      bif Nat.blt i len then
        match E.size e, E.under e with
        | some 1, some d => bif isAggD d then none else nth l i
        | some k, some d => bif isAggD d then some (.agg ⟨(l.drop (i * k)).take k⟩) else none
        | _, _ => none
      else none
    | _, _, _ => none
  | .field t x f =>
    match E.under t, ρ x with
    | some (.struct fs), .agg ⟨l⟩ => match nth fs.toList f with
      | none => none
      | some fd => match E.size fd.type, E.under fd.type with
        | some k, some d => bif isAggD d then some (.agg ⟨(l.drop fd.offset).take k⟩) else nth l fd.offset
        | _, _ => none
    | _, _ => none
  | .slice t x lo hi mx =>
    match mx, E.under t, ρ x with
    | none, some .string, .string ⟨⟨s⟩⟩ =>
      match bound ρ 0 lo, bound ρ s.length hi with
      | some l, some h => bif Nat.ble l h && Nat.ble h s.length then some (.string ⟨⟨(s.drop l).take (h - l)⟩⟩) else none
      | _, _ => none
    | none, some (.slice e), .slice none 0 0 =>
      match bound ρ 0 lo, bound ρ 0 hi with
      | some 0, some 0 => (match E.size e with | some _ => some (.slice none 0 0) | none => none)
      | _, _ => none
    | none, some (.slice e), .slice (some ⟨b, o, none⟩) len cap =>
      match bound ρ 0 lo, bound ρ len hi with
      | some l, some h => bif Nat.ble l h && Nat.ble h cap then
          (bif Nat.beq l 0 || Nat.blt l cap then (match E.size e with | some k => some (.slice (some ⟨b, o + l * k, none⟩) (h - l) (cap - l)) | none => none)
           else match E.size e with | some _ => some (.slice (some ⟨b, o, some 0⟩) 0 0) | none => none) else none
      | _, _ => none
    | none, some (.slice e), .slice (some ⟨b, o, some s⟩) 0 0 =>
      match bound ρ 0 lo, bound ρ 0 hi with
      | some 0, some 0 => (match E.size e with | some _ => some (.slice (some ⟨b, o, some s⟩) 0 0) | none => none)
      | _, _ => none
    | _, _, _ => none
  | .makeFunc fn first captured => some (.func fn ⟨first.toList.map ρ⟩ ⟨captured.toList.map ρ⟩)
  | .convert s d x =>
    match E.under s, E.under d, ρ x with
    | some _, some (.int k), .int _ n => some (.int k (k.wrap n))
    | some _, some .string, .string s => some (.string s)
    | some (.slice e), some .string, .slice none _ _ => (match E.under e with | some (.int .u8) => some (.string ⟨⟨[]⟩⟩) | _ => none)
    | some (.slice e), some .string, .slice (some ⟨b, o, none⟩) len _ =>
      match E.under e, m.get b with
      | some (.int .u8), some (.cells n c _ _) => bif Nat.ble (o + len) n then (match cellsFrom c o len with | none => none | some l => match bytesOfCells l with | none => none | some r => some (.string ⟨⟨r⟩⟩)) else none
      | _, _ => none
    | _, _, _ => none
  | .lookup t x i ok =>
    match E.under t, ρ x with
    | some (.map kt et), mv =>
      match (match mv with | .map none => some [] | .map (some r) => (match m.get r with | some (.map es) => some es | _ => none) | _ => none), E.zero et with
      | some es, some z => match find E m kt (ρ i) es with
        | none => none
        | some r => some (match r with
          | some v => (bif ok then .tuple ⟨[v, .bool true]⟩ else v)
          | none => (bif ok then .tuple ⟨[z, .bool false]⟩ else z))
      | _, _ => none
    | _, _ => none
  | .call c =>
    match c.callee with
    | .builtin .len => match c.argTypes.toList, c.args.toList with
      | [t], [x] => match E.under t, ρ x with
        | some .string, .string ⟨⟨s⟩⟩ => some (.int .i64 s.length)
        | some (.slice _), .slice _ n _ => some (.int .i64 n)
        | some (.array n _), _ => some (.int .i64 n)
        | some (.map _ _), .map none => some (.int .i64 0)
        | some (.map _ _), .map (some r) => (match m.get r with | some (.map es) => some (.int .i64 es.length) | _ => none)
        | _, _ => none
      | _, _ => none
    | .builtin .max => match c.args.toList with
      | [x, y] => (match ρ x, ρ y with | .int k a, .int _ b => some (.int k (if b > a then b else a)) | _, _ => none)
      | _ => none
    | .builtin .min => match c.args.toList with
      | [x, y] => (match ρ x, ρ y with | .int k a, .int _ b => some (.int k (if b < a then b else a)) | _, _ => none)
      | _ => none
    | _ => none
  | _ => none
where
  find (E : Env) (m : Mem) (kt : TypeId) (k : Value) : List (Value × Value) → Option (Option Value)
    | [] => bif keyOk E kt k then some none else none
    | (k', v) :: es => match eqKey E m kt k k' with
      | none => none
      | some true => some (some v)
      | some false => find E m kt k es
  keyOk (E : Env) (kt : TypeId) (k : Value) : Bool :=
    match E.under kt, k with
    | some (.int _), .int _ _ => true
    | some .string, .string _ => true
    | some (.pointer _), .pointer _ => true
    | _, _ => false
  eqKey (E : Env) (m : Mem) (kt : TypeId) (x y : Value) : Option Bool :=
    match E.under kt, x, y with
    | some (.int _), .int k a, .int k' b => if k = k' then some (a == b) else none
    | some .string, .string ⟨⟨a⟩⟩, .string ⟨⟨b⟩⟩ => some (bytesEq a b)
    | some (.pointer _), .pointer a, .pointer b => eqPtr E m kt (.pointer a) (.pointer b)
    | _, _, _ => none

/-- operations that make memory, and change none that stands. -/
def allocs (E : Env) (m : Mem) (ρ : Rho) (o : Op) : Option (Value × Mem) :=
  match o with
  | .alloc e => match E.zero e with
    | none => none
    | some z => withAddr m (fun a => .pointer (some a)) (newCells m e 0 (cellsOf z))
  | .box e x => withAddr m (fun a => .pointer (some a)) (newCells m e 0 (cellsOf (ρ x)))
  | .buildSlice t len parts =>
    match E.under t with
    | some (.slice e) => match E.size e, E.zero e with
      | some k, some z =>
        bif Nat.ble (len * k) 10000000 && Nat.beq (cellsOf z).length k then
          match fill (fun i => some (i * k, k)) (repeatList (cellsOf z) len) (parts.toList.map fun p => (p.1, ρ p.2)) with
          | none => none
          | some l => withAddr m (fun a => .slice (some a) len len) (newCells m e 0 l)
        else none
      | _, _ => none
    | _ => none
  | .makeSlice t l c =>
    match E.under t, ρ l, ρ c with
    | some (.slice e), .int .i64 (.ofNat l), .int .i64 (.ofNat c) => match E.ti e with
      | none => none
      | some i => match i.zero with
        | some z => bif Nat.ble l c && Nat.ble (c * i.bytes) 1000000000 && Nat.blt c 1000000000 && Nat.beq (cellsOf z).length i.size then withAddr m (fun a => .slice (some a) l c) (newCells m e 0 (repeatList (cellsOf z) c)) else none
        | none => none
    | _, _, _ => none
  | .makeMap _ none => some (.map (some m.next), m.new (.map []))
  | _ => none

/-- operations that change memory. -/
def effect (E : Env) (m : Mem) (ρ : Rho) (o : Op) : Option (Value × Mem) :=
  match o with
  | .store t a x => match ρ a with
    | .pointer (some ⟨b, o, none⟩) => match storeAt E m t b o (ρ x) with | none => none | some m' => some (undef, m')
    | _ => none
  | .mapUpdate t mp k x | .insert t mp k x =>
    match E.under t, ρ mp with
    | some (.map kt _), .map (some r) => match m.get r with
      | some (.map es) => match upd E m kt (ρ k) (ρ x) es with
        | none => none
        | some es' => some (undef, m.put r (.map es'))
      | _ => none
    | _, _ => none
  | .convert s d x =>
    match ρ x with
    | .slice (some ⟨b, o, none⟩) len cap =>
      match E.under s, E.under d with
      | some (.slice _), some (.slice e) => match E.under e, m.get b with
        | some (.int .u8), some (.cells n c el kd) => bif Nat.beq s d && !(Nat.beq kd 1) then some (.slice (some ⟨b, o, none⟩) len cap, m.put b (.cells n c el 2)) else none
        | _, _ => none
      | _, _ => none
    | .string ⟨⟨str⟩⟩ => match E.under s, E.under d with
      | some _, some (.slice e) => match E.under e with
        | some (.int .u8) => bif size1 E e then withAddr m (fun a => .slice (some a) str.length str.length) (newCells m e 2 (cellsOfBytes str)) else none
        | _ => none
      | _, _ => none
    | _ => none
  | .call c =>
    match c.callee with
    | .builtin .append => match c.argTypes.toList, c.args.toList with
      | [t, u], [x, y] => match E.under t, E.under u with
        | some (.slice e), some du =>
          bif !(rowD du) then none else
          match E.ti e with
          | none => none
          | some i => match i.zero with
            | none => none
            | some z => bif Nat.beq (cellsOf z).length i.size then
                match cellsIn m i.size (ρ y) with
                | none => none
                | some (k, new) => append m e i.size i.bytes (ρ x) k new
              else none
        | _, _ => none
      | _, _ => none
    | _ => none
  | _ => none
where
  upd (E : Env) (m : Mem) (kt : TypeId) (k x : Value) : List (Value × Value) → Option (List (Value × Value))
    | [] => bif quiet.keyOk E kt k then some [(k, x)] else none
    | (k', v) :: es => match quiet.eqKey E m kt k k' with
      | none => none
      | some true => some ((k, x) :: es)
      | some false => match upd E m kt k x es with | none => none | some r => some ((k', v) :: r)
  cellsIn (m : Mem) (size : Nat) : Value → Option (Nat × List Value)
    | .slice none n _ => bif Nat.beq n 0 then some (0, []) else none
    | .slice (some ⟨_, _, some _⟩) n _ => bif Nat.beq n 0 then some (0, []) else none
    | .slice (some ⟨b, o, none⟩) n _ => match m.get b with
      | some (.cells k c _ _) => bif Nat.ble (o + n * size) k then (match cellsFrom c o (n * size) with | none => none | some l => some (n, l)) else none
      | _ => none
    | .string ⟨⟨s⟩⟩ => bif Nat.beq size 1 then some (s.length, cellsOfBytes s) else none
    | _ => none
  append (m : Mem) (e : TypeId) (size bytes : Nat) (x : Value) (k : Nat) (new : List Value) : Option (Value × Mem) :=
    match x with
    | .slice none n c =>
      bif Nat.beq n 0 && Nat.beq c 0 && Nat.ble (k * bytes) 1000000000 && Nat.ble k 1000000000 then
        bif Nat.beq k 0 then some (.slice none 0 0, m) else withAddr m (fun a => .slice (some a) k k) (newCells m e 0 new)
      else none
    | .slice (some ⟨b, o, none⟩) n cap =>
      match m.get b with
      | some (.cells nc c el kd) =>
        bif Nat.beq kd 1 then none else
        bif Nat.ble (n + k) cap then
          match storeFrom c (o + n * size) nc new with
          | none => none
          | some c' => some (.slice (some ⟨b, o, none⟩) (n + k) cap, m.put b (.cells nc c' el kd))
        else bif Nat.ble n cap && Nat.ble (cap * size) nc && Nat.beq el e && Nat.beq o 0 && Nat.ble ((n + k) * bytes) 1000000000 && Nat.ble (n + k) 1000000000 && Nat.ble ((n + k) * size) 1000000000 && new.all oneCell then
          -- the old block ends; the new one bears its first cells and the new ones
          some (.slice (some ⟨m.next, 0, none⟩) (n + k) (n + k), (m.put b .dead).new (.cells ((n + k) * size) (ofListFrom c (n * size) new) e kd))
        else none
      | _ => none
    | _ => none

/-! Functions, regions, code. -/

structure Act where
  tmps : Tree Value
  n : Nat
  defers : List (Nat × List Value)
  m : Mem

def Act.tmp (a : Act) (t : Nat) : Value := match a.tmps.get t with | some v => v | none => undef

def Act.eval (a : Act) : Operand → Value
  | .tmp t => a.tmp t
  | .const v => v
  | .global g => .pointer (some ⟨g, 0, none⟩)
  | .func f => .func (.func f) #[] #[]

def Act.put (a : Act) (dst : Option Tmp) (v : Value) : Option Act :=
  match dst with
  | none => some a
  | some d => bif Nat.blt d a.n then some { a with tmps := a.tmps.set (d + 1) d v } else none

inductive Ex where
  | normal | exit (id : Nat) | ret | goto (l : Nat)

/-- jumps within a scope. -/
def jumps (run : Code → Act → Option (Ex × Act)) (body : Code) : Nat → Option (Ex × Act) → Option (Ex × Act)
  | 0, _ => none
  | k + 1, r => match r with
    | some (.goto l, a) => match findLabel body l with
      | some rest => jumps run body k (run rest a)
      | none => some (.goto l, a)
    | r => r

abbrev CallFn := Nat → List Value → Mem → Option (Value × Mem)

def target (ρ : Rho) (c : Call) : Option (Nat × List Value) :=
  match c.callee with
  | .value f => match ρ f with
    | .func (.func g) ⟨first⟩ ⟨cap⟩ => some (g, first ++ c.args.toList.map ρ ++ cap)
    | _ => none
  | _ => none

/-- what an operation that is no call does: the kind: 0 quiet, 1 makes memory, 2 changes it. -/
def plainOp (E : Env) (m : Mem) (ρ : Rho) (o : Op) : Option (Nat × Value × Mem) :=
  match quiet E m ρ o with
  | some v => some (0, v, m)
  | none => match allocs E m ρ o with
      | some (v, m') => some (1, v, m')
      | none => match effect E m ρ o with
        | some (v, m') => some (2, v, m')
        | none => none

/-- one operation that is wanted. -/
def oper (E : Env) (call : CallFn) (a : Act) (o : Oper) : Option (Nat × Act) :=
  match plainOp E a.m a.eval o.op with
  | some (k, v, m') => match ({ a with m := m' } : Act).put o.dst v with | none => none | some a' => some (k, a')
  | none => match o.op with
    | .call c => match target a.eval c with
      | none => none
      | some (g, args) => match call g args a.m with
        | none => none
        | some (v, m') => match ({ a with m := m' } : Act).put o.dst v with | none => none | some a' => some (2, a')
    | .defer c => match target a.eval c with
      | none => none
      | some d => match ({ a with defers := d :: a.defers } : Act).put o.dst undef with | none => none | some a' => some (2, a')
    | _ => none

/-- is a guarded operation wanted? -/
def wanted (a : Act) (ops : List Oper) (o : Oper) : Bool :=
  match o.guard with
  | none => true
  | some (j, want) => match nth ops j with
    | none => false
    | some oj => match oj.dst with
      | none => false
      | some d => match a.tmp d with
        | .bool b => b == want
        | _ => false

/-- an operation, wanted or not; the kind. -/
def stepOp (E : Env) (call : CallFn) (all : List Oper) (a : Act) (o : Oper) : Option (Nat × Act) :=
  bif wanted a all o then oper E call a o else match a.put o.dst undef with | none => none | some a' => some (0, a')

def opers (E : Env) (call : CallFn) (all : List Oper) : List Oper → Act → Option Act
  | [], a => some a
  | o :: l, a => match stepOp E call all a o with
    | none => none
    | some (_, a') => opers E call all l a'

/-! A region that draws its order: it is gone through in one order, and held against all others. -/

/-- an operation with its number, and all that must be ahead of it as bits. -/
structure Ent where
  i : Nat
  o : Oper
  mask : Nat

def depsIn : List Edge → List Nat
  | [] => []
  | e :: l => bif Region.binds .any e then e.on :: depsIn l else depsIn l
def depsOf (o : Oper) : List Nat := depsIn o.after.toList

def maskOf (ms : List Nat) : List Nat → Nat
  | [] => 0
  | d :: l => (2 ^ d ||| (match nth ms d with | some x => x | none => 0)) ||| maskOf ms l

/-- of all operations: the bits of what must be ahead. -/
def masks : List Nat → List Oper → List Nat
  | ms, [] => ms
  | ms, o :: l => masks (ms ++ [maskOf ms (depsOf o)]) l

def isAl : Op → Bool
  | .alloc _ | .box .. | .buildSlice .. | .makeSlice .. | .makeMap .. => true
  | _ => false

def isEff (E : Env) : Op → Bool
  | .move _ | .assign _ | .pick .. | .load .. | .nilCheck _ | .binOp .. | .unOp .. | .extract .. | .build .. | .fieldAddr .. | .indexAddr .. | .index .. | .field .. | .slice .. | .makeFunc .. | .lookup .. => false
  | .alloc _ | .box .. | .buildSlice .. | .makeSlice .. | .makeMap .. => false
  | .convert _ d _ => match E.under d with | some (.slice _) => true | _ => false
  | .call c => match c.callee with | .builtin .len | .builtin .max | .builtin .min => false | _ => true
  | _ => true

def tmpIn (t : Nat) : List Operand → Bool
  | [] => false
  | .tmp s :: l => Nat.beq s t || tmpIn t l
  | _ :: l => tmpIn t l

/-- does an operation look at a temporary? -/
def reads (all : List Oper) (o : Oper) (t : Nat) : Bool :=
  tmpIn t o.op.operands.toList ||
  (match o.guard with
   | none => false
   | some (j, _) => match nth all j with
     | none => false
     | some oj => match oj.dst with | none => false | some d => Nat.beq d t)

def writesTo (o : Oper) (t : Nat) : Bool := match o.dst with | none => false | some d => Nat.beq d t

/-- may two not be told apart in either order, by their temporaries? -/
def clash (all : List Oper) (x y : Oper) : Bool :=
  (match x.dst with | none => false | some d => reads all y d || writesTo y d) || (match y.dst with | none => false | some d => reads all x d)

def pairOk (E : Env) (all : List Oper) (x y : Ent) : Bool :=
  !(Nat.beq x.i y.i) &&
  (!(clash all x.o y.o) || y.mask.testBit x.i) &&
  (!(isEff E x.o.op && (isEff E y.o.op || isAl y.o.op)) || y.mask.testBit x.i)

def allPairs (E : Env) (all : List Oper) : List Ent → Bool
  | [] => true
  | x :: l => l.all (pairOk E all x) && allPairs E all l

def entsFrom : Nat → List Nat → List Oper → List Ent
  | i, m :: ms, o :: l => ⟨i, o, m⟩ :: entsFrom (i + 1) ms l
  | _, _, _ => []

def loose (e : Ent) : Bool := (match e.o.op with | .alloc _ => true | _ => false) && (depsOf e.o).isEmpty

def ordered (l : List Ent) : List Ent := l.filter loose ++ l.filter (fun e => !(loose e))

/-- is x, ahead of p, done before what stands between, or is nothing of effect between? -/
def between (E : Env) (x : Ent) (l : List Ent) : Bool := (l.all fun e => !(isEff E e.o.op)) || l.any fun e => isEff E e.o.op && e.mask.testBit x.i

/-- the pairs (place of an operation, place of a stage) that must be asked again. -/
def needsOf (E : Env) (l : List Ent) : List (Nat × Nat) :=
  (List.range l.length).flatMap fun x => (List.range (l.length + 1)).filterMap fun p =>
    match nth l x with
    | none => none
    | some ex => bif isEff E ex.o.op then none else
      bif Nat.blt x p then
        (bif (match nth l p with | none => true | some ep => isEff E ep.o.op) then (bif between E ex ((l.take p).drop (x + 1)) then none else some (x, p)) else none)
      else bif Nat.blt p x then
        (match nth l p with | none => none | some ep => bif isEff E ep.o.op && !(ex.mask.testBit ep.i) then some (x, p) else none)
      else none

/-- a region's order, and what must be asked again; none: it is not taken. -/
def plan (E : Env) (ops : List Oper) : Option (List Ent × List (Nat × Nat)) :=
  let l := ordered (entsFrom 0 (masks [] ops) ops)
  bif Nat.beq l.length ops.length && l.all (fun e => (depsOf e.o).all fun d => Nat.blt d e.i) && allPairs E ops l then some (l, needsOf E l) else none

/-- in that order: of each the state ahead of it. -/
def trace (E : Env) (call : CallFn) (all : List Oper) : List Ent → Act → Option (List Act)
  | [], a => some [a]
  | e :: l, a => match stepOp E call all a e.o with
    | none => none
    | some (k, a') => bif isEff E e.o.op || Nat.beq k 0 || (Nat.beq k 1 && isAl e.o.op) then (match trace E call all l a' with | none => none | some r => some (a :: r)) else none

def sameCell : Value → Value → Bool
  | .bool a, .bool b => a == b
  | .int k a, .int k' b => decide (k = k') && decide (a = b)
  | .string ⟨⟨a⟩⟩, .string ⟨⟨b⟩⟩ => bytesEq a b
  | .pointer none, .pointer none => true
  | .pointer (some ⟨b, o, none⟩), .pointer (some ⟨b', o', none⟩) => Nat.beq b b' && Nat.beq o o'
  | .slice none n c, .slice none n' c' => Nat.beq n n' && Nat.beq c c'
  | .slice (some ⟨b, o, none⟩) n c, .slice (some ⟨b', o', none⟩) n' c' => Nat.beq b b' && Nat.beq o o' && Nat.beq n n' && Nat.beq c c'
  | .map none, .map none => true
  | .map (some r), .map (some r') => Nat.beq r r'
  | _, _ => false

def sameCells : List Value → List Value → Bool
  | [], [] => true
  | a :: l, b :: r => sameCell a b && sameCells l r
  | _, _ => false

/-- functions too, of plain captured cells. -/
def sameCell1 : Value → Value → Bool
  | .func (.func g) ⟨f⟩ ⟨c⟩, .func (.func g') ⟨f'⟩ ⟨c'⟩ => Nat.beq g g' && sameCells f f' && sameCells c c'
  | a, b => sameCell a b

def sameCells1 : List Value → List Value → Bool
  | [], [] => true
  | a :: l, b :: r => sameCell1 a b && sameCells1 l r
  | _, _ => false

def sameV : Value → Value → Bool
  | .agg ⟨a⟩, .agg ⟨b⟩ => sameCells1 a b
  | a, b => sameCell1 a b

def sameObj : Option AObj → Option AObj → Bool
  | some (.cells n c e k), some (.cells n' c' e' k') => Nat.beq n n' && Nat.beq e e' && Nat.beq k k' && (match cellsFrom c 0 n, cellsFrom c' 0 n with | some l, some l' => sameCells1 l l' | _, _ => false)
  | some (.map []), some (.map []) => true
  | _, _ => false

/-- an operation at a stage's memory: is it what it was? -/
def again (E : Env) (all : List Oper) (e : Ent) (a a' : Act) (m : Mem) : Bool :=
  bif wanted a all e.o then
    bif isAl e.o.op then sameObj (a'.m.get a.m.next) (m.get a.m.next)
    else match quiet E m a.eval e.o.op, e.o.dst with
      | some _, none => true
      | some v, some d => sameV v (a'.tmp d)
      | none, _ => false
  else true

def last : List Act → Option Act
  | [] => none
  | [a] => some a
  | _ :: l => last l

def drawn (E : Env) (call : CallFn) (all : List Oper) (a : Act) : Option Act :=
  match plan E all with
  | none => none
  | some (l, needs) => match trace E call all l a with
    | none => none
    | some tr => bif needs.all (fun q => match nth l q.1, nth tr q.1, nth tr (q.1 + 1), nth tr q.2 with | some e, some a, some a', some b => again E all e a a' b.m | _, _, _, _ => false) then last tr else none

def results (E : Env) (a : Act) : List ResultVar → Option (List Value)
  | [] => some []
  | .tmp t :: l => match results E a l with | none => none | some r => some (a.tmp t :: r)
  | .cell t ty :: l => match a.tmp t with
    | .pointer (some ⟨b, o, none⟩) => (match loadAt E a.m ty b o, results E a l with | some v, some r => some (v :: r) | _, _ => none)
    | _ => none

abbrev CallDFn := Nat → List Value → Mem → Option Mem

def defers (call : CallDFn) : List (Nat × List Value) → Mem → Option Mem
  | [], m => some m
  | (f, args) :: l, m => match call f args m with | none => none | some m' => defers call l m'

def one : List Value → Value
  | [v] => v
  | l => .tuple ⟨l⟩

/-- a function's body came to its end. -/
def ended : Option (Ex × Act) → Option Act
  | some (.normal, a) => some a
  | some (.ret, a) => some a
  | _ => none

mutual
def code (E : Env) : Nat → Code → Act → Option (Ex × Act)
  | 0, _, _ => none
  | n + 1, c, a =>
    match c with
    | .skip => some (.normal, a)
    | .region _ ops false => match opers E (call E n) ops.toList ops.toList a with | none => none | some a' => some (.normal, a')
    | .region _ ops true => match drawn E (call E n) ops.toList a with | none => none | some a' => some (.normal, a')
    | .seq x y => match code E n x a with
      | some (.normal, a') => code E n y a'
      | r => r
    | .cond c x y => match a.eval c with
      | .bool true => code E n x a
      | .bool false => code E n y a
      | _ => none
    | .block id x => match code E n x a with
      | some (.exit id', a') => bif Nat.beq id' id then some (.normal, a') else some (.exit id', a')
      | r => r
    | .loop x => match code E n x a with
      | some (.normal, a') => code E n (.loop x) a'
      | r => r
    | .exit id => some (.exit id, a)
    | .ret => some (.ret, a)
    | .label _ => some (.normal, a)
    | .goto l => some (.goto l, a)
    | .scope x => jumps (code E n) x n (code E n x a)
    | _ => none
def call (E : Env) : Nat → Nat → List Value → Mem → Option (Value × Mem)
  | 0, _, _, _ => none
  | n + 1, f, args, m =>
    match knownOf E.known f args with
    | some v => some (v, m)
    | none => match E.funcs.get f with
      | none => none
      | some fn => match fn.body with
        | none => none
        | some c =>
          bif Nat.ble args.length fn.ntmps && Nat.ble fn.ntmps 1000000000 then
            match ended (code E n c { tmps := ofListFrom .leaf 0 args, n := fn.ntmps, defers := [], m := m }) with
            | none => none
            | some a => match defers (callD E n) a.defers a.m with
              | none => none
              | some m' => match results E { a with m := m' } fn.results.toList with
                | none => none
                | some vs => some (one vs, m')
          else none
/-- a deferred call: of a function that defers nothing itself. -/
def callD (E : Env) : Nat → Nat → List Value → Mem → Option Mem
  | 0, _, _, _ => none
  | n + 1, f, args, m =>
    match E.funcs.get f with
    | none => none
    | some fn => match fn.body with
      | none => none
      | some c =>
        bif Nat.ble args.length fn.ntmps && Nat.ble fn.ntmps 1000000000 then
          match ended (code E n c { tmps := ofListFrom .leaf 0 args, n := fn.ntmps, defers := [], m := m }) with
          | none => none
          | some a => bif a.defers.isEmpty then (match results E a fn.results.toList with | none => none | some _ => some a.m) else none
        else none
end

end Go.Ev

namespace Go.Ev
set_option linter.unusedSimpArgs false
set_option linter.unusedVariables false

/-- more fuel, the same answers. -/
def CLe (c d : CallFn) : Prop := ∀ f args m r, c f args m = some r → d f args m = some r
def KLe (c d : Code → Act → Option (Ex × Act)) : Prop := ∀ x a r, c x a = some r → d x a = some r

variable {E : Env}

theorem oper_mono {c d : CallFn} (h : CLe c d) {a : Act} {o : Oper} {r : Nat × Act} (hr : oper E c a o = some r) : oper E d a o = some r := by
 unfold oper at hr ⊢
 split at hr
 ·exact hr
 ·split at hr
  ·rename_i hq _ cc hop
   skip
   split at hr
   ·cases hr
   ·rename_i g args ht
    split at hr
    ·cases hr
    ·rename_i v m' hc
     simp only [h _ _ _ _ hc]
     exact hr
  ·rename_i hq _ cc hop
   exact hr
  ·cases hr

theorem stepOp_mono {c d : CallFn} (h : CLe c d) {all : List Oper} {a : Act} {o : Oper} {r : Nat × Act} (hr : stepOp E c all a o = some r) : stepOp E d all a o = some r := by
 unfold stepOp at hr ⊢
 cases hw : wanted a all o with
 | false => rw [hw] at hr; exact hr
 | true => rw [hw] at hr; exact oper_mono h hr

theorem opers_mono {c d : CallFn} (h : CLe c d) {all : List Oper} : ∀ {l : List Oper} {a r : Act}, opers E c all l a = some r → opers E d all l a = some r
 | [], _, _, hr => hr
 | o :: l, a, r, hr => by
  simp only [opers] at hr ⊢
  split at hr
  ·cases hr
  ·rename_i k a' hs
   rw [stepOp_mono h hs]
   exact opers_mono h hr

theorem trace_mono {c d : CallFn} (h : CLe c d) {all : List Oper} : ∀ {l : List Ent} {a : Act} {r : List Act}, trace E c all l a = some r → trace E d all l a = some r
 | [], _, _, hr => hr
 | e :: l, a, r, hr => by
  simp only [trace] at hr ⊢
  split at hr
  ·cases hr
  ·rename_i k a' hs
   rw [stepOp_mono h hs]
   simp only
   cases hb : (isEff E e.o.op || Nat.beq k 0 || Nat.beq k 1 && isAl e.o.op) with
   | false => rw [hb] at hr; cases hr
   | true =>
    rw [hb] at hr
    simp only [cond_true] at hr ⊢
    split at hr
    ·cases hr
    ·rename_i tr ht
     rw [trace_mono h ht]
     exact hr

theorem drawn_mono {c d : CallFn} (h : CLe c d) {all : List Oper} {a r : Act} (hr : drawn E c all a = some r) : drawn E d all a = some r := by
 unfold drawn at hr ⊢
 split at hr
 ·cases hr
 ·rename_i l needs hp
  skip
  split at hr
  ·cases hr
  ·rename_i tr ht
   rw [trace_mono h ht]
   exact hr

theorem jumps_mono {c d : Code → Act → Option (Ex × Act)} (h : KLe c d) {body : Code} : ∀ {k k' : Nat} {q q' : Option (Ex × Act)} {r : Ex × Act}, k ≤ k' → (∀ s, q = some s → q' = some s) → jumps c body k q = some r → jumps d body k' q' = some r
 | 0, _, _, _, _, _, _, hr => by simp [jumps] at hr
 | k + 1, 0, _, _, _, hk, _, _ => by omega
 | k + 1, k' + 1, q, q', r, hk, hq, hr => by
  simp only [jumps] at hr ⊢
  split at hr
  ·rename_i l a
   rw [hq _ rfl]
   simp only
   split at hr
   ·rename_i rest hf
    try simp only [hf]
    exact jumps_mono h (by omega) (fun s hs => h _ _ _ hs) hr
   ·rename_i hf
    try simp only [hf]
    exact hr
  ·rename_i hno
   have := hq _ hr
   rw [this]
   split
   ·rename_i l a he
    cases he
    exact absurd hr (hno _ _)
   ·rfl

theorem defers_mono {c d : CallDFn} (h : ∀ f args m r, c f args m = some r → d f args m = some r) : ∀ {l : List (Nat × List Value)} {m r : Mem}, defers c l m = some r → defers d l m = some r
 | [], _, _, hr => hr
 | (f, args) :: l, m, r, hr => by
  simp only [defers] at hr ⊢
  split at hr
  ·cases hr
  ·rename_i m' hc
   rw [h _ _ _ _ hc]
   exact defers_mono h hr

theorem fuel (n : Nat) : (∀ n', n ≤ n' → KLe (code E n) (code E n')) ∧ (∀ n', n ≤ n' → CLe (call E n) (call E n')) ∧ (∀ n', n ≤ n' → ∀ f args m r, callD E n f args m = some r → callD E n' f args m = some r) := by
 induction n with
 | zero => exact ⟨fun _ _ x a r h => by simp [code] at h, fun _ _ f args m r h => by simp [call] at h, fun _ _ f args m r h => by simp [callD] at h⟩
 | succ n ih =>
  obtain ⟨ik, ic, id⟩ := ih
  refine ⟨fun n' hn x a r h => ?_, fun n' hn f args m r h => ?_, fun n' hn f args m r h => ?_⟩
  ·obtain ⟨n', rfl⟩ : ∃ k, n' = k + 1 := ⟨n' - 1, by omega⟩
   have hle : n ≤ n' := by omega
   have hk := ik n' hle
   have hc := ic n' hle
   cases x <;> simp only [code] at h ⊢ <;> first | exact h | skip
   case region i ops b =>
    cases b
    ·simp only at h ⊢
     split at h
     ·cases h
     ·rename_i a' ho; rw [opers_mono hc ho]; exact h
    ·simp only at h ⊢
     split at h
     ·cases h
     ·rename_i a' ho; rw [drawn_mono hc ho]; exact h
   case seq x y =>
    split at h
    ·rename_i a' hx; rw [hk _ _ _ hx]; exact hk _ _ _ h
    ·rename_i hno
     rw [hk _ _ _ h]
     split
     ·rename_i a' he; cases he; exact absurd h (hno _)
     ·rfl
   case cond c x y =>
    split at h
    ·exact hk _ _ _ h
    ·exact hk _ _ _ h
    ·cases h
   case block i x =>
    split at h
    ·rename_i id' a' hx; rw [hk _ _ _ hx]; exact h
    ·rename_i hno
     rw [hk _ _ _ h]
     split
     ·rename_i id' a' he; cases he; exact absurd h (hno _ _)
     ·rfl
   case loop x =>
    split at h
    ·rename_i a' hx; rw [hk _ _ _ hx]; exact hk _ _ _ h
    ·rename_i hno
     rw [hk _ _ _ h]
     split
     ·rename_i a' he; cases he; exact absurd h (hno _)
     ·rfl
   case scope x => exact jumps_mono hk hle (fun s hs => hk _ _ _ hs) h
  ·obtain ⟨n', rfl⟩ : ∃ k, n' = k + 1 := ⟨n' - 1, by omega⟩
   have hle : n ≤ n' := by omega
   have hk := ik n' hle
   have hd := id n' hle
   simp only [call] at h ⊢
   split at h
   ·rename_i v hv; exact h
   ·rename_i hv
    try simp only [hv]
    split at h
    ·cases h
    ·rename_i fn hf
     try simp only [hf]
     split at h
     ·cases h
     ·rename_i c hb
      try simp only [hb]
      cases hg : (Nat.ble args.length fn.ntmps && Nat.ble fn.ntmps 1000000000) with
      | false => rw [hg] at h; cases h
      | true =>
       rw [hg] at h
       simp only [cond_true] at h ⊢
       split at h
       ·cases h
       ·rename_i a' he
        have : ended (code E n' c { tmps := ofListFrom .leaf 0 args, n := fn.ntmps, defers := [], m := m }) = some a' := by
         unfold ended at he ⊢
         split at he
         ·rename_i hx; rw [hk _ _ _ hx]; exact he
         ·rename_i hx; rw [hk _ _ _ hx]; exact he
         ·cases he
        simp only [this]
        split at h
        ·cases h
        ·rename_i m' hm
         rw [defers_mono hd hm]
         exact h
  ·obtain ⟨n', rfl⟩ : ∃ k, n' = k + 1 := ⟨n' - 1, by omega⟩
   have hle : n ≤ n' := by omega
   have hk := ik n' hle
   simp only [callD] at h ⊢
   split at h
   ·cases h
   ·rename_i fn hf
    try simp only [hf]
    split at h
    ·cases h
    ·rename_i c hb
     try simp only [hb]
     cases hg : (Nat.ble args.length fn.ntmps && Nat.ble fn.ntmps 1000000000) with
     | false => rw [hg] at h; cases h
     | true =>
      rw [hg] at h
      simp only [cond_true] at h ⊢
      split at h
      ·cases h
      ·rename_i a' he
       have : ended (code E n' c { tmps := ofListFrom .leaf 0 args, n := fn.ntmps, defers := [], m := m }) = some a' := by
        unfold ended at he ⊢
        split at he
        ·rename_i hx; rw [hk _ _ _ hx]; exact he
        ·rename_i hx; rw [hk _ _ _ hx]; exact he
        ·cases he
       simp only [this]
       exact h

theorem code_fuel {n n' : Nat} (h : n ≤ n') {c : Code} {a : Act} {r : Ex × Act} (hr : code E n c a = some r) : code E n' c a = some r := (fuel n).1 n' h _ _ _ hr
theorem call_fuel {n n' : Nat} (h : n ≤ n') {f : Nat} {args : List Value} {m : Mem} {r : Value × Mem} (hr : call E n f args m = some r) : call E n' f args m = some r := (fuel n).2.1 n' h _ _ _ _ hr
theorem callD_fuel {n n' : Nat} (h : n ≤ n') {f : Nat} {args : List Value} {m r : Mem} (hr : callD E n f args m = some r) : callD E n' f args m = some r := (fuel n).2.2 n' h _ _ _ _ hr
theorem cle {n n' : Nat} (h : n ≤ n') : CLe (call E n) (call E n') := (fuel n).2.1 n' h
end Go.Ev

namespace Go.Ev
set_option linter.unusedSimpArgs false
open Go.RowKit
set_option linter.unusedVariables false
set_option linter.unusedSectionVars false

/-! ## The trie -/
namespace Tree
variable {α : Type}

theorem beq_true {a b : Nat} (h : a = b) : Nat.beq a b = true := by subst h; exact Nat.beq_refl a
theorem beq_false {a b : Nat} (h : a ≠ b) : Nat.beq a b = false := by
 cases hb : Nat.beq a b
 ·rfl
 ·exact absurd (Nat.eq_of_beq_eq_true hb) h

theorem get_set_same : ∀ (f : Nat) (t : Tree α) (i : Nat) (x : α), i + 1 < 2 ^ f → (t.set f i x).get i = some x := by
 intro f
 induction f with
 | zero => intro t i x h; simp at h
 | succ f ih =>
  intro t i x h
  by_cases h0 : i = 0
  ·subst h0; cases t <;> simp [set, get]
  ·have hb : Nat.beq i 0 = false := beq_false h0
   have hp : 2 ^ (f + 1) = 2 * 2 ^ f := by rw [Nat.pow_succ]; omega
   by_cases h1 : i % 2 = 1
   ·have hb1 : Nat.beq (i % 2) 1 = true := beq_true h1
    have := ih (match t with | .leaf => .leaf | .node l _ _ => l) (i / 2) x (by omega)
    cases t <;> simpa [set, get, hb, hb1] using this
   ·have hb1 : Nat.beq (i % 2) 1 = false := beq_false h1
    have := ih (match t with | .leaf => .leaf | .node _ _ r => r) (i / 2 - 1) x (by omega)
    cases t <;> simpa [set, get, hb, hb1] using this

theorem get_set_other : ∀ (f : Nat) (t : Tree α) (i j : Nat) (x : α), i ≠ j → (t.set f i x).get j = t.get j := by
 intro f
 induction f with
 | zero => intro t i j x h; rfl
 | succ f ih =>
  intro t i j x h
  have ihl := fun (l : Tree α) (a b : Nat) (hab : a ≠ b) => ih l a b x hab
  by_cases h0 : i = 0
  ·subst h0
   have hj : Nat.beq j 0 = false := beq_false (fun e => h e.symm)
   cases t <;> simp [set, get, hj]
  ·have hb : Nat.beq i 0 = false := beq_false h0
   by_cases hj0 : j = 0
   ·subst hj0
    cases t <;> simp only [set, hb, cond_false] <;> cases Nat.beq (i % 2) 1 <;> simp [get]
   ·have hbj : Nat.beq j 0 = false := beq_false hj0
    by_cases h1 : i % 2 = 1
    ·have hb1 : Nat.beq (i % 2) 1 = true := beq_true h1
     by_cases h2 : j % 2 = 1
     ·have hb2 : Nat.beq (j % 2) 1 = true := beq_true h2
      cases t <;> simp [set, get, hb, hb1, hbj, hb2] <;> rw [ihl _ _ _ (by omega)] <;> rfl
     ·have hb2 : Nat.beq (j % 2) 1 = false := beq_false h2
      cases t <;> simp [set, get, hb, hb1, hbj, hb2]
    ·have hb1 : Nat.beq (i % 2) 1 = false := beq_false h1
     by_cases h2 : j % 2 = 1
     ·have hb2 : Nat.beq (j % 2) 1 = true := beq_true h2
      cases t <;> simp [set, get, hb, hb1, hbj, hb2]
     ·have hb2 : Nat.beq (j % 2) 1 = false := beq_false h2
      cases t <;> simp [set, get, hb, hb1, hbj, hb2] <;> rw [ihl _ _ _ (by omega)] <;> rfl

theorem get_leaf (i : Nat) : (leaf : Tree α).get i = none := by cases i <;> rfl
end Tree

theorem pow_D : (2 : Nat) ^ D = 1099511627776 := by decide

theorem Tree.get_set {α : Type} (t : Tree α) (i : Nat) (x : α) : (t.set (i + 1) i x).get i = some x := Tree.get_set_same _ t i x Nat.lt_two_pow_self

theorem get_set_D {α : Type} (t : Tree α) (i : Nat) (x : α) (h : i ≤ 2000000000) : (t.set D i x).get i = some x :=
 Tree.get_set_same D t i x (by rw [pow_D]; omega)

/-- cells laid from i on. -/
theorem get_ofListFrom : ∀ (l : List Value) (c : Tree Value) (i j : Nat), i + l.length ≤ 2000000000 →
  (ofListFrom c i l).get j = if i ≤ j ∧ j < i + l.length then l[j - i]? else c.get j := by
 intro l
 induction l with
 | nil => intro c i j h; simp only [ofListFrom, List.length_nil, Nat.add_zero]; rw [if_neg (by omega)]
 | cons v l ih =>
  intro c i j h
  simp only [List.length_cons] at h
  simp only [ofListFrom]
  rw [ih _ _ _ (by omega)]
  by_cases hj : i + 1 ≤ j ∧ j < i + 1 + l.length
  ·rw [if_pos hj, if_pos (by simp only [List.length_cons]; omega)]
   rw [show j - i = (j - (i + 1)) + 1 by omega]; rfl
  ·rw [if_neg hj]
   by_cases hij : i = j
   ·subst hij
    rw [Tree.get_set, if_pos (by simp only [List.length_cons]; omega)]; simp
   ·rw [Tree.get_set_other _ _ _ _ _ hij, if_neg (by simp only [List.length_cons]; omega)]

/-! ## Values -/
/-- which block of the world an object's number means; how many places more a slice of it may have in the world. -/
structure Phi where
 to : Nat → Option Nat
 cap : Nat → Nat
instance : CoeFun Phi (fun _ => Nat → Option Nat) := ⟨Phi.to⟩

/-- a value of one cell without addresses. -/
def plainCell : Value → Bool
 | .bool _ | .int _ _ | .float _ _ | .complex _ _ _ | .string _ | .pointer none | .slice none _ _ | .map none | .chan none | .nilFunc | .nilIface => true
 | _ => false

/-- what the signs stand for. -/
class Sym where
 val : Nat → Option Value

/-- an integer or a string. -/
def tokOk : Value → Bool
 | .int _ _ | .string _ => true
 | _ => false

variable [Sym]

mutual
inductive VR (φ : Phi) : Value → Value → Prop where
 | bool (b : Bool) : VR φ (.bool b) (.bool b)
 | int (k : IntKind) (n : Int) : VR φ (.int k n) (.int k n)
 | float (k : FloatKind) (n : Nat) : VR φ (.float k n) (.float k n)
 | complex (k : FloatKind) (n m : Nat) : VR φ (.complex k n m) (.complex k n m)
 | string (s : ByteArray) : VR φ (.string s) (.string s)
 | pnil : VR φ (.pointer none) (.pointer none)
 | ptr {b b' : Nat} (o : Nat) (h : φ b = some b') : VR φ (.pointer (some ⟨b, o, none⟩)) (.pointer (some ⟨b', o, none⟩))
 | snil (n c : Nat) : VR φ (.slice none n c) (.slice none n c)
 | slice {b b' : Nat} (o n : Nat) {c c' : Nat} (h : φ b = some b') (hc : c ≤ c' ∧ c' ≤ c + φ.cap b) : VR φ (.slice (some ⟨b, o, none⟩) n c) (.slice (some ⟨b', o, none⟩) n c')
 | slost (b o s : Nat) (a : Addr) (c : Nat) : VR φ (.slice (some ⟨b, o, some s⟩) 0 0) (.slice (some a) 0 c)
 | mnil : VR φ (.map none) (.map none)
 | map {b b' : Nat} (h : φ b = some b') : VR φ (.map (some b)) (.map (some b'))
 | cnil : VR φ (.chan none) (.chan none)
 | func (fn : Fn) {f f' c c' : List Value} (hf : VRs φ f f') (hc : VRs φ c c') : VR φ (.func fn ⟨f⟩ ⟨c⟩) (.func fn ⟨f'⟩ ⟨c'⟩)
 | nilFunc : VR φ .nilFunc .nilFunc
 | iface (t : TypeId) {v v' : Value} (h : VR φ v v') : VR φ (.iface t v) (.iface t v')
 | nilIface : VR φ .nilIface .nilIface
 | agg {l l' : List Value} (h : VRs φ l l') : VR φ (.agg ⟨l⟩) (.agg ⟨l'⟩)
 | tuple {l l' : List Value} (h : VRs φ l l') : VR φ (.tuple ⟨l⟩) (.tuple ⟨l'⟩)
 | tok (n : Nat) {v : Value} (h : Sym.val n = some v) (hv : tokOk v = true) : VR φ (.chan (some n)) v
inductive VRs (φ : Phi) : List Value → List Value → Prop where
 | nil : VRs φ [] []
 | cons {v v' : Value} {l l' : List Value} (h : VR φ v v') (hl : VRs φ l l') : VRs φ (v :: l) (v' :: l')
end

def Phi.le (φ ψ : Phi) : Prop := ∀ b b', φ b = some b' → ψ b = some b' ∧ ψ.cap b = φ.cap b
theorem Phi.le_refl (φ : Phi) : φ.le φ := fun _ _ h => ⟨h, rfl⟩
theorem Phi.le.trans {φ ψ χ : Phi} (h : φ.le ψ) (k : ψ.le χ) : φ.le χ := fun b b' e => ⟨(k b b' (h b b' e).1).1, ((k b b' (h b b' e).1).2).trans (h b b' e).2⟩

mutual
theorem VR.mono {φ ψ : Phi} (hle : φ.le ψ) : ∀ {v v' : Value}, VR φ v v' → VR ψ v v'
 | _, _, .bool b => .bool b
 | _, _, .int k n => .int k n
 | _, _, .float k n => .float k n
 | _, _, .complex k n m => .complex k n m
 | _, _, .string s => .string s
 | _, _, .pnil => .pnil
 | _, _, .ptr o h => .ptr o (hle _ _ h).1
 | _, _, .snil n c => .snil n c
 | _, _, .slice o n h hc => .slice o n (hle _ _ h).1 (by rw [(hle _ _ h).2]; exact hc)
 | _, _, .slost b o s a c => .slost b o s a c
 | _, _, .mnil => .mnil
 | _, _, .map h => .map (hle _ _ h).1
 | _, _, .cnil => .cnil
 | _, _, .func fn hf hc => .func fn (VRs.mono hle hf) (VRs.mono hle hc)
 | _, _, .nilFunc => .nilFunc
 | _, _, .iface t h => .iface t (VR.mono hle h)
 | _, _, .nilIface => .nilIface
 | _, _, .agg h => .agg (VRs.mono hle h)
 | _, _, .tuple h => .tuple (VRs.mono hle h)
 | _, _, .tok n h hv => .tok n h hv
theorem VRs.mono {φ ψ : Phi} (hle : φ.le ψ) : ∀ {l l' : List Value}, VRs φ l l' → VRs ψ l l'
 | _, _, .nil => .nil
 | _, _, .cons h hl => .cons (VR.mono hle h) (VRs.mono hle hl)
end

theorem VRs.length {φ : Phi} : ∀ {l l' : List Value}, VRs φ l l' → l.length = l'.length
 | _, _, .nil => rfl
 | _, _, .cons _ hl => by simp [VRs.length hl]

theorem VRs.get {φ : Phi} : ∀ {l l' : List Value}, VRs φ l l' → ∀ (i : Nat) (v : Value), l[i]? = some v → ∃ v', l'[i]? = some v' ∧ VR φ v v'
 | _, _, .nil, i, v, h => by simp at h
 | _, _, .cons (v := x) (v' := x') h hl, 0, v, e => by
  obtain rfl : x = v := by simpa using e
  exact ⟨x', by simp, h⟩
 | _, _, .cons h hl, i + 1, v, e => by
  obtain ⟨v', h1, h2⟩ := VRs.get hl i v (by simpa using e)
  exact ⟨v', by simpa using h1, h2⟩

theorem VRs.of_get {φ : Phi} : ∀ {l l' : List Value}, l.length = l'.length → (∀ (i : Nat) (v v' : Value), l[i]? = some v → l'[i]? = some v' → VR φ v v') → VRs φ l l'
 | [], [], _, _ => .nil
 | x :: l, x' :: l', hlen, h => .cons (h 0 x x' (by simp) (by simp)) (VRs.of_get (by simpa using hlen) fun i v v' h1 h2 => h (i + 1) v v' (by simpa using h1) (by simpa using h2))
 | [], _ :: _, hlen, _ => by simp at hlen
 | _ :: _, [], hlen, _ => by simp at hlen

theorem VRs.append {φ : Phi} : ∀ {a a' b b' : List Value}, VRs φ a a' → VRs φ b b' → VRs φ (a ++ b) (a' ++ b')
 | _, _, _, _, .nil, hb => hb
 | _, _, _, _, .cons h hl, hb => .cons h (VRs.append hl hb)

theorem VRs.take {φ : Phi} : ∀ {a a' : List Value} (n : Nat), VRs φ a a' → VRs φ (a.take n) (a'.take n)
 | _, _, 0, _ => by simpa using VRs.nil
 | _, _, n + 1, .nil => by simpa using VRs.nil
 | _, _, n + 1, .cons h hl => by simpa using VRs.cons h (VRs.take n hl)

theorem VRs.drop {φ : Phi} : ∀ {a a' : List Value} (n : Nat), VRs φ a a' → VRs φ (a.drop n) (a'.drop n)
 | _, _, 0, h => h
 | _, _, n + 1, .nil => by simpa using VRs.nil
 | _, _, n + 1, .cons h hl => by simpa using VRs.drop n hl

theorem VR.cells {φ : Phi} {v v' : Value} (h : VR φ v v') : VRs φ (cellsOf v) v'.cells.toList := by
 cases h with
 | tok n h hv => cases hq : v' <;> rw [hq] at hv h <;> first | (exact .cons (.tok n h hv) .nil) | (simp [tokOk] at hv)
 | agg h => exact h
 | _ => exact .cons (by first | assumption | constructor <;> assumption) .nil

theorem VR.oneCell {φ : Phi} {v v' : Value} (h : VR φ v v') : v'.oneCell' = oneCell v := by
 cases h with
 | tok n h hv => cases v' <;> first | rfl | (simp [tokOk] at hv)
 | _ => rfl

theorem VR.undef {φ : Phi} : VR φ undef undef := .tuple .nil

/-- a value without addresses. -/
def plainV : Value → Bool
 | .agg ⟨l⟩ => l.all plainCell
 | .tuple ⟨l⟩ => l.all plainCell
 | v => plainCell v

theorem VR.plainCell {φ : Phi} : ∀ (v : Value), plainCell v = true → VR φ v v
 | .bool b, _ => .bool b
 | .int k n, _ => .int k n
 | .float k n, _ => .float k n
 | .complex k n m, _ => .complex k n m
 | .string s, _ => .string s
 | .pointer none, _ => .pnil
 | .slice none n c, _ => .snil n c
 | .map none, _ => .mnil
 | .chan none, _ => .cnil
 | .nilFunc, _ => .nilFunc
 | .nilIface, _ => .nilIface
 | .pointer (some _), h | .slice (some _) _ _, h | .map (some _), h | .chan (some _), h | .iface _ _, h | .func _ _ _, h | .agg _, h | .tuple _, h => by simp [Ev.plainCell] at h

theorem VRs.plain {φ : Phi} : ∀ (l : List Value), l.all plainCell = true → VRs φ l l
 | [], _ => .nil
 | v :: l, h => by
  simp only [List.all_cons, Bool.and_eq_true] at h
  exact .cons (VR.plainCell v h.1) (VRs.plain l h.2)

theorem VR.plain {φ : Phi} (v : Value) (h : plainV v = true) : VR φ v v := by
 cases v with
 | agg l => exact .agg (VRs.plain _ h)
 | tuple l => exact .tuple (VRs.plain _ h)
 | _ => exact VR.plainCell _ h

/-! ## Memory -/

/-- an abstract object and what stands in its block. -/
def ObjR (P : Program) (φ : Phi) (κ : Nat) : AObj → Option Obj → Prop
 | .cells n c e kd, ob => ∃ (c' : Array Value) (fr : Nat × Nat), (∃ e2, ob = some (.cells c' e2 fr) ∧ (kd ≠ 1 → e2 = e)) ∧ n ≤ c'.size ∧
   (∀ i, i < n → (kd = 1 → (c.get i).isSome = true) → ∃ v v', c.get i = some v ∧ c'[i]? = some v' ∧ VR φ v v') ∧ (kd = 0 → fr = (0, 0)) ∧ (kd ≠ 1 → (fr.1 = fr.2 ∨ c'.size ≤ fr.1) ∧ n ≤ 1000000000 ∧ n + κ * P.cellsOf e ≤ c'.size)
 | .map es, ob => ∃ (es' : Array MapEntry) (clock : Nat), ob = some (.map es' clock) ∧ VRs φ (es.map (·.1)) (es'.toList.map (·.key)) ∧ VRs φ (es.map (·.2)) (es'.toList.map (·.val))
 | .dead, _ => True

def AObj.alive : AObj → Bool
 | .dead => false
 | _ => true

def AObj.rw : AObj → Bool
 | .dead => false
 | .cells _ _ _ 1 => false
 | _ => true

/-- the memory and the world: G variables of packages stand where they stand; from block N0 on the blocks are the call's own; below it the world is as it was at w0. -/
structure Rel (P : Program) (G : Nat) (w0 : World) (φ : Phi) (m : Mem) (w : World) : Prop where
 glob : ∀ g, g < G → φ g = some g
 lt : ∀ b b', φ b = some b' → b < m.next ∧ b' < w.heap.size
 obj : ∀ b o b', m.get b = some o → φ b = some b' → ObjR P φ (φ.cap b) o (w.heap[b']?)
 inj : ∀ b₁ b₂ o₁ o₂ b', m.get b₁ = some o₁ → m.get b₂ = some o₂ → o₁.alive = true → o₂.alive = true → φ b₁ = some b' → φ b₂ = some b' → b₁ = b₂
 own : ∀ b o b', m.get b = some o → o.rw = true → φ b = some b' → w0.heap.size ≤ b'
 fresh : ∀ b o, m.get b = some o → b < m.next
 below : Below w0.heap.size w0 w

end Go.Ev

namespace Go.Ev
set_option linter.unusedSimpArgs false
open Go.RowKit
set_option linter.unusedVariables false
set_option linter.unusedSectionVars false
variable [Sym]

theorem Mem.get_put_same (m : Mem) (b : Nat) (o : AObj) (h : True) : (m.put b o).get b = some o := Tree.get_set_same _ _ _ _ Nat.lt_two_pow_self
theorem Mem.get_put_other (m : Mem) (b b₂ : Nat) (o : AObj) (h : b ≠ b₂) : (m.put b o).get b₂ = m.get b₂ := Tree.get_set_other _ _ _ _ _ h
theorem Mem.get_new_same (m : Mem) (o : AObj) (h : True) : (m.new o).get m.next = some o := Tree.get_set_same _ _ _ _ Nat.lt_two_pow_self
theorem Mem.get_new_other (m : Mem) (b : Nat) (o : AObj) (h : m.next ≠ b) : (m.new o).get b = m.get b := Tree.get_set_other _ _ _ _ _ h
theorem Mem.next_new (m : Mem) (o : AObj) : (m.new o).next = m.next + 1 := rfl
theorem Mem.next_put (m : Mem) (b : Nat) (o : AObj) : (m.put b o).next = m.next := rfl

theorem ObjR.mono {P : Program} {φ ψ : Phi} {κ : Nat} (hle : φ.le ψ) {o : AObj} {ob : Option Obj} (h : ObjR P φ κ o ob) : ObjR P ψ κ o ob := by
 cases o with
 | cells n c e kd =>
  obtain ⟨c', fr, h1, h2, h3, h4⟩ := h
  exact ⟨c', fr, h1, h2, fun i hi hk => let ⟨v, v', a, b, hv⟩ := h3 i hi hk; ⟨v, v', a, b, hv.mono hle⟩, h4⟩
 | map es =>
  obtain ⟨es', clock, h1, h2, h3⟩ := h
  exact ⟨es', clock, h1, h2.mono hle, h3.mono hle⟩
 | dead => trivial

section
variable {P : Program} {G : Nat} {w0 : World} {φ : Phi} {m : Mem} {w : World}

/-- what may turn in the world beside the blocks. -/
theorem Rel.world (h : Rel P G w0 φ m w) {w' : World} (hh : w'.heap = w.heap) (ht : w'.tape = w.tape) (ho : w'.os = w.os) (hp : w'.output = w.output) : Rel P G w0 φ m w' where
 glob := h.glob
 lt := by rw [hh]; exact h.lt
 obj := by rw [hh]; exact h.obj
 inj := h.inj
 own := h.own
 fresh := h.fresh
 below := ⟨ho.trans h.below.os, ht.trans h.below.tape, hp.trans h.below.output, by rw [hh]; exact h.below.size, by rw [hh]; exact h.below.block⟩

theorem Rel.drew (h : Rel P G w0 φ m w) : Rel P G w0 φ m { w with drawn := w.drawn + 1 } := h.world rfl rfl rfl rfl

theorem Rel.gets (h : Rel P G w0 φ m w) {b : Nat} {o : AObj} (hb : m.get b = some o) : b < m.next := h.fresh b o hb

/-- an object more that the world does not have yet. -/
theorem Rel.ahead (h : Rel P G w0 φ m w) (o : AObj) (hn : True) : Rel P G w0 φ (m.new o) w where
 glob := h.glob
 lt := fun b b' e => ⟨Nat.lt_succ_of_lt (h.lt b b' e).1, (h.lt b b' e).2⟩
 obj := fun b o' b' hb e => by
  have := (h.lt b b' e).1
  rw [Mem.get_new_other _ _ _ (by omega)] at hb
  exact h.obj b o' b' hb e
 inj := fun b₁ b₂ o₁ o₂ b' h1 h2 a1 a2 e1 e2 => by
  have k1 := (h.lt b₁ b' e1).1
  have k2 := (h.lt b₂ b' e2).1
  rw [Mem.get_new_other _ _ _ (by omega)] at h1 h2
  exact h.inj b₁ b₂ o₁ o₂ b' h1 h2 a1 a2 e1 e2
 own := fun b o' b' hb hr e => by
  have := (h.lt b b' e).1
  rw [Mem.get_new_other _ _ _ (by omega)] at hb
  exact h.own b o' b' hb hr e
 fresh := fun b o' hb => by
  by_cases e : m.next = b
  ·subst e; exact Nat.lt_succ_self _
  ·rw [Mem.get_new_other _ _ _ e] at hb
   exact Nat.lt_succ_of_lt (h.fresh b o' hb)
 below := h.below

def Phi.set (φ : Phi) (b b' κ : Nat) : Phi := ⟨fun x => if x = b then some b' else φ x, fun x => if x = b then κ else φ.cap x⟩
theorem Phi.set_same (φ : Phi) (b b' κ : Nat) : φ.set b b' κ b = some b' := if_pos rfl
theorem Phi.set_other (φ : Phi) {b b' κ x : Nat} (h : x ≠ b) : φ.set b b' κ x = φ x := if_neg h
theorem Phi.cap_same (φ : Phi) (b b' κ : Nat) : (φ.set b b' κ).cap b = κ := if_pos rfl
theorem Phi.cap_other (φ : Phi) {b b' κ x : Nat} (h : x ≠ b) : (φ.set b b' κ).cap x = φ.cap x := if_neg h
theorem Phi.le_set {φ : Phi} {b : Nat} (h : φ b = none) (b' κ : Nat) : φ.le (φ.set b b' κ) := fun x y e => by
 have hx : x ≠ b := fun hx => by rw [hx, h] at e; cases e
 exact ⟨by rw [Phi.set_other _ hx]; exact e, Phi.cap_other _ hx⟩

/-- a block that the world makes for an object that is there already. -/
theorem Rel.meet (h : Rel P G w0 φ m w) {b κ : Nat} {o : AObj} (hb : m.get b = some o) (hφ : φ b = none) {ob : Obj}
  (hob : ObjR P (φ.set b w.heap.size κ) κ o (some ob)) {w' : World} (hh : w'.heap = w.heap.push ob) (ht : w'.tape = w.tape) (ho : w'.os = w.os) (hp : w'.output = w.output) :
  Rel P G w0 (φ.set b w.heap.size κ) m w' := by
 have hle : φ.le (φ.set b w.heap.size κ) := Phi.le_set hφ _ _
 have hblk : ∀ k, k < w.heap.size → w'.heap[k]? = w.heap[k]? := fun k hk => by rw [hh, Array.getElem?_push, if_neg (by omega)]
 have hsz : w'.heap.size = w.heap.size + 1 := by rw [hh]; simp
 have hb0 := h.below.size
 refine ⟨fun g hg => (hle _ _ (h.glob g hg)).1, ?_, ?_, ?_, ?_, h.fresh, ?_⟩
 ·intro x y e
  by_cases hx : x = b
  ·subst hx
   rw [Phi.set_same] at e
   cases e
   exact ⟨h.gets hb, by omega⟩
  ·rw [Phi.set_other _ hx] at e
   have := h.lt x y e
   exact ⟨this.1, by omega⟩
 ·intro x o' y hx e
  by_cases hxb : x = b
  ·subst hxb
   rw [Phi.set_same] at e
   cases e
   obtain rfl : o = o' := Option.some.inj (hb.symm.trans hx)
   rw [hh, Array.getElem?_push, if_pos rfl, Phi.cap_same]
   exact hob
  ·rw [Phi.set_other _ hxb] at e
   rw [hblk y (h.lt x y e).2, Phi.cap_other _ hxb]
   exact (h.obj x o' y hx e).mono hle
 ·intro x₁ x₂ o₁ o₂ y h1 h2 a1 a2 e1 e2
  by_cases hx1 : x₁ = b <;> by_cases hx2 : x₂ = b
  ·rw [hx1, hx2]
  ·subst hx1
   rw [Phi.set_same] at e1
   rw [Phi.set_other _ hx2] at e2
   cases e1
   exact absurd (h.lt _ _ e2).2 (Nat.lt_irrefl _)
  ·subst hx2
   rw [Phi.set_same] at e2
   rw [Phi.set_other _ hx1] at e1
   cases e2
   exact absurd (h.lt _ _ e1).2 (Nat.lt_irrefl _)
  ·rw [Phi.set_other _ hx1] at e1
   rw [Phi.set_other _ hx2] at e2
   exact h.inj _ _ _ _ _ h1 h2 a1 a2 e1 e2
 ·intro x o' y hx hr e
  by_cases hxb : x = b
  ·subst hxb
   rw [Phi.set_same] at e
   cases e
   exact hb0
  ·rw [Phi.set_other _ hxb] at e
   exact h.own _ _ _ hx hr e
 ·exact ⟨ho.trans h.below.os, ht.trans h.below.tape, hp.trans h.below.output, by omega, fun k hk => (hblk k (by omega)).trans (h.below.block k hk)⟩

/-- a new object in both. -/
theorem Rel.alloc (h : Rel P G w0 φ m w) (o : AObj) (hn : True) {κ : Nat} {ob : Obj}
  (hob : ObjR P (φ.set m.next w.heap.size κ) κ o (some ob)) {w' : World} (hh : w'.heap = w.heap.push ob) (ht : w'.tape = w.tape) (ho : w'.os = w.os) (hp : w'.output = w.output) :
  Rel P G w0 (φ.set m.next w.heap.size κ) (m.new o) w' := by
 have hnone : φ m.next = none := by
  cases e : φ m.next with
  | none => rfl
  | some y => exact absurd (h.lt _ _ e).1 (Nat.lt_irrefl _)
 exact (h.ahead o hn).meet (Mem.get_new_same _ _ hn) hnone hob hh ht ho hp

theorem Rel.next_none (h : Rel P G w0 φ m w) : φ m.next = none := by
 cases e : φ m.next with
 | none => rfl
 | some y => exact absurd (h.lt _ _ e).1 (Nat.lt_irrefl _)

theorem Rel.le_next (h : Rel P G w0 φ m w) (b' κ : Nat) : φ.le (φ.set m.next b' κ) := Phi.le_set h.next_none _ _

/-- an object is written. -/
theorem Rel.update (h : Rel P G w0 φ m w) {b b' : Nat} {o o' : AObj} (hb : m.get b = some o) (hφ : φ b = some b') (hr : o.rw = true) (hr' : o'.rw = true ∨ o' = .dead) (hn : True)
  {w' : World} (hs : w'.heap.size = w.heap.size) (hk : ∀ k, k ≠ b' → w'.heap[k]? = w.heap[k]?) (hob : ObjR P φ (φ.cap b) o' (w'.heap[b']?))
  (ht : w'.tape = w.tape) (ho : w'.os = w.os) (hp : w'.output = w.output) : Rel P G w0 φ (m.put b o') w' := by
 have hbn := h.gets hb
 have halive : o.alive = true := by cases o <;> first | rfl | simp [AObj.rw] at hr
 refine ⟨h.glob, ?_, ?_, ?_, ?_, ?_, ?_⟩
 ·intro x y e; have := h.lt x y e; exact ⟨this.1, by omega⟩
 ·intro x ox y hx e
  by_cases hxb : b = x
  ·subst hxb
   rw [Mem.get_put_same _ _ _ trivial] at hx
   cases hx
   rw [hφ] at e
   cases e
   exact hob
  ·rw [Mem.get_put_other _ _ _ _ hxb] at hx
   cases hd : ox.alive with
   | false => cases ox <;> first | trivial | simp [AObj.alive] at hd
   | true =>
    have : y ≠ b' := fun ey => hxb (h.inj b x o ox b' hb hx halive hd hφ (ey ▸ e))
    rw [hk y this]
    exact h.obj x ox y hx e
 ·intro x₁ x₂ o₁ o₂ y h1 h2 a1 a2 e1 e2
  have key : ∀ x ox, (m.put b o').get x = some ox → ox.alive = true → ∃ oy, m.get x = some oy ∧ oy.alive = true := by
   intro x ox hx ha
   by_cases hxb : b = x
   ·subst hxb; exact ⟨o, hb, halive⟩
   ·rw [Mem.get_put_other _ _ _ _ hxb] at hx; exact ⟨ox, hx, ha⟩
  obtain ⟨p1, q1, r1⟩ := key _ _ h1 a1
  obtain ⟨p2, q2, r2⟩ := key _ _ h2 a2
  exact h.inj _ _ _ _ _ q1 q2 r1 r2 e1 e2
 ·intro x ox y hx hrx e
  by_cases hxb : b = x
  ·subst hxb; rw [hφ] at e; cases e; exact h.own _ _ _ hb hr hφ
  ·rw [Mem.get_put_other _ _ _ _ hxb] at hx; exact h.own _ _ _ hx hrx e
 ·intro x ox hx
  by_cases hxb : b = x
  ·subst hxb; exact hbn
  ·rw [Mem.get_put_other _ _ _ _ hxb] at hx; exact h.fresh _ _ hx
 ·have := h.own _ _ _ hb hr hφ
  exact ⟨ho.trans h.below.os, ht.trans h.below.tape, hp.trans h.below.output, by have := h.below.size; omega, fun k hkk => (hk k (by omega)).trans (h.below.block k hkk)⟩

/-- a dead object may be another name of a block: a new object takes an old one's block. -/
theorem Rel.move (h : Rel P G w0 φ m w) {b b' κ : Nat} {o o' : AObj} (hb : m.get b = some o) (hφ : φ b = some b') (hr : o.rw = true) (hr' : o'.rw = true) (hn : True)
  {w' : World} (hs : w'.heap.size = w.heap.size) (hk : ∀ k, k ≠ b' → w'.heap[k]? = w.heap[k]?) (hob : ObjR P (φ.set m.next b' κ) κ o' (w'.heap[b']?))
  (ht : w'.tape = w.tape) (ho : w'.os = w.os) (hp : w'.output = w.output) : Rel P G w0 (φ.set m.next b' κ) ((m.put b .dead).new o') w' := by
 have h1 : Rel P G w0 φ (m.put b .dead) w' := h.update hb hφ hr (.inr rfl) hn hs hk trivial ht ho hp
 have hbn := h.gets hb
 have hle := h.le_next b' κ
 have hown := h.own _ _ _ hb hr hφ
 have hlt := (h.lt _ _ hφ).2
 have halive' : o'.alive = true := by cases o' <;> first | rfl | simp [AObj.rw] at hr'
 have old : ∀ x, x ≠ m.next → ((m.put b .dead).new o').get x = (m.put b .dead).get x := fun x hx => Mem.get_new_other _ _ _ (by rw [Mem.next_put]; omega)
 have new : ((m.put b .dead).new o').get m.next = some o' := Mem.get_new_same (m.put b .dead) o' hn
 -- who else has that block: only what is dead
 have alone : ∀ x ox, (m.put b .dead).get x = some ox → ox.alive = true → φ x ≠ some b' := by
  intro x ox hx ha e
  by_cases hxb : b = x
  ·subst hxb; rw [Mem.get_put_same _ _ _ trivial] at hx; cases hx; simp [AObj.alive] at ha
  ·rw [Mem.get_put_other _ _ _ _ hxb] at hx
   exact hxb (h.inj b x o ox b' hb hx (by cases o <;> first | rfl | simp [AObj.rw] at hr) ha hφ e)
 refine ⟨fun g hg => (hle _ _ (h.glob g hg)).1, ?_, ?_, ?_, ?_, ?_, h1.below⟩
 ·intro x y e
  by_cases hx : x = m.next
  ·subst hx; rw [Phi.set_same] at e; cases e; exact ⟨Nat.lt_succ_self _, by omega⟩
  ·rw [Phi.set_other _ hx] at e; have := h1.lt x y e; exact ⟨Nat.lt_succ_of_lt this.1, this.2⟩
 ·intro x ox y hx e
  by_cases hxn : x = m.next
  ·subst hxn; rw [new] at hx; cases hx; rw [Phi.set_same] at e; cases e; rw [Phi.cap_same]; exact hob
  ·rw [Phi.set_other _ hxn] at e; rw [old x hxn] at hx; rw [Phi.cap_other _ hxn]; exact (h1.obj x ox y hx e).mono hle
 ·intro x₁ x₂ o₁ o₂ y g1 g2 a1 a2 e1 e2
  by_cases hx1 : x₁ = m.next <;> by_cases hx2 : x₂ = m.next
  ·rw [hx1, hx2]
  ·subst hx1; rw [Phi.set_same] at e1; rw [Phi.set_other _ hx2] at e2; rw [old _ hx2] at g2; cases e1; exact absurd e2 (alone _ _ g2 a2)
  ·subst hx2; rw [Phi.set_same] at e2; rw [Phi.set_other _ hx1] at e1; rw [old _ hx1] at g1; cases e2; exact absurd e1 (alone _ _ g1 a1)
  ·rw [Phi.set_other _ hx1] at e1; rw [Phi.set_other _ hx2] at e2; rw [old _ hx1] at g1; rw [old _ hx2] at g2; exact h1.inj _ _ _ _ _ g1 g2 a1 a2 e1 e2
 ·intro x ox y hx hrx e
  by_cases hxn : x = m.next
  ·subst hxn; rw [Phi.set_same] at e; cases e; exact hown
  ·rw [Phi.set_other _ hxn] at e; rw [old x hxn] at hx; exact h1.own _ _ _ hx hrx e
 ·intro x ox hx
  by_cases hxn : x = m.next
  ·subst hxn; exact Nat.lt_succ_self _
  ·rw [old x hxn] at hx; exact Nat.lt_succ_of_lt (h1.fresh _ _ hx)

/-- an object dies. -/
theorem Rel.die (h : Rel P G w0 φ m w) {b b' : Nat} {o : AObj} (hb : m.get b = some o) (hφ : φ b = some b') (hr : o.rw = true) (hn : True) : Rel P G w0 φ (m.put b .dead) w :=
 h.update hb hφ hr (.inr rfl) hn rfl (fun _ _ => rfl) trivial rfl rfl rfl

end
end Go.Ev

namespace Go.Ev
set_option linter.unusedSimpArgs false
open Go.RowKit
set_option linter.unusedVariables false
set_option linter.unusedSectionVars false
variable [Sym]

def operandOk (G : Nat) : Operand → Bool
 | .const v => plainV v
 | .global g => Nat.blt g G
 | _ => true

def operOk (G : Nat) (o : Oper) : Bool := o.op.operands.toList.all (operandOk G)

def codeOk (G : Nat) : Code → Bool
 | .region _ ops _ => ops.toList.all (operOk G)
 | .seq a b => codeOk G a && codeOk G b
 | .cond c a b => operandOk G c && codeOk G a && codeOk G b
 | .block _ b | .loop b | .scope b => codeOk G b
 | _ => true

structure EnvOk (E : Env) (G : Nat) : Prop where
 types : ∀ t i, E.types.get t = some i → E.P.info? t = some i
 funcs : ∀ f fn, E.funcs.get f = some fn → E.P.funcs[f]? = some fn ∧ (fn.name == "runtime.NumGoroutine") = false ∧ ∀ c, fn.body = some c → codeOk G c = true
 eqs : ∀ t, E.eqs.any (Nat.beq t) = true → E.P.stoodInHeld t = false ∧ E.P.eqGuardType E.P.depth t = false
 mixed : E.P.follows .mixedOrders = true
 facts : ∀ op x y r, factOf E.facts op x y = some r → ∃ u v, (∀ φ x', VR φ x x' → x' = u) ∧ (∀ φ y', VR φ y y' → y' = v) ∧ plainV u = true ∧ plainV v = true ∧ ∀ m t, binOp0 E m op t u v = some r
 zeros : ∀ t z, E.zero t = some z → plainV z = true

section
variable {E : Env} {G : Nat} (hE : EnvOk E G)
include hE

theorem ti_info {t : TypeId} {i : TypeInfo} (h : E.ti t = some i) : E.P.info? t = some i := hE.types t i h

theorem under_eq {t : TypeId} {d : TypeDesc} (h : E.under t = some d) : E.P.underlying t = some d := by
 unfold Env.under at h
 cases hi : E.ti t with
 | none => simp [hi] at h
 | some i =>
  have hp := ti_info hE hi
  simp only [hi] at h
  unfold Program.underlying
  rw [hp]
  obtain ⟨desc, _, _, _, _, _, _, _, _, _⟩ := i
  cases desc <;> simp only at h ⊢ <;> try exact h
  rename_i nm u
  cases hu : E.ti u with
  | none => simp [hu] at h
  | some j => rw [ti_info hE hu]; simpa [hu] using h

theorem size_run {t : TypeId} {k : Nat} (h : E.size t = some k) (w : World) : (sizeOf t).run E.P w = .ok k w := by
 unfold Env.size at h
 cases hi : E.ti t with
 | none => simp [hi] at h
 | some i =>
  simp only [hi, Option.some.injEq] at h
  simp [sizeOf, typeInfo, ti_info hE hi, h]

theorem under_run {t : TypeId} {d : TypeDesc} (h : E.under t = some d) (w : World) : (underlying t).run E.P w = .ok d w := run_underlying (under_eq hE h) w

theorem zero_run {t : TypeId} {z : Value} (h : E.zero t = some z) (w : World) : (zeroValue t).run E.P w = .ok z w := by
 unfold Env.zero at h
 cases hi : E.ti t with
 | none => simp [hi] at h
 | some i => simp only [hi] at h; simp [zeroValue, typeInfo, ti_info hE hi, h]

theorem agg_run {t : TypeId} {d : TypeDesc} (h : E.under t = some d) (w : World) : (isAgg t).run E.P w = .ok (isAggD d) w := by
 unfold isAgg
 simp only [Sem.run_bind, under_run hE h, Result.andThen_ok]
 cases d <;> rfl

end

/-! what a value is that is related to one whose form is known -/
section
variable {φ : Phi} {v' : Value}
theorem VR.ptr_inv {b o : Nat} (h : VR φ (.pointer (some ⟨b, o, none⟩)) v') : ∃ b', v' = .pointer (some ⟨b', o, none⟩) ∧ φ b = some b' := by
 cases h with | ptr o h => exact ⟨_, rfl, h⟩
theorem VR.ptr_any {a : Addr} (h : VR φ (.pointer (some a)) v') : ∃ b', v' = .pointer (some ⟨b', a.off, none⟩) ∧ φ a.block = some b' ∧ a.spot = none := by
 cases h with | ptr o h => exact ⟨_, rfl, h, rfl⟩
theorem VR.pnil_inv (h : VR φ (.pointer none) v') : v' = .pointer none := by cases h; rfl
theorem VR.int_inv {k : IntKind} {n : Int} (h : VR φ (.int k n) v') : v' = .int k n := by cases h; rfl
theorem VR.bool_inv {b : Bool} (h : VR φ (.bool b) v') : v' = .bool b := by cases h; rfl
theorem VR.string_inv {s : ByteArray} (h : VR φ (.string s) v') : v' = .string s := by cases h; rfl
theorem VR.slice_inv {b o n c : Nat} (h : VR φ (.slice (some ⟨b, o, none⟩) n c) v') : ∃ b' c', v' = .slice (some ⟨b', o, none⟩) n c' ∧ φ b = some b' ∧ c ≤ c' ∧ c' ≤ c + φ.cap b := by
 cases h with | slice o n h hc => exact ⟨_, _, rfl, h, hc.1, hc.2⟩
theorem VR.slost_inv {b o s n c : Nat} (h : VR φ (.slice (some ⟨b, o, some s⟩) n c) v') : ∃ a c', v' = .slice (some a) 0 c' ∧ n = 0 ∧ c = 0 := by
 cases h with | slost b o s a c => exact ⟨_, _, rfl, rfl, rfl⟩
theorem VR.snil_inv {n c : Nat} (h : VR φ (.slice none n c) v') : v' = .slice none n c := by cases h; rfl
theorem VR.agg_inv {l : List Value} (h : VR φ (.agg ⟨l⟩) v') : ∃ l', v' = .agg ⟨l'⟩ ∧ VRs φ l l' := by cases h with | agg h => exact ⟨_, rfl, h⟩
theorem VR.tuple_inv {l : List Value} (h : VR φ (.tuple ⟨l⟩) v') : ∃ l', v' = .tuple ⟨l'⟩ ∧ VRs φ l l' := by cases h with | tuple h => exact ⟨_, rfl, h⟩
theorem VR.map_inv {r : Nat} (h : VR φ (.map (some r)) v') : ∃ r', v' = .map (some r') ∧ φ r = some r' := by cases h with | map h => exact ⟨_, rfl, h⟩
theorem VR.mnil_inv (h : VR φ (.map none) v') : v' = .map none := by cases h; rfl
theorem VR.func_inv {fn : Fn} {f c : List Value} (h : VR φ (.func fn ⟨f⟩ ⟨c⟩) v') : ∃ f' c', v' = .func fn ⟨f'⟩ ⟨c'⟩ ∧ VRs φ f f' ∧ VRs φ c c' := by cases h with | func fn hf hc => exact ⟨_, _, rfl, hf, hc⟩
theorem VR.nilFunc_inv (h : VR φ .nilFunc v') : v' = .nilFunc := by cases h; rfl
end

theorem nth_eq {α : Type} : ∀ (l : List α) (i : Nat), nth l i = l[i]?
 | [], i => by simp [nth]
 | x :: l, 0 => by simp [nth]
 | x :: l, i + 1 => by simp [nth, nth_eq l i]

theorem cellsFrom_len {c : Tree Value} : ∀ {k o : Nat} {l : List Value}, cellsFrom c o k = some l → l.length = k
 | 0, o, l, h => by simp [cellsFrom] at h; subst h; rfl
 | k + 1, o, l, h => by
  simp only [cellsFrom] at h
  split at h
  ·cases h
  ·split at h
   ·cases h
   ·rename_i l' hl; cases h; simp [cellsFrom_len hl]

theorem cellsFrom_rel {φ : Phi} {c : Tree Value} {c' : Array Value} {n : Nat} {kd : Nat} (hc : ∀ i, i < n → (kd = 1 → (c.get i).isSome = true) → ∃ v v', c.get i = some v ∧ c'[i]? = some v' ∧ VR φ v v') :
  ∀ (k o : Nat) (l : List Value), o + k ≤ n → cellsFrom c o k = some l → ∃ l', VRs φ l l' ∧ l'.length = k ∧ ∀ j v, l'[j]? = some v → c'[o + j]? = some v
 | 0, o, l, _, h => by
  simp [cellsFrom] at h; subst h
  exact ⟨[], .nil, rfl, fun j v hv => by simp at hv⟩
 | k + 1, o, l, hk, h => by
  have hso : (c.get o).isSome = true := by
   cases hq : c.get o with
   | none => simp [cellsFrom, hq] at h
   | some q => rfl
  obtain ⟨v, v', h1, h2, h3⟩ := hc o (by omega) (fun _ => hso)
  simp only [cellsFrom, h1] at h
  cases hl : cellsFrom c (o + 1) k with
  | none => simp [hl] at h
  | some r =>
   simp only [hl, Option.some.injEq] at h
   subst h
   obtain ⟨l', a, b, d⟩ := cellsFrom_rel hc k (o + 1) r (by omega) hl
   refine ⟨v' :: l', .cons h3 a, by simp [b], fun j x hx => ?_⟩
   cases j with
   | zero => simp at hx; subst hx; simpa using h2
   | succ j => have := d j x (by simpa using hx); rw [show o + (j + 1) = o + 1 + j by omega]; exact this

theorem add_at (b o j : Nat) : (⟨b, o, none⟩ : Addr).add j = ⟨b, o + j, none⟩ := by unfold Addr.add; split <;> simp_all

theorem cell_at {w : World} {b : Nat} {c : Array Value} {e : TypeId} {fr : Nat × Nat} (h : w.heap[b]? = some (.cells c e fr)) (i : Nat) : w.cell? ⟨b, i, none⟩ = c[i]? := by
 simp [World.cell?, h]

section
variable {E : Env} {G : Nat} {w0 w : World} {φ : Phi} {m : Mem}

theorem loadCells_sound {b b' o k n : Nat} {c : Tree Value} {e : TypeId} {kd : Nat} {l : List Value} (hR : Rel E.P G w0 φ m w) (hm : m.get b = some (.cells n c e kd)) (hφ : φ b = some b')
  (hk : o + k ≤ n) (hl : cellsFrom c o k = some l) : ∃ l', (loadCells ⟨b', o, none⟩ k).run E.P w = .ok ⟨l'⟩ w ∧ VRs φ l l' ∧ l'.length = k := by
 obtain ⟨c', fr, ⟨e2, hob, _⟩, hn, hc, _⟩ := hR.obj b _ b' hm hφ
 obtain ⟨l', h1, h2, h3⟩ := cellsFrom_rel hc k o l hk hl
 refine ⟨l', ?_, h1, h2⟩
 have := run_loadCells_list (P := E.P) w ⟨b', o, none⟩ l' (fun j v hv => by rw [add_at, cell_at hob]; exact h3 j v hv)
 rw [h2] at this
 exact this

theorem load_sound (hE : EnvOk E G) (hR : Rel E.P G w0 φ m w) {t : TypeId} {b b' o : Nat} {v : Value} (h : loadAt E m t b o = some v) (hφ : φ b = some b') :
  ∃ v', (loadVar t ⟨b', o, none⟩).run E.P w = .ok v' w ∧ VR φ v v' := by
 unfold loadAt at h
 split at h
 ·rename_i d n c e kd hd hm
  unfold loadVar
  simp only [Sem.run_bind, agg_run hE hd, Result.andThen_ok]
  cases ha : isAggD d with
  | true =>
   simp only [ha, cond_true] at h
   cases hs : E.size t with
   | none => simp [hs] at h
   | some k =>
    simp only [hs] at h
    cases hle : Nat.ble (o + k) n with
    | false => simp [hle] at h
    | true =>
     simp only [hle, cond_true] at h
     cases hl : cellsFrom c o k with
     | none => simp [hl] at h
     | some l =>
      simp only [hl, Option.some.injEq] at h
      subst h
      obtain ⟨l', h1, h2, _⟩ := loadCells_sound (E := E) hR hm hφ (Nat.le_of_ble_eq_true hle) hl
      exact ⟨.agg ⟨l'⟩, by simp [size_run hE hs, h1], .agg h2⟩
  | false =>
   simp only [ha, cond_false] at h
   cases hlt : Nat.blt o n with
   | false => simp [hlt] at h
   | true =>
    simp only [hlt, cond_true] at h
    have hon : o < n := by simpa [Nat.blt_eq] using hlt
    obtain ⟨c', fr, ⟨e2, hob, _⟩, hn, hc, _⟩ := hR.obj b _ b' hm hφ
    obtain ⟨x, x', h1, h2, h3⟩ := hc o hon (fun _ => by rw [h]; rfl)
    obtain rfl : x = v := Option.some.inj (h1.symm.trans h)
    exact ⟨x', by simp [cell_at hob, h2], h3⟩
 ·cases h

end
end Go.Ev
