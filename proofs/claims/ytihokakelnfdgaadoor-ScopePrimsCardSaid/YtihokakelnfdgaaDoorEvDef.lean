/- Part of an evaluator for closed runs, and of its proof (EvDef). -/
import GoSem.Dispatch
import GoSem.Machine.Return
namespace Go.Ev

/-! A trie over numbers, least digit first. -/
inductive Tree (α : Type) where
  | leaf
  | node (l : Tree α) (v : Option α) (r : Tree α)

namespace Tree
variable {α : Type}
def get : Tree α → Nat → Option α
  | .leaf, _ => none
  | .node l v r, i => bif Nat.beq i 0 then v else bif Nat.beq (i % 2) 1 then get l (i / 2) else get r (i / 2 - 1)

def set : Nat → Tree α → Nat → α → Tree α
  | 0, t, _, _ => t
  | f + 1, .leaf, i, x => bif Nat.beq i 0 then .node .leaf (some x) .leaf else bif Nat.beq (i % 2) 1 then .node (set f .leaf (i / 2) x) none .leaf else .node .leaf none (set f .leaf (i / 2 - 1) x)
  | f + 1, .node l v r, i, x => bif Nat.beq i 0 then .node l (some x) r else bif Nat.beq (i % 2) 1 then .node (set f l (i / 2) x) v r else .node l v (set f r (i / 2 - 1) x)
end Tree

/-- The trie's depth: numbers below 2^40 - 1. -/
def D : Nat := 40

inductive AObj where
  /-- n cells; kind 0: the call's own; 1: not written (of the world outside); 2: the call's own, maybe a string's bytes -/
  | cells (n : Nat) (c : Tree Value) (elem : TypeId) (kind : Nat)
  | map (es : List (Value × Value))
  | dead

structure Mem where
  t : Tree AObj
  next : Nat

def Mem.get (m : Mem) (b : Nat) : Option AObj := m.t.get b
def Mem.put (m : Mem) (b : Nat) (o : AObj) : Mem := { m with t := m.t.set D b o }
def Mem.new (m : Mem) (o : AObj) : Mem := { t := m.t.set D m.next o, next := m.next + 1 }

def ofListFrom (c : Tree Value) (i : Nat) : List Value → Tree Value
  | [] => c
  | v :: l => ofListFrom (c.set D i v) (i + 1) l

/-- so many cells from i on; none: one is lacking. -/
def cellsFrom (c : Tree Value) (i : Nat) : Nat → Option (List Value)
  | 0 => some []
  | n + 1 => match c.get i with
    | none => none
    | some v => match cellsFrom c (i + 1) n with
      | none => none
      | some l => some (v :: l)

def oneCell : Value → Bool
  | .agg _ | .tuple _ => false
  | _ => true

def storeFrom (c : Tree Value) (i n : Nat) : List Value → Option (Tree Value)
  | [] => some c
  | v :: l => bif Nat.blt i n && oneCell v then storeFrom (c.set D i v) (i + 1) n l else none

def cellsOf : Value → List Value
  | .agg ⟨l⟩ => l
  | v => [v]

structure Env where
  P : Program
  types : Tree TypeInfo
  funcs : Tree Func
  /-- struct types that == may be asked of -/
  eqs : List TypeId
  /-- calls whose answer is known -/
  known : List (Nat × List Value × Value) := []
  /-- what is known of operations on signs for values -/
  facts : List (BinOp × Value × Value × Value) := []

/-- is it a sign for a value? -/
def isTok : Value → Bool
  | .chan (some _) => true
  | _ => false

structure TI where
  desc : TypeDesc
  size : Nat

def Env.ti (E : Env) (t : TypeId) : Option TypeInfo := E.types.get t
def Env.under (E : Env) (t : TypeId) : Option TypeDesc :=
  match E.ti t with
  | none => none
  | some i => match i.desc with
    | .named _ u => match E.ti u with
      | none => none
      | some j => some j.desc
    | d => some d
def Env.size (E : Env) (t : TypeId) : Option Nat := match E.ti t with | none => none | some i => some i.size
def Env.zero (E : Env) (t : TypeId) : Option Value := match E.ti t with | none => none | some i => i.zero
def isAggD : TypeDesc → Bool
  | .struct _ | .array _ _ => true
  | _ => false

def rowD : TypeDesc → Bool
  | .slice _ | .string => true
  | _ => false

def size1 (E : Env) (e : TypeId) : Bool := match E.size e with | some k => Nat.beq k 1 | none => false

def loadAt (E : Env) (m : Mem) (t : TypeId) (b o : Nat) : Option Value :=
  match E.under t, m.get b with
  | some d, some (.cells n c _ _) =>
    bif isAggD d then
      match E.size t with
      | none => none
      | some k => bif Nat.ble (o + k) n then (match cellsFrom c o k with | none => none | some l => some (.agg ⟨l⟩)) else none
    else bif Nat.blt o n then c.get o else none
  | _, _ => none

def storeAt (E : Env) (m : Mem) (t : TypeId) (b o : Nat) (v : Value) : Option Mem :=
  match E.size t, m.get b with
  | some k, some (.cells n c e kd) =>
    bif Nat.beq (cellsOf v).length k && !(Nat.beq kd 1) then
      match storeFrom c o n (cellsOf v) with
      | none => none
      | some c' => some (m.put b (.cells n c' e kd))
    else none
  | _, _ => none

/-- a new block of these cells; none: too many. -/
def newCells (m : Mem) (e : TypeId) (kd : Nat) (l : List Value) : Option Mem :=
  bif Nat.ble l.length 1000000000 then some (m.new (.cells l.length (ofListFrom .leaf 0 l) e kd)) else none

def withAddr (m : Mem) (f : Addr → Value) : Option Mem → Option (Value × Mem)
  | none => none
  | some m' => some (f ⟨m.next, 0, none⟩, m')

/-- put a part's cells over others. -/
def splice (off : Nat) (v l : List Value) : List Value :=
  match off, l with
  | 0, l => over v l
  | _ + 1, [] => []
  | o + 1, x :: l => x :: splice o v l
where
  over : List Value → List Value → List Value
    | [], l => l
    | _ :: _, [] => []
    | a :: v, _ :: l => a :: over v l

def fill (place : Nat → Option (Nat × Nat)) : List Value → List (Nat × Value) → Option (List Value)
  | cells, [] => some cells
  | cells, (i, v) :: rest =>
    match place i with
    | none => none
    | some (off, size) =>
      bif Nat.beq (cellsOf v).length size && Nat.ble (off + size) cells.length then fill place (splice off (cellsOf v) cells) rest else none

def places (E : Env) : List Field → Option (List (Nat × Nat))
  | [] => some []
  | f :: fs => match E.size f.type, places E fs with
    | some k, some l => some ((f.offset, k) :: l)
    | _, _ => none

def nth {α : Type} : List α → Nat → Option α
  | [], _ => none
  | x :: _, 0 => some x
  | _ :: l, n + 1 => nth l n

def repeatList (z : List Value) : Nat → List Value
  | 0 => []
  | n + 1 => z ++ repeatList z n

abbrev Rho := Operand → Value

def intEq (a b : Int) : Bool := decide (a = b)

def wrap64 (k : IntKind) (n : Int) : Int := k.wrap n

def intOp (op : BinOp) (k : IntKind) (a b : Int) : Option Value :=
  match op with
  | .add => some (.int k (k.wrap (a + b)))
  | .sub => some (.int k (k.wrap (a - b)))
  | .mul => some (.int k (k.wrap (a * b)))
  | .quo => if b = 0 then none else some (.int k (k.wrap (a.tdiv b)))
  | .rem => if b = 0 then none else some (.int k (a.tmod b))
  | .eql => some (.bool (a == b))
  | .neq => some (.bool (a != b))
  | .lss => some (.bool (a < b))
  | .leq => some (.bool (a ≤ b))
  | .gtr => some (.bool (a > b))
  | .geq => some (.bool (a ≥ b))
  | .and => some (.int k (k.wrap (BitVec.ofInt k.bits a &&& BitVec.ofInt k.bits b).toNat))
  | .or => some (.int k (k.wrap (BitVec.ofInt k.bits a ||| BitVec.ofInt k.bits b).toNat))
  | .xor => some (.int k (k.wrap (BitVec.ofInt k.bits a ^^^ BitVec.ofInt k.bits b).toNat))
  | .andNot => some (.int k (k.wrap (BitVec.ofInt k.bits a &&& ~~~(BitVec.ofInt k.bits b)).toNat))
  | _ => none

def shiftOp (op : BinOp) (k : IntKind) (a b : Int) : Option Value :=
  if b < 0 then none else
  match op with
  | .shl => some (.int k (k.wrap (a * 2 ^ (min b.toNat k.bits))))
  | .shr => some (.int k (a.fdiv (2 ^ (min b.toNat k.bits))))
  | _ => none

def bytesEq : List UInt8 → List UInt8 → Bool
  | [], [] => true
  | a :: l, b :: r => bif Nat.beq a.toNat b.toNat then bytesEq l r else false
  | _, _ => false

def bytesLt : List UInt8 → List UInt8 → Bool
  | _, [] => false
  | [], _ :: _ => true
  | a :: x, b :: y => bif Nat.blt a.toNat b.toNat then true else bif Nat.beq a.toNat b.toNat then bytesLt x y else false

def strOp (op : BinOp) (x y : List UInt8) : Option Value :=
  match op with
  | .add => bif Nat.ble (x.length + y.length) 1000000000 then some (.string ⟨⟨x ++ y⟩⟩) else none
  | .eql => some (.bool (bytesEq x y))
  | .neq => some (.bool !(bytesEq x y))
  | .lss => some (.bool (bytesLt x y))
  | .leq => some (.bool (bytesLt x y || bytesEq x y))
  | .gtr => some (.bool !(bytesLt x y || bytesEq x y))
  | .geq => some (.bool !(bytesLt x y))
  | _ => none

/-- may the block be a string's bytes? -/
def notStr (m : Mem) (b : Nat) : Bool :=
  match m.get b with
  | some (.cells _ _ _ 0) => true
  | _ => false

def eqPtr (E : Env) (m : Mem) (t : TypeId) (x y : Value) : Option Bool :=
  match E.under t, x, y with
  | some (.pointer _), .pointer none, .pointer none => some true
  | some (.pointer _), .pointer none, .pointer (some _) => some false
  | some (.pointer _), .pointer (some _), .pointer none => some false
  | some (.pointer e), .pointer (some a), .pointer (some b) =>
    match E.size e with
    | some (_ + 1) =>
      bif Nat.beq a.block b.block then (if a.spot = none ∧ b.spot = none then some (Nat.beq a.off b.off) else none)
      else bif notStr m a.block && notStr m b.block then some false else none
    | _ => none
  | some (.slice _), .slice none _ _, .slice none _ _ => some true
  | some (.slice _), .slice none _ _, .slice (some _) _ _ => some false
  | some (.slice _), .slice (some _) _ _, .slice none _ _ => some false
  | some (.map _ _), .map none, .map none => some true
  | some (.map _ _), .map none, .map (some _) => some false
  | some (.map _ _), .map (some _), .map none => some false
  | some (.func _ _ _), .nilFunc, .nilFunc => some true
  | some (.func _ _ _), .nilFunc, .func _ _ _ => some false
  | some (.func _ _ _), .func _ _ _, .nilFunc => some false
  | _, _, _ => none

/-- structs of plain fields of one cell each: field by field; none: not taken. -/
def eqFlds (E : Env) : Nat → List Field → List Value → List Value → Option Bool
  | _, [], [], [] => some true
  | i, f :: fs, x :: l, y :: r =>
    bif Nat.beq f.offset i && (f.name != "_") then
      match E.under f.type, x, y with
      | some .bool, .bool a, .bool b => bif a == b then eqFlds E (i + 1) fs l r else some false
      | some (.int _), .int k a, .int k' b => if k = k' then (bif a == b then eqFlds E (i + 1) fs l r else some false) else none
      | some .string, .string ⟨⟨a⟩⟩, .string ⟨⟨b⟩⟩ => bif bytesEq a b then eqFlds E (i + 1) fs l r else some false
      | _, _, _ => none
    else none
  | _, _, _, _ => none

def eqAny (E : Env) (m : Mem) (t : TypeId) (x y : Value) : Option Bool :=
  match x, y with
  | .bool a, .bool b => match E.under t with | some .bool => some (a == b) | _ => none
  | .agg ⟨a⟩, .agg ⟨b⟩ =>
    match E.under t with
    | some (.struct fs) => bif E.eqs.any (Nat.beq t) then eqFlds E 0 fs.toList a b else none
    | _ => none
  | _, _ => eqPtr E m t x y

def binOp0 (E : Env) (m : Mem) (op : BinOp) (t : TypeId) (x y : Value) : Option Value :=
  match op, x, y with
  | .shl, .int k a, .int _ b | .shr, .int k a, .int _ b => shiftOp op k a b
  | _, .int k a, .int k' b => if k = k' then intOp op k a b else none
  | _, .string ⟨⟨a⟩⟩, .string ⟨⟨b⟩⟩ => strOp op a b
  | .eql, x, y => match eqAny E m t x y with | none => none | some r => some (.bool r)
  | .neq, x, y => match eqAny E m t x y with | none => none | some r => some (.bool (!r))
  | _, _, _ => none

def bytesSame : Value → Value → Bool
  | .bool a, .bool b => a == b
  | .int k a, .int k' b => decide (k = k') && decide (a = b)
  | .string ⟨⟨a⟩⟩, .string ⟨⟨b⟩⟩ => bytesEq a b
  | .chan (some n), .chan (some n') => Nat.beq n n'
  | _, _ => false

def factOf : List (BinOp × Value × Value × Value) → BinOp → Value → Value → Option Value
  | [], _, _, _ => none
  | (op', x', y', r) :: l, op, x, y => bif decide (op' = op) && (bytesSame x' x && bytesSame y' y) then some r else factOf l op x y

def binOp (E : Env) (m : Mem) (op : BinOp) (t : TypeId) (x y : Value) : Option Value :=
  match (bif isTok x || isTok y then factOf E.facts op x y else none) with
  | some r => some r
  | none => binOp0 E m op t x y

def argsSame : List Value → List Value → Bool
  | [], [] => true
  | a :: l, b :: r => bytesSame a b && argsSame l r
  | _, _ => false

def knownOf : List (Nat × List Value × Value) → Nat → List Value → Option Value
  | [], _, _ => none
  | (g, as, v) :: l, f, args => bif Nat.beq g f && argsSame as args then some v else knownOf l f args

def unOp (op : UnOp) (x : Value) : Option Value :=
  match op, x with
  | .neg, .int k n => some (.int k (k.wrap (0 - n)))
  | .not, .bool b => some (.bool !b)
  | _, _ => none

def bytesOfCells : List Value → Option (List UInt8)
  | [] => some []
  | .int .u8 n :: l => match bytesOfCells l with | none => none | some r => some (UInt8.ofNat n.toNat :: r)
  | _ => none

def cellsOfBytes : List UInt8 → List Value
  | [] => []
  | b :: l => .int .u8 b.toNat :: cellsOfBytes l

/-- a bound of a slice expression. -/
def bound (ρ : Rho) (d : Nat) : Option Operand → Option Nat
  | none => some d
  | some v => match ρ v with
    | .int _ (.ofNat n) => some n
    | _ => none

/-- the value of an operation that changes no memory; none: not taken. -/
def quiet (E : Env) (m : Mem) (ρ : Rho) (o : Op) : Option Value :=
  match o with
  | .move x | .assign x => some (ρ x)
  | .pick c a b => match ρ c with | .bool true => some (ρ a) | .bool false => some (ρ b) | _ => none
  | .load t a => match ρ a with | .pointer (some ⟨b, o, none⟩) => loadAt E m t b o | _ => none
  | .nilCheck x => match ρ x with | .pointer (some a) => some (.pointer (some a)) | _ => none
  | .binOp op t x y _ => binOp E m op t (ρ x) (ρ y)
  | .unOp op _ x => unOp op (ρ x)
  | .extract x i => match ρ x with | .tuple ⟨l⟩ => nth l i | _ => none
  | .build t parts =>
    match E.zero t, E.under t with
    | some z, some (.struct fs) => match places E fs.toList with
      | none => none
      | some pl => match fill (nth pl) (cellsOf z) (parts.toList.map fun p => (p.1, ρ p.2)) with
        | none => none
        | some l => some (.agg ⟨l⟩)
    | some z, some (.array _ e) => match E.size e with
      | none => none
      | some k => match fill (fun i => some (i * k, k)) (cellsOf z) (parts.toList.map fun p => (p.1, ρ p.2)) with
        | none => none
        | some l => some (.agg ⟨l⟩)
    | _, _ => none
  | .fieldAddr s x f =>
    match E.under s, ρ x with
    | some (.struct fs), .pointer (some ⟨b, o, none⟩) => match nth fs.toList f with
      | none => none
      | some fd => match E.size fd.type with
        | some (_ + 1) => some (.pointer (some ⟨b, o + fd.offset, none⟩))
        | _ => none
    | _, _ => none
  | .indexAddr t x i =>
    match E.under t, ρ x, ρ i with
    | some (.slice e), .slice (some ⟨b, o, none⟩) len _, .int _ (.ofNat i) =>
      bif Nat.blt i len then (match E.size e with | some k => some (.pointer (some ⟨b, o + i * k, none⟩)) | none => none) else none
    | some (.array len e), .pointer (some ⟨b, o, none⟩), .int _ (.ofNat i) =>
      bif Nat.blt i len then (match E.size e with | some k => some (.pointer (some ⟨b, o + i * k, none⟩)) | none => none) else none
    | _, _, _ => none
  | .index t x i =>
    match E.under t, ρ x, ρ i with
    | some .string, .string ⟨⟨s⟩⟩, .int _ (.ofNat i) => match nth s i with | some b => some (.int .u8 b.toNat) | none => none
    | some (.array len e), .agg ⟨l⟩, .int _ (.ofNat i) =>
      bif Nat.blt i len then
        match E.size e, E.under e with
        | some 1, some d => bif isAggD d then none else nth l i
        | some k, some d => bif isAggD d then some (.agg ⟨(l.drop (i * k)).take k⟩) else none
        | _, _ => none
      else none
    | _, _, _ => none
  | .field t x f =>
    match E.under t, ρ x with
    | some (.struct fs), .agg ⟨l⟩ => match nth fs.toList f with
      | none => none
      | some fd => match E.size fd.type, E.under fd.type with
        | some k, some d => bif isAggD d then some (.agg ⟨(l.drop fd.offset).take k⟩) else nth l fd.offset
        | _, _ => none
    | _, _ => none
  | .slice t x lo hi mx =>
    match mx, E.under t, ρ x with
    | none, some .string, .string ⟨⟨s⟩⟩ =>
      match bound ρ 0 lo, bound ρ s.length hi with
      | some l, some h => bif Nat.ble l h && Nat.ble h s.length then some (.string ⟨⟨(s.drop l).take (h - l)⟩⟩) else none
      | _, _ => none
    | none, some (.slice e), .slice none 0 0 =>
      match bound ρ 0 lo, bound ρ 0 hi with
      | some 0, some 0 => (match E.size e with | some _ => some (.slice none 0 0) | none => none)
      | _, _ => none
    | none, some (.slice e), .slice (some ⟨b, o, none⟩) len cap =>
      match bound ρ 0 lo, bound ρ len hi with
      | some l, some h => bif Nat.ble l h && Nat.ble h cap then
          (bif Nat.beq l 0 || Nat.blt l cap then (match E.size e with | some k => some (.slice (some ⟨b, o + l * k, none⟩) (h - l) (cap - l)) | none => none)
           else match E.size e with | some _ => some (.slice (some ⟨b, o, some 0⟩) 0 0) | none => none) else none
      | _, _ => none
    | none, some (.slice e), .slice (some ⟨b, o, some s⟩) 0 0 =>
      match bound ρ 0 lo, bound ρ 0 hi with
      | some 0, some 0 => (match E.size e with | some _ => some (.slice (some ⟨b, o, some s⟩) 0 0) | none => none)
      | _, _ => none
    | _, _, _ => none
  | .makeFunc fn first captured => some (.func fn ⟨first.toList.map ρ⟩ ⟨captured.toList.map ρ⟩)
  | .convert s d x =>
    match E.under s, E.under d, ρ x with
    | some _, some (.int k), .int _ n => some (.int k (k.wrap n))
    | some _, some .string, .string s => some (.string s)
    | some (.slice e), some .string, .slice none _ _ => (match E.under e with | some (.int .u8) => some (.string ⟨⟨[]⟩⟩) | _ => none)
    | some (.slice e), some .string, .slice (some ⟨b, o, none⟩) len _ =>
      match E.under e, m.get b with
      | some (.int .u8), some (.cells n c _ _) => bif Nat.ble (o + len) n then (match cellsFrom c o len with | none => none | some l => match bytesOfCells l with | none => none | some r => some (.string ⟨⟨r⟩⟩)) else none
      | _, _ => none
    | _, _, _ => none
  | .lookup t x i ok =>
    match E.under t, ρ x with
    | some (.map kt et), mv =>
      match (match mv with | .map none => some [] | .map (some r) => (match m.get r with | some (.map es) => some es | _ => none) | _ => none), E.zero et with
      | some es, some z => match find E m kt (ρ i) es with
        | none => none
        | some r => some (match r with
          | some v => (bif ok then .tuple ⟨[v, .bool true]⟩ else v)
          | none => (bif ok then .tuple ⟨[z, .bool false]⟩ else z))
      | _, _ => none
    | _, _ => none
  | .call c =>
    match c.callee with
    | .builtin .len => match c.argTypes.toList, c.args.toList with
      | [t], [x] => match E.under t, ρ x with
        | some .string, .string ⟨⟨s⟩⟩ => some (.int .i64 s.length)
        | some (.slice _), .slice _ n _ => some (.int .i64 n)
        | some (.array n _), _ => some (.int .i64 n)
        | some (.map _ _), .map none => some (.int .i64 0)
        | some (.map _ _), .map (some r) => (match m.get r with | some (.map es) => some (.int .i64 es.length) | _ => none)
        | _, _ => none
      | _, _ => none
    | .builtin .max => match c.args.toList with
      | [x, y] => (match ρ x, ρ y with | .int k a, .int _ b => some (.int k (if b > a then b else a)) | _, _ => none)
      | _ => none
    | .builtin .min => match c.args.toList with
      | [x, y] => (match ρ x, ρ y with | .int k a, .int _ b => some (.int k (if b < a then b else a)) | _, _ => none)
      | _ => none
    | _ => none
  | _ => none
where
  find (E : Env) (m : Mem) (kt : TypeId) (k : Value) : List (Value × Value) → Option (Option Value)
    | [] => bif keyOk E kt k then some none else none
    | (k', v) :: es => match eqKey E m kt k k' with
      | none => none
      | some true => some (some v)
      | some false => find E m kt k es
  keyOk (E : Env) (kt : TypeId) (k : Value) : Bool :=
    match E.under kt, k with
    | some (.int _), .int _ _ => true
    | some .string, .string _ => true
    | some (.pointer _), .pointer _ => true
    | _, _ => false
  eqKey (E : Env) (m : Mem) (kt : TypeId) (x y : Value) : Option Bool :=
    match E.under kt, x, y with
    | some (.int _), .int k a, .int k' b => if k = k' then some (a == b) else none
    | some .string, .string ⟨⟨a⟩⟩, .string ⟨⟨b⟩⟩ => some (bytesEq a b)
    | some (.pointer _), .pointer a, .pointer b => eqPtr E m kt (.pointer a) (.pointer b)
    | _, _, _ => none

/-- operations that make memory, and change none that stands. -/
def allocs (E : Env) (m : Mem) (ρ : Rho) (o : Op) : Option (Value × Mem) :=
  match o with
  | .alloc e => match E.zero e with
    | none => none
    | some z => withAddr m (fun a => .pointer (some a)) (newCells m e 0 (cellsOf z))
  | .box e x => withAddr m (fun a => .pointer (some a)) (newCells m e 0 (cellsOf (ρ x)))
  | .buildSlice t len parts =>
    match E.under t with
    | some (.slice e) => match E.size e, E.zero e with
      | some k, some z =>
        bif Nat.ble (len * k) 10000000 && Nat.beq (cellsOf z).length k then
          match fill (fun i => some (i * k, k)) (repeatList (cellsOf z) len) (parts.toList.map fun p => (p.1, ρ p.2)) with
          | none => none
          | some l => withAddr m (fun a => .slice (some a) len len) (newCells m e 0 l)
        else none
      | _, _ => none
    | _ => none
  | .makeSlice t l c =>
    match E.under t, ρ l, ρ c with
    | some (.slice e), .int .i64 (.ofNat l), .int .i64 (.ofNat c) => match E.ti e with
      | none => none
      | some i => match i.zero with
        | some z => bif Nat.ble l c && Nat.ble (c * i.bytes) 1000000000 && Nat.blt c 1000000000 && Nat.beq (cellsOf z).length i.size then withAddr m (fun a => .slice (some a) l c) (newCells m e 0 (repeatList (cellsOf z) c)) else none
        | none => none
    | _, _, _ => none
  | .makeMap _ none => some (.map (some m.next), m.new (.map []))
  | _ => none

/-- operations that change memory. -/
def effect (E : Env) (m : Mem) (ρ : Rho) (o : Op) : Option (Value × Mem) :=
  match o with
  | .store t a x => match ρ a with
    | .pointer (some ⟨b, o, none⟩) => match storeAt E m t b o (ρ x) with | none => none | some m' => some (undef, m')
    | _ => none
  | .mapUpdate t mp k x | .insert t mp k x =>
    match E.under t, ρ mp with
    | some (.map kt _), .map (some r) => match m.get r with
      | some (.map es) => match upd E m kt (ρ k) (ρ x) es with
        | none => none
        | some es' => some (undef, m.put r (.map es'))
      | _ => none
    | _, _ => none
  | .convert s d x =>
    match ρ x with
    | .slice (some ⟨b, o, none⟩) len cap =>
      match E.under s, E.under d with
      | some (.slice _), some (.slice e) => match E.under e, m.get b with
        | some (.int .u8), some (.cells n c el kd) => bif Nat.beq s d && !(Nat.beq kd 1) then some (.slice (some ⟨b, o, none⟩) len cap, m.put b (.cells n c el 2)) else none
        | _, _ => none
      | _, _ => none
    | .string ⟨⟨str⟩⟩ => match E.under s, E.under d with
      | some _, some (.slice e) => match E.under e with
        | some (.int .u8) => bif size1 E e then withAddr m (fun a => .slice (some a) str.length str.length) (newCells m e 2 (cellsOfBytes str)) else none
        | _ => none
      | _, _ => none
    | _ => none
  | .call c =>
    match c.callee with
    | .builtin .append => match c.argTypes.toList, c.args.toList with
      | [t, u], [x, y] => match E.under t, E.under u with
        | some (.slice e), some du =>
          bif !(rowD du) then none else
          match E.ti e with
          | none => none
          | some i => match i.zero with
            | none => none
            | some z => bif Nat.beq (cellsOf z).length i.size then
                match cellsIn m i.size (ρ y) with
                | none => none
                | some (k, new) => append m e i.size i.bytes (ρ x) k new
              else none
        | _, _ => none
      | _, _ => none
    | _ => none
  | _ => none
where
  upd (E : Env) (m : Mem) (kt : TypeId) (k x : Value) : List (Value × Value) → Option (List (Value × Value))
    | [] => bif quiet.keyOk E kt k then some [(k, x)] else none
    | (k', v) :: es => match quiet.eqKey E m kt k k' with
      | none => none
      | some true => some ((k, x) :: es)
      | some false => match upd E m kt k x es with | none => none | some r => some ((k', v) :: r)
  cellsIn (m : Mem) (size : Nat) : Value → Option (Nat × List Value)
    | .slice none n _ => bif Nat.beq n 0 then some (0, []) else none
    | .slice (some ⟨_, _, some _⟩) n _ => bif Nat.beq n 0 then some (0, []) else none
    | .slice (some ⟨b, o, none⟩) n _ => match m.get b with
      | some (.cells k c _ _) => bif Nat.ble (o + n * size) k then (match cellsFrom c o (n * size) with | none => none | some l => some (n, l)) else none
      | _ => none
    | .string ⟨⟨s⟩⟩ => bif Nat.beq size 1 then some (s.length, cellsOfBytes s) else none
    | _ => none
  append (m : Mem) (e : TypeId) (size bytes : Nat) (x : Value) (k : Nat) (new : List Value) : Option (Value × Mem) :=
    match x with
    | .slice none n c =>
      bif Nat.beq n 0 && Nat.beq c 0 && Nat.ble (k * bytes) 1000000000 && Nat.ble k 1000000000 then
        bif Nat.beq k 0 then some (.slice none 0 0, m) else withAddr m (fun a => .slice (some a) k k) (newCells m e 0 new)
      else none
    | .slice (some ⟨b, o, none⟩) n cap =>
      match m.get b with
      | some (.cells nc c el kd) =>
        bif Nat.beq kd 1 then none else
        bif Nat.ble (n + k) cap then
          match storeFrom c (o + n * size) nc new with
          | none => none
          | some c' => some (.slice (some ⟨b, o, none⟩) (n + k) cap, m.put b (.cells nc c' el kd))
        else bif Nat.ble n cap && Nat.ble (cap * size) nc && Nat.beq el e && Nat.beq o 0 && Nat.ble ((n + k) * bytes) 1000000000 && Nat.ble (n + k) 1000000000 && Nat.ble ((n + k) * size) 1000000000 && new.all oneCell then
          -- the old block ends; the new one bears its first cells and the new ones
          some (.slice (some ⟨m.next, 0, none⟩) (n + k) (n + k), (m.put b .dead).new (.cells ((n + k) * size) (ofListFrom c (n * size) new) e kd))
        else none
      | _ => none
    | _ => none

/-! Functions, regions, code. -/

structure Act where
  tmps : Tree Value
  n : Nat
  defers : List (Nat × List Value)
  m : Mem

def Act.tmp (a : Act) (t : Nat) : Value := match a.tmps.get t with | some v => v | none => undef

def Act.eval (a : Act) : Operand → Value
  | .tmp t => a.tmp t
  | .const v => v
  | .global g => .pointer (some ⟨g, 0, none⟩)
  | .func f => .func (.func f) #[] #[]

def Act.put (a : Act) (dst : Option Tmp) (v : Value) : Option Act :=
  match dst with
  | none => some a
  | some d => bif Nat.blt d a.n then some { a with tmps := a.tmps.set D d v } else none

inductive Ex where
  | normal | exit (id : Nat) | ret | goto (l : Nat)

/-- jumps within a scope. -/
def jumps (run : Code → Act → Option (Ex × Act)) (body : Code) : Nat → Option (Ex × Act) → Option (Ex × Act)
  | 0, _ => none
  | k + 1, r => match r with
    | some (.goto l, a) => match findLabel body l with
      | some rest => jumps run body k (run rest a)
      | none => some (.goto l, a)
    | r => r

abbrev CallFn := Nat → List Value → Mem → Option (Value × Mem)

def target (ρ : Rho) (c : Call) : Option (Nat × List Value) :=
  match c.callee with
  | .value f => match ρ f with
    | .func (.func g) ⟨first⟩ ⟨cap⟩ => some (g, first ++ c.args.toList.map ρ ++ cap)
    | _ => none
  | _ => none

/-- what an operation that is no call does: the kind: 0 quiet, 1 makes memory, 2 changes it. -/
def plainOp (E : Env) (m : Mem) (ρ : Rho) (o : Op) : Option (Nat × Value × Mem) :=
  match quiet E m ρ o with
  | some v => some (0, v, m)
  | none => bif Nat.blt m.next 1000000000 then
      match allocs E m ρ o with
      | some (v, m') => some (1, v, m')
      | none => match effect E m ρ o with
        | some (v, m') => some (2, v, m')
        | none => none
    else none

/-- one operation that is wanted. -/
def oper (E : Env) (call : CallFn) (a : Act) (o : Oper) : Option (Nat × Act) :=
  match plainOp E a.m a.eval o.op with
  | some (k, v, m') => match ({ a with m := m' } : Act).put o.dst v with | none => none | some a' => some (k, a')
  | none => match o.op with
    | .call c => match target a.eval c with
      | none => none
      | some (g, args) => match call g args a.m with
        | none => none
        | some (v, m') => match ({ a with m := m' } : Act).put o.dst v with | none => none | some a' => some (2, a')
    | .defer c => match target a.eval c with
      | none => none
      | some d => match ({ a with defers := d :: a.defers } : Act).put o.dst undef with | none => none | some a' => some (2, a')
    | _ => none

/-- is a guarded operation wanted? -/
def wanted (a : Act) (ops : List Oper) (o : Oper) : Bool :=
  match o.guard with
  | none => true
  | some (j, want) => match nth ops j with
    | none => false
    | some oj => match oj.dst with
      | none => false
      | some d => match a.tmp d with
        | .bool b => b == want
        | _ => false

/-- an operation, wanted or not; the kind. -/
def stepOp (E : Env) (call : CallFn) (all : List Oper) (a : Act) (o : Oper) : Option (Nat × Act) :=
  bif wanted a all o then oper E call a o else match a.put o.dst undef with | none => none | some a' => some (0, a')

def opers (E : Env) (call : CallFn) (all : List Oper) : List Oper → Act → Option Act
  | [], a => some a
  | o :: l, a => match stepOp E call all a o with
    | none => none
    | some (_, a') => opers E call all l a'

/-! A region that draws its order: it is gone through in one order, and held against all others. -/

/-- an operation with its number, and all that must be ahead of it as bits. -/
structure Ent where
  i : Nat
  o : Oper
  mask : Nat

def depsIn : List Edge → List Nat
  | [] => []
  | e :: l => bif Region.binds .any e then e.on :: depsIn l else depsIn l
def depsOf (o : Oper) : List Nat := depsIn o.after.toList

def maskOf (ms : List Nat) : List Nat → Nat
  | [] => 0
  | d :: l => (2 ^ d ||| (match nth ms d with | some x => x | none => 0)) ||| maskOf ms l

/-- of all operations: the bits of what must be ahead. -/
def masks : List Nat → List Oper → List Nat
  | ms, [] => ms
  | ms, o :: l => masks (ms ++ [maskOf ms (depsOf o)]) l

def isAl : Op → Bool
  | .alloc _ | .box .. | .buildSlice .. | .makeSlice .. | .makeMap .. => true
  | _ => false

def isEff (E : Env) : Op → Bool
  | .move _ | .assign _ | .pick .. | .load .. | .nilCheck _ | .binOp .. | .unOp .. | .extract .. | .build .. | .fieldAddr .. | .indexAddr .. | .index .. | .field .. | .slice .. | .makeFunc .. | .lookup .. => false
  | .alloc _ | .box .. | .buildSlice .. | .makeSlice .. | .makeMap .. => false
  | .convert _ d _ => match E.under d with | some (.slice _) => true | _ => false
  | .call c => match c.callee with | .builtin .len | .builtin .max | .builtin .min => false | _ => true
  | _ => true

def tmpIn (t : Nat) : List Operand → Bool
  | [] => false
  | .tmp s :: l => Nat.beq s t || tmpIn t l
  | _ :: l => tmpIn t l

/-- does an operation look at a temporary? -/
def reads (all : List Oper) (o : Oper) (t : Nat) : Bool :=
  tmpIn t o.op.operands.toList ||
  (match o.guard with
   | none => false
   | some (j, _) => match nth all j with
     | none => false
     | some oj => match oj.dst with | none => false | some d => Nat.beq d t)

def writesTo (o : Oper) (t : Nat) : Bool := match o.dst with | none => false | some d => Nat.beq d t

/-- may two not be told apart in either order, by their temporaries? -/
def clash (all : List Oper) (x y : Oper) : Bool :=
  (match x.dst with | none => false | some d => reads all y d || writesTo y d) || (match y.dst with | none => false | some d => reads all x d)

def pairOk (E : Env) (all : List Oper) (x y : Ent) : Bool :=
  !(Nat.beq x.i y.i) &&
  (!(clash all x.o y.o) || y.mask.testBit x.i) &&
  (!(isEff E x.o.op && (isEff E y.o.op || isAl y.o.op)) || y.mask.testBit x.i)

def allPairs (E : Env) (all : List Oper) : List Ent → Bool
  | [] => true
  | x :: l => l.all (pairOk E all x) && allPairs E all l

def entsFrom : Nat → List Nat → List Oper → List Ent
  | i, m :: ms, o :: l => ⟨i, o, m⟩ :: entsFrom (i + 1) ms l
  | _, _, _ => []

def loose (e : Ent) : Bool := (match e.o.op with | .alloc _ => true | _ => false) && (depsOf e.o).isEmpty

def ordered (l : List Ent) : List Ent := l.filter loose ++ l.filter (fun e => !(loose e))

/-- is x, ahead of p, done before what stands between, or is nothing of effect between? -/
def between (E : Env) (x : Ent) (l : List Ent) : Bool := (l.all fun e => !(isEff E e.o.op)) || l.any fun e => isEff E e.o.op && e.mask.testBit x.i

/-- the pairs (place of an operation, place of a stage) that must be asked again. -/
def needsOf (E : Env) (l : List Ent) : List (Nat × Nat) :=
  (List.range l.length).flatMap fun x => (List.range (l.length + 1)).filterMap fun p =>
    match nth l x with
    | none => none
    | some ex => bif isEff E ex.o.op then none else
      bif Nat.blt x p then
        (bif (match nth l p with | none => true | some ep => isEff E ep.o.op) then (bif between E ex ((l.take p).drop (x + 1)) then none else some (x, p)) else none)
      else bif Nat.blt p x then
        (match nth l p with | none => none | some ep => bif isEff E ep.o.op && !(ex.mask.testBit ep.i) then some (x, p) else none)
      else none

/-- a region's order, and what must be asked again; none: it is not taken. -/
def plan (E : Env) (ops : List Oper) : Option (List Ent × List (Nat × Nat)) :=
  let l := ordered (entsFrom 0 (masks [] ops) ops)
  bif Nat.beq l.length ops.length && l.all (fun e => (depsOf e.o).all fun d => Nat.blt d e.i) && allPairs E ops l then some (l, needsOf E l) else none

/-- in that order: of each the state ahead of it. -/
def trace (E : Env) (call : CallFn) (all : List Oper) : List Ent → Act → Option (List Act)
  | [], a => some [a]
  | e :: l, a => match stepOp E call all a e.o with
    | none => none
    | some (k, a') => bif isEff E e.o.op || Nat.beq k 0 || (Nat.beq k 1 && isAl e.o.op) then (match trace E call all l a' with | none => none | some r => some (a :: r)) else none

def sameCell : Value → Value → Bool
  | .bool a, .bool b => a == b
  | .int k a, .int k' b => decide (k = k') && decide (a = b)
  | .string ⟨⟨a⟩⟩, .string ⟨⟨b⟩⟩ => bytesEq a b
  | .pointer none, .pointer none => true
  | .pointer (some ⟨b, o, none⟩), .pointer (some ⟨b', o', none⟩) => Nat.beq b b' && Nat.beq o o'
  | .slice none n c, .slice none n' c' => Nat.beq n n' && Nat.beq c c'
  | .slice (some ⟨b, o, none⟩) n c, .slice (some ⟨b', o', none⟩) n' c' => Nat.beq b b' && Nat.beq o o' && Nat.beq n n' && Nat.beq c c'
  | .map none, .map none => true
  | .map (some r), .map (some r') => Nat.beq r r'
  | _, _ => false

def sameCells : List Value → List Value → Bool
  | [], [] => true
  | a :: l, b :: r => sameCell a b && sameCells l r
  | _, _ => false

/-- functions too, of plain captured cells. -/
def sameCell1 : Value → Value → Bool
  | .func (.func g) ⟨f⟩ ⟨c⟩, .func (.func g') ⟨f'⟩ ⟨c'⟩ => Nat.beq g g' && sameCells f f' && sameCells c c'
  | a, b => sameCell a b

def sameCells1 : List Value → List Value → Bool
  | [], [] => true
  | a :: l, b :: r => sameCell1 a b && sameCells1 l r
  | _, _ => false

def sameV : Value → Value → Bool
  | .agg ⟨a⟩, .agg ⟨b⟩ => sameCells1 a b
  | a, b => sameCell1 a b

def sameObj : Option AObj → Option AObj → Bool
  | some (.cells n c e k), some (.cells n' c' e' k') => Nat.beq n n' && Nat.beq e e' && Nat.beq k k' && (match cellsFrom c 0 n, cellsFrom c' 0 n with | some l, some l' => sameCells1 l l' | _, _ => false)
  | some (.map []), some (.map []) => true
  | _, _ => false

/-- an operation at a stage's memory: is it what it was? -/
def again (E : Env) (all : List Oper) (e : Ent) (a a' : Act) (m : Mem) : Bool :=
  bif wanted a all e.o then
    bif isAl e.o.op then sameObj (a'.m.get a.m.next) (m.get a.m.next)
    else match quiet E m a.eval e.o.op, e.o.dst with
      | some _, none => true
      | some v, some d => sameV v (a'.tmp d)
      | none, _ => false
  else true

def last : List Act → Option Act
  | [] => none
  | [a] => some a
  | _ :: l => last l

def drawn (E : Env) (call : CallFn) (all : List Oper) (a : Act) : Option Act :=
  match plan E all with
  | none => none
  | some (l, needs) => match trace E call all l a with
    | none => none
    | some tr => bif needs.all (fun q => match nth l q.1, nth tr q.1, nth tr (q.1 + 1), nth tr q.2 with | some e, some a, some a', some b => again E all e a a' b.m | _, _, _, _ => false) then last tr else none

def results (E : Env) (a : Act) : List ResultVar → Option (List Value)
  | [] => some []
  | .tmp t :: l => match results E a l with | none => none | some r => some (a.tmp t :: r)
  | .cell t ty :: l => match a.tmp t with
    | .pointer (some ⟨b, o, none⟩) => (match loadAt E a.m ty b o, results E a l with | some v, some r => some (v :: r) | _, _ => none)
    | _ => none

abbrev CallDFn := Nat → List Value → Mem → Option Mem

def defers (call : CallDFn) : List (Nat × List Value) → Mem → Option Mem
  | [], m => some m
  | (f, args) :: l, m => match call f args m with | none => none | some m' => defers call l m'

def one : List Value → Value
  | [v] => v
  | l => .tuple ⟨l⟩

/-- a function's body came to its end. -/
def ended : Option (Ex × Act) → Option Act
  | some (.normal, a) => some a
  | some (.ret, a) => some a
  | _ => none

mutual
def code (E : Env) : Nat → Code → Act → Option (Ex × Act)
  | 0, _, _ => none
  | n + 1, c, a =>
    match c with
    | .skip => some (.normal, a)
    | .region _ ops false => match opers E (call E n) ops.toList ops.toList a with | none => none | some a' => some (.normal, a')
    | .region _ ops true => match drawn E (call E n) ops.toList a with | none => none | some a' => some (.normal, a')
    | .seq x y => match code E n x a with
      | some (.normal, a') => code E n y a'
      | r => r
    | .cond c x y => match a.eval c with
      | .bool true => code E n x a
      | .bool false => code E n y a
      | _ => none
    | .block id x => match code E n x a with
      | some (.exit id', a') => bif Nat.beq id' id then some (.normal, a') else some (.exit id', a')
      | r => r
    | .loop x => match code E n x a with
      | some (.normal, a') => code E n (.loop x) a'
      | r => r
    | .exit id => some (.exit id, a)
    | .ret => some (.ret, a)
    | .label _ => some (.normal, a)
    | .goto l => some (.goto l, a)
    | .scope x => jumps (code E n) x n (code E n x a)
    | _ => none
def call (E : Env) : Nat → Nat → List Value → Mem → Option (Value × Mem)
  | 0, _, _, _ => none
  | n + 1, f, args, m =>
    match knownOf E.known f args with
    | some v => some (v, m)
    | none => match E.funcs.get f with
      | none => none
      | some fn => match fn.body with
        | none => none
        | some c =>
          bif Nat.ble args.length fn.ntmps && Nat.ble fn.ntmps 1000000000 then
            match ended (code E n c { tmps := ofListFrom .leaf 0 args, n := fn.ntmps, defers := [], m := m }) with
            | none => none
            | some a => match defers (callD E n) a.defers a.m with
              | none => none
              | some m' => match results E { a with m := m' } fn.results.toList with
                | none => none
                | some vs => some (one vs, m')
          else none
/-- a deferred call: of a function that defers nothing itself. -/
def callD (E : Env) : Nat → Nat → List Value → Mem → Option Mem
  | 0, _, _, _ => none
  | n + 1, f, args, m =>
    match E.funcs.get f with
    | none => none
    | some fn => match fn.body with
      | none => none
      | some c =>
        bif Nat.ble args.length fn.ntmps && Nat.ble fn.ntmps 1000000000 then
          match ended (code E n c { tmps := ofListFrom .leaf 0 args, n := fn.ntmps, defers := [], m := m }) with
          | none => none
          | some a => bif a.defers.isEmpty then (match results E a fn.results.toList with | none => none | some _ => some a.m) else none
        else none
end

end Go.Ev
