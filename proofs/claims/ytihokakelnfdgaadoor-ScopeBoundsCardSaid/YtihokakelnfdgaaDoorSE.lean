/- Part of a verified evaluator of the model's programs and of runs by it: SR1 SR2 SP SQ1 SR3 SQ2 SQ3 SQ4 SR4 SR5. -/
import Derived.Test.YtihokakelnfdgaaDoorSD
import Derived.Test.YtihokakelnfdgaaDoorEvV
namespace Go.Proofs.YtihokakelnfdgaaDoor
set_option linter.unusedSimpArgs false
open Go Go.Ev
set_option linter.unusedVariables false

/-! What Resolve does, on plain data. -/
abbrev Bs := List UInt8
def primNames : List Bs := [[112, 114, 105, 110, 116], [108, 101, 110], [112, 117, 115, 104], [112, 111, 112], [107, 101, 121, 115], [104, 97, 115], [103, 101, 116], [112, 117, 116], [115, 97, 109, 101], [116, 101, 120, 116], [99, 120], [114, 101], [105, 109], [107, 105, 110, 100], [121, 105, 101, 108, 100], [115, 108, 101, 101, 112], [110, 111, 119], [114, 97, 110, 100], [106, 111, 105, 110], [98, 111, 120], [115, 101, 110, 100], [114, 101, 99, 118], [109, 111, 110, 105, 116, 111, 114], [108, 111, 99, 107], [117, 110, 108, 111, 99, 107], [119, 97, 105, 116], [119, 97, 105, 116, 102, 111, 114], [110, 111, 116, 105, 102, 121], [110, 111, 116, 105, 102, 121, 97, 108, 108], [115, 101, 108, 102]]
/-- a name's place in a list. -/
def idx (s : Bs) : List Bs → Option Nat
 | [] => none
 | t :: l => if t = s then some 0 else (idx s l).map (· + 1)
def primI (s : Bs) : Option Nat := idx s primNames

structure Fn where
 node : Nat
 params : Int
 slots : Nat
 caps : List (Nat × Nat)
structure Fr where
 fn : Nat
 scopes : List (List (Bs × Nat))
 loops : Nat
 caps : List (Nat × Nat)
structure Dc where
 fn : Nat
 slot : Nat
 cap : Bool
structure MS where
 pc : Nat
 funs : List Fn
 uses : List (Nat × Nat)
 globals : List Bs
 frames : List Fr
 means : List (Option Nat)
 e : Nat
 place : Int
 decls : List Dc

/-- entries. -/
def look {κ : Type} [DecidableEq κ] (s : κ) : List (κ × Nat) → Option Nat
 | [] => none
 | (t, d) :: l => if s = t then some d else look s l
def lay {κ : Type} [DecidableEq κ] (s : κ) (d : Nat) : List (κ × Nat) → List (κ × Nat)
 | [] => [(s, d)]
 | (t, x) :: l => if s = t then (s, d) :: l else (t, x) :: lay s d l

def MS.fail (S : MS) (e : Nat) (p : Int) : MS := if S.e = 0 then { S with e := e, place := p } else S
def MS.failIf (S : MS) (b : Bool) (e : Nat) (p : Int) : MS := if b then S.fail e p else S

def onTop (g : Fr → Fr) : List Fr → List Fr
 | [] => []
 | f :: fs => g f :: fs
def MS.top (S : MS) (g : Fr → Fr) : MS := { S with frames := onTop g S.frames }
def MS.enter (S : MS) : MS := S.top fun f => { f with scopes := [] :: f.scopes }
def MS.leave (S : MS) : MS := S.top fun f => { f with scopes := f.scopes.tail }
def layTop (s : Bs) (d : Nat) : List (List (Bs × Nat)) → List (List (Bs × Nat))
 | [] => []
 | sc :: r => lay s d sc :: r
def MS.bind (S : MS) (s : Bs) (d : Nat) : MS := S.top fun f => { f with scopes := layTop s d f.scopes }
def MS.loop (S : MS) (g : Nat → Nat) : MS := S.top fun f => { f with loops := g f.loops }

def MS.topFn (S : MS) : Nat := match S.frames with | f :: _ => f.fn | [] => 0
def MS.topScopes (S : MS) : List (List (Bs × Nat)) := match S.frames with | f :: _ => f.scopes | [] => []
def MS.topLoops (S : MS) : Nat := match S.frames with | f :: _ => f.loops | [] => 0
def slotsOf (fs : List Fn) (i : Nat) : Nat := match fs[i]? with | some f => f.slots | none => 0
def capsOf (fs : List Fn) (i : Nat) : List (Nat × Nat) := match fs[i]? with | some f => f.caps | none => []
def headSc : List (List (Bs × Nat)) → List (Bs × Nat)
 | [] => []
 | sc :: _ => sc

/-- a slot of a name, at a node of a position. -/
def MS.declare (S : MS) (s : Bs) (at_ : Nat) (pos : Int) : MS :=
 let S1 := S.failIf (primI s).isSome 8 pos
 let S2 := S1.failIf (look s (headSc S.topScopes)).isSome 80 pos
 let S3 := S2.failIf (decide (slotsOf S.funs S.topFn = 256)) 3 pos
 { S3 with
  decls := S3.decls ++ [⟨S.topFn, slotsOf S.funs S.topFn, false⟩]
  funs := S3.funs.modify S.topFn fun f => { f with slots := f.slots + 1 }
  means := S3.means.set at_ (some S.decls.length) }

def MS.global (g : List (Bs × Nat)) (S : MS) (s : Bs) (at_ : Nat) (pos : Int) : MS :=
 let S1 := S.failIf (primI s).isSome 8 pos
 let S2 := S1.failIf (match look s g with | some i => decide (i < at_) | none => false) 80 pos
 let S3 := S2.failIf (decide (S.globals.length = 1024)) 3 pos
 { S3 with uses := S3.uses.set at_ (4, S.globals.length), globals := S3.globals ++ [s] }

def findSc (s : Bs) : List (List (Bs × Nat)) → Option Nat
 | [] => none
 | sc :: r => match look s sc with
  | some d => some d
  | none => findSc s r
/-- the declaration that a name means, and how many functions are gone out of. -/
def findFr (s : Bs) : List Fr → Option (Nat × Nat)
 | [] => none
 | f :: fs => match findSc s f.scopes with
  | some d => some (d, 0)
  | none => (findFr s fs).map fun q => (q.1, q.2 + 1)

def declFn (S : MS) (d : Nat) : Nat := match S.decls[d]? with | some x => x.fn | none => 0
def declSlot (S : MS) (d : Nat) : Nat := match S.decls[d]? with | some x => x.slot | none => 0
def frFn (S : MS) (k : Nat) : Nat := match S.frames[k]? with | some f => f.fn | none => 0
/-- what the frame at a depth has taken of a declaration. -/
def taken (S : MS) (d k : Nat) : Option Nat := match S.frames[k]? with | some f => look d f.caps | none => none

/-- the place of a declaration in the caps of the function so many in from the innermost. -/
def MS.take : Nat → MS → Nat → Nat → Int → MS × Nat
 | 0, S, d, k, pos => (S, 0)
 | f + 1, S, d, k, pos => match taken S d k with
  | some i => (S, i)
  | none =>
   let q := if frFn S (k + 1) ≠ declFn S d then (let r := MS.take f S d (k + 1) pos; (r.1, ((0, r.2) : Nat × Nat))) else (S, (1, declSlot S d))
   let n := (capsOf q.1.funs (frFn S k)).length
   let S1 := q.1.failIf (decide (n = 256)) 3 pos
   ({ S1 with
     frames := S1.frames.modify k fun f => { f with caps := lay d n f.caps }
     funs := S1.funs.modify (frFn S k) fun f => { f with caps := f.caps ++ [q.2] } }, n)

/-- the width of the tree at a place. -/
def width (l : List Nd) (p : Nat) : Nat := (D (l.drop p) 1).getD 0
/-- the places right below the program. -/
def tops (l : List Nd) : List Nat := kidsP l (match l[0]? with | some x => x.n.toNat | none => 0) 1
def isDecl (l : List Nd) (k : Nat) : Bool := match l[k]? with | some x => decide (x.kind = 3 ∨ x.kind = 12) | none => false
def nameAt (l : List Nd) (k : Nat) : Bs := match l[k]? with | some x => x.text | none => []
/-- where globals are declared first. -/
def hoisted (l : List Nd) : List (Bs × Nat) :=
 (tops l).foldl (fun g k => if isDecl l k && (look (nameAt l k) g).isNone then lay (nameAt l k) k g else g) []
def globalNo (l : List Nd) (at_ : Nat) : Nat := ((tops l).filter fun k => decide (k < at_) && isDecl l k).length

def MS.name (l : List Nd) (g : List (Bs × Nat)) (set : Bool) (S : MS) : MS :=
 match l[S.pc]? with
 | none => S
 | some x =>
  let p := S.pc
  let S1 := ({ S with pc := p + 1 } : MS).failIf ((primI x.text).isSome && set) 8 x.pos
  match findFr x.text S1.frames with
  | some (d, 0) => { S1 with means := S1.means.set p (some d) }
  | some (d, out + 1) =>
   let S2 : MS := { S1 with means := (S1.means.set p (some d)).set p none, decls := S1.decls.modify d fun c => { c with cap := true } }
   let r := MS.take (S2.frames.length + 1) S2 d 0 x.pos
   { r.1 with uses := r.1.uses.set p (3, r.2) }
  | none => match look x.text g with
   | some at_ => { S1 with uses := S1.uses.set p (4, globalNo l at_) }
   | none =>
    let S2 := S1.failIf (primI x.text).isNone 4 x.pos
    { S2 with uses := S2.uses.set p (5, (primI x.text).getD 0) }

def times (nd : MS → MS) : Nat → MS → MS
 | 0, S => S
 | n + 1, S => times nd n (nd S)

/-- parameters. -/
def MS.params (l : List Nd) : Nat → MS → MS
 | 0, S => S
 | n + 1, S => match l[S.pc]? with
  | none => S
  | some x =>
   let S1 := (S.declare x.text S.pc x.pos).bind x.text S.decls.length
   MS.params l n { S1 with pc := S1.pc + 1 }

def MS.open_ (S : MS) (at_ : Nat) (x : Nd) : MS :=
 let S1 := S.failIf (decide (S.funs.length = 1024)) 3 x.pos
 ({ S1 with funs := S1.funs ++ [⟨at_, x.num, 0, []⟩], frames := ⟨S1.funs.length, [], 0, []⟩ :: S1.frames } : MS).enter

def MS.function (l : List Nd) (nd : MS → MS) (at_ : Nat) (x : Nd) (S : MS) : MS :=
 let S2 := nd ((S.open_ at_ x).params l x.num.toNat)
 { S2.leave with frames := S2.leave.frames.tail }

def isTop (S : MS) : Bool := decide (S.topFn = 0) && S.topScopes.isEmpty

def MS.variable (g : List (Bs × Nat)) (nd : MS → MS) (at_ : Nat) (x : Nd) (S : MS) : MS :=
 if isTop S then nd (S.global g x.text at_ x.pos)
 else (nd (S.declare x.text at_ x.pos)).bind x.text S.decls.length

def MS.try_ (nd : MS → MS) (at_ : Nat) (x : Nd) (S : MS) : MS :=
 (nd ((nd (S.enter.declare x.text at_ x.pos)).bind x.text S.decls.length)).leave

def MS.plain (nd : MS → MS) (x : Nd) (S : MS) : MS :=
 if x.kind = 6 then (nd ((nd S).loop (· + 1))).loop (· - 1)
 else
  let S1 := if x.kind = 7 ∨ x.kind = 8 then S.failIf (decide (S.topLoops = 0)) 6 x.pos
   else if x.kind = 9 then S.failIf (decide (S.topFn = 0)) 6 x.pos else S
  times nd x.n.toNat S1

def MS.step (l : List Nd) (g : List (Bs × Nat)) (nd : MS → MS) (at_ : Nat) (x : Nd) (S : MS) : MS :=
 if x.kind = 2 then (times nd x.n.toNat S.enter).leave
 else if x.kind = 3 then S.variable g nd at_ x
 else if x.kind = 12 then (if isTop S then S.global g x.text at_ x.pos else (S.declare x.text at_ x.pos).bind x.text S.decls.length).function l nd at_ x
 else if x.kind = 31 then S.function l nd at_ x
 else if x.kind = 4 then (match l[S.pc]? with
  | some y => if y.kind = 19 then nd (S.name l g true) else times nd 2 S
  | none => S)
 else if x.kind = 11 then S.try_ nd at_ x
 else S.plain nd x

def nodeM (l : List Nd) (g : List (Bs × Nat)) : Nat → MS → MS
 | 0, S => S
 | f + 1, S =>
  if S.e ≠ 0 then { S with pc := S.pc + width l S.pc }
  else match l[S.pc]? with
   | none => S
   | some x => if x.kind = 19 then S.name l g false else MS.step l g (nodeM l g f) S.pc x { S with pc := S.pc + 1 }

def start (l : List Nd) : MS := ⟨1, [⟨0, 0, 0, []⟩], List.replicate l.length (0, 0), [], [⟨0, [], 0, []⟩], List.replicate l.length none, 0, 0, []⟩
def walked (l : List Nd) : MS := times (nodeM l (hoisted l) l.length) (match l[0]? with | some x => x.n.toNat | none => 0) (start l)
/-- what the uses are at last. -/
def finish (ds : List Dc) : List (Option Nat) → List (Nat × Nat) → List (Nat × Nat)
 | some d :: ms, u :: us => (match ds[d]? with | some c => (if c.cap then 2 else 1, c.slot) | none => u) :: finish ds ms us
 | none :: ms, u :: us => u :: finish ds ms us
 | _, us => us
end Go.Proofs.YtihokakelnfdgaaDoor

namespace Go.Proofs.YtihokakelnfdgaaDoor
set_option linter.unusedSimpArgs false
open Go Go.Ev
set_option linter.unusedVariables false

/-! How the walker's state lies in memory. -/
abbrev I (n : Int) : Value := .int .i64 n
abbrev ptr (b : Nat) : Value := .pointer (some ⟨b, 0, none⟩)
def dptr (dB : List Nat) (d : Nat) : Value := match dB[d]? with | some b => ptr b | none => .pointer none
def optPtr (dB : List Nat) : Option Nat → Value
 | none => .pointer none
 | some d => dptr dB d
def encFn (cv : Value) (f : Fn) : List Value := [I f.node, I f.params, I f.slots, cv]
def encFns : List Value → List Fn → List Value
 | cv :: cvs, f :: fs => encFn cv f ++ encFns cvs fs
 | _, _ => []
def encP (u : Nat × Nat) : List Value := [I u.1, I u.2]
def encPs (l : List (Nat × Nat)) : List Value := l.flatMap encP
abbrev encS (s : Bs) : Value := .string ⟨⟨s⟩⟩
def encG (g : List (Bs × Nat)) : List (Value × Value) := g.map fun q => (encS q.1, I q.2)
def encE (dB : List Nat) (g : List (Bs × Nat)) : List (Value × Value) := g.map fun q => (encS q.1, dptr dB q.2)
def encC (dB : List Nat) (g : List (Nat × Nat)) : List (Value × Value) := g.map fun q => (dptr dB q.1, I q.2)

structure Args where
 nb : Nat
 off : Nat
 cap : Nat
 l : List Nd
 g : List (Bs × Nat)
structure Vs where
 fv : Value
 uv : Value
 gv : Value
 gb : Nat
 frv : Value
 mv : Value
 cvs : List Value

/-- the primitives' names, as they are laid. -/
def Names (m : Mem) : Prop := ∃ c e, m.get 0 = some (.cells 30 c e 1) ∧ ∀ i, i < 30 → c.get i = (primNames.map encS)[i]?
theorem Names.stay {X : Nat → Prop} {T : List Nat} {m m' : Mem} (h : Names m) (hx : X 0) (h0 : 0 < m.next) (k : Keep X T m m') : Names m' := by
 obtain ⟨c, e, h1, h2⟩ := h
 exact ⟨c, e, k.2 0 _ h0 h1 (.inl hx), h2⟩
theorem Nodes.stay {X : Nat → Prop} {T : List Nat} {m m' : Mem} {b off : Nat} {l : List Nd} (h : Nodes m b off l) (hx : X b) (hb : b < m.next) (k : Keep X T m m') : Nodes m' b off l := by
 obtain ⟨n, c, ty, kd, h1, h2⟩ := h
 exact ⟨n, c, ty, kd, k.2 b _ hb h1 (.inl hx), h2⟩

/-- the scopes' maps of a frame, the innermost first. -/
def ScsR (X : Nat → Prop) (m : Mem) (dB : List Nat) (lo hi : Nat) : List Nat → List (List (Bs × Nat)) → Prop
 | [], [] => True
 | b :: bs, sc :: scs => (lo ≤ b ∧ b < hi ∧ ¬ X b ∧ Mp m b (encE dB sc)) ∧ ScsR X m dB lo hi bs scs
 | _, _ => False

structure FrR (X : Nat → Prop) (m : Mem) (dB : List Nat) (lo hi b : Nat) (f : Fr) (sv : Value) (sb : List Nat) (cb : Nat) : Prop where
 blo : lo ≤ b
 bhi : b < hi
 bx : ¬ X b
 row : Row m b [I f.fn, sv, I f.loops, .map (some cb)] 88 0
 sl : Sl X m sv 137 1 (sb.reverse.map fun b => .map (some b))
 slb : ∀ c n k, sv = .slice (some ⟨c, 0, none⟩) n k → lo ≤ c ∧ c < hi
 scs : ScsR X m dB lo hi sb f.scopes
 clo : lo ≤ cb
 chi : cb < hi
 cx : ¬ X cb
 cmap : Mp m cb (encC dB f.caps)
 nodup : (cb :: sb).Nodup

/-- the frames, the innermost first: each one's blocks lie behind those about it. -/
def FrsR (X : Nat → Prop) (m : Mem) (dB : List Nat) : Nat → Nat → List Nat → List Fr → Prop
 | lo, hi, [], [] => lo ≤ hi
 | lo, hi, b :: bs, f :: fs => ∃ mid, ∃ sv sb cb, FrR X m dB mid hi b f sv sb cb ∧ FrsR X m dB lo mid bs fs
 | _, _, _, _ => False

def DcsR (X : Nat → Prop) (m : Mem) (dB : List Nat) (ds : List Dc) : Prop :=
 dB.length = ds.length ∧ dB.Nodup ∧ ∀ (i : Nat) (b : Nat) (d : Dc), dB[i]? = some b → ds[i]? = some d → ¬ X b ∧ Row m b [I d.fn, I d.slot, .bool d.cap] 92 0

def blockOf : Value → Option Nat
 | .slice (some ⟨b, _, _⟩) _ _ => some b
 | _ => none
def CapsR (X : Nat → Prop) (m : Mem) (cvs : List Value) (fs : List Fn) : Prop :=
 cvs.length = fs.length ∧ (∀ (i : Nat) (cv : Value) (f : Fn), cvs[i]? = some cv → fs[i]? = some f → Sl X m cv 59 2 (encPs f.caps)) ∧
 ∀ (i j : Nat) (v w : Value) (b : Nat), cvs[i]? = some v → cvs[j]? = some w → blockOf v = some b → blockOf w = some b → i = j

structure Rep (X : Nat → Prop) (A : Args) (m : Mem) (wb : Nat) (S : MS) (fB dB : List Nat) (V : Vs) : Prop where
 hX : ∀ b, X b → b < m.next
 x0 : X 0
 names : Names m
 xn : X A.nb
 nodes : Nodes m A.nb A.off A.l
 xw : ¬ X wb
 w : Row m wb [.slice (some ⟨A.nb, A.off, none⟩) A.l.length A.cap, I S.pc, V.fv, V.uv, V.gv, .map (some V.gb), V.frv, V.mv, I S.e, I S.place] 83 0
 funs : Sl X m V.fv 49 4 (encFns V.cvs S.funs)
 caps : CapsR X m V.cvs S.funs
 uses : Sl X m V.uv 57 2 (encPs S.uses)
 globals : Sl X m V.gv 9 1 (S.globals.map encS)
 gx : ¬ X V.gb
 gmap : Mp m V.gb (encG A.g)
 frames : Sl X m V.frv 84 1 (fB.reverse.map ptr)
 means : Sl X m V.mv 90 1 (S.means.map (optPtr dB))
 decls : DcsR X m dB S.decls
 frs : FrsR X m dB (V.gb + 1) m.next fB S.frames

section
variable {X : Nat → Prop} {T : List Nat} {m m' : Mem} {dB : List Nat}
theorem ScsR.stay {lo hi hi' : Nat} (k : Keep X T m m') (ht : mapTag ∉ T) (hh : hi ≤ hi') : ∀ {bs : List Nat} {scs : List (List (Bs × Nat))}, ScsR X m dB lo hi bs scs → ScsR X m' dB lo hi' bs scs
 | [], [], _ => trivial
 | b :: bs, sc :: scs, ⟨⟨h1, h2, h3, h4⟩, h⟩ => ⟨⟨h1, Nat.lt_of_lt_of_le h2 hh, h3, h4.stay k (.inr ht)⟩, h.stay k ht hh⟩
theorem FrR.stay {lo hi hi' b cb : Nat} {f : Fr} {sv : Value} {sb : List Nat} (h : FrR X m dB lo hi b f sv sb cb) (k : Keep X T m m') (ht : mapTag ∉ T ∧ 88 ∉ T ∧ 137 ∉ T) (hh : hi ≤ hi') : FrR X m' dB lo hi' b f sv sb cb :=
 { blo := h.blo, bhi := Nat.lt_of_lt_of_le h.bhi hh, bx := h.bx, row := h.row.stay k (.inr ht.2.1), sl := h.sl.stay k ht.2.2, slb := fun c n k' hs => ⟨(h.slb c n k' hs).1, Nat.lt_of_lt_of_le (h.slb c n k' hs).2 hh⟩,
   scs := h.scs.stay k ht.1 hh, clo := h.clo, chi := Nat.lt_of_lt_of_le h.chi hh, cx := h.cx, cmap := h.cmap.stay k (.inr ht.1), nodup := h.nodup }
theorem FrsR.stay {lo : Nat} (k : Keep X T m m') (ht : mapTag ∉ T ∧ 88 ∉ T ∧ 137 ∉ T) : ∀ {hi hi' : Nat} {bs : List Nat} {fs : List Fr}, hi ≤ hi' → FrsR X m dB lo hi bs fs → FrsR X m' dB lo hi' bs fs
 | hi, hi', [], [], hh, h => Nat.le_trans h hh
 | hi, hi', b :: bs, f :: fs, hh, ⟨mid, sv, sb, cb, h1, h2⟩ => ⟨mid, sv, sb, cb, h1.stay k ht hh, h2.stay k ht (Nat.le_refl _)⟩
theorem DcsR.stay {ds : List Dc} (h : DcsR X m dB ds) (k : Keep X T m m') (ht : 92 ∉ T) : DcsR X m' dB ds :=
 ⟨h.1, h.2.1, fun i b d hb hd => ⟨(h.2.2 i b d hb hd).1, (h.2.2 i b d hb hd).2.stay k (.inr ht)⟩⟩
theorem CapsR.stay {cvs : List Value} {fs : List Fn} (h : CapsR X m cvs fs) (k : Keep X T m m') (ht : 59 ∉ T) : CapsR X m' cvs fs :=
 ⟨h.1, fun i cv f h1 h2 => (h.2.1 i cv f h1 h2).stay k ht, h.2.2⟩

variable {A : Args} {wb : Nat} {S : MS} {fB : List Nat} {V : Vs}
theorem Rep.next_pos (h : Rep X A m wb S fB dB V) : 0 < m.next := h.hX 0 h.x0
/-- what makes new memory alone, and what touches none of the walker's. -/
theorem Rep.stay (h : Rep X A m wb S fB dB V) (k : Keep X T m m') (ht : ∀ t ∈ [83, 49, 59, 57, 9, 84, 90, 92, 88, 137, mapTag], t ∉ T) : Rep X A m' wb S fB dB V :=
 { hX := fun b hb => Nat.lt_of_lt_of_le (h.hX b hb) k.1, x0 := h.x0, names := h.names.stay h.x0 h.next_pos k, xn := h.xn, nodes := h.nodes.stay h.xn (h.hX _ h.xn) k, xw := h.xw
   w := h.w.stay k (.inr (ht _ (by simp))), funs := h.funs.stay k (ht _ (by simp)), caps := h.caps.stay k (ht _ (by simp)), uses := h.uses.stay k (ht _ (by simp)), globals := h.globals.stay k (ht _ (by simp)), gx := h.gx
   gmap := h.gmap.stay k (.inr (ht _ (by simp))), frames := h.frames.stay k (ht _ (by simp)), means := h.means.stay k (ht _ (by simp)), decls := h.decls.stay k (ht _ (by simp)),
   frs := h.frs.stay k ⟨ht _ (by simp), ht _ (by simp), ht _ (by simp)⟩ k.1 }
theorem Rep.grow (h : Rep X A m wb S fB dB V) (g : Grow m m') : Rep X A m' wb S fB dB V := h.stay (T := []) (Keep.grow g) (by simp)
/-- the walker's own row is written. -/
theorem Rep.wrote (h : Rep X A m wb S fB dB V) {S' : MS} (ho : ∀ x, x ≠ wb → m'.get x = m.get x) (hn : m'.next = m.next)
  (hw : Row m' wb [.slice (some ⟨A.nb, A.off, none⟩) A.l.length A.cap, I S'.pc, V.fv, V.uv, V.gv, .map (some V.gb), V.frv, V.mv, I S'.e, I S'.place] 83 0)
  (e1 : S'.funs = S.funs) (e2 : S'.uses = S.uses) (e3 : S'.globals = S.globals) (e4 : S'.frames = S.frames) (e5 : S'.means = S.means) (e6 : S'.decls = S.decls) : Rep X A m' wb S' fB dB V := by
 have k : Keep X [83] m m' := Keep.row h.w h.xw (by simp) ho hn
 exact { hX := fun b hb => Nat.lt_of_lt_of_le (h.hX b hb) k.1, x0 := h.x0, names := h.names.stay h.x0 h.next_pos k, xn := h.xn, nodes := h.nodes.stay h.xn (h.hX _ h.xn) k, xw := h.xw
         w := hw, funs := by rw [e1]; exact h.funs.stay k (by decide), caps := by rw [e1]; exact h.caps.stay k (by decide), uses := by rw [e2]; exact h.uses.stay k (by decide), globals := by rw [e3]; exact h.globals.stay k (by decide), gx := h.gx
         gmap := h.gmap.stay k (.inr (by decide)), frames := h.frames.stay k (by decide), means := by rw [e5]; exact h.means.stay k (by decide), decls := by rw [e6]; exact h.decls.stay k (by decide),
         frs := by rw [e4, hn]; exact h.frs.stay k (by decide) (Nat.le_refl _) }
end
end Go.Proofs.YtihokakelnfdgaaDoor

namespace Go.Proofs.YtihokakelnfdgaaDoor
open Go Go.Ev
set_option maxRecDepth 100000
set_option linter.unusedVariables false
set_option linter.unusedSimpArgs false
set_option pp.maxSteps 1500
attribute [local irreducible] quiet allocs effect wp ret wpO Runs Act.tmp Act.eval fin results Tree.set binOp loadAt storeAt target wanted cellsFrom

theorem idx_some : ∀ (l : List Bs) (s : Bs) (i : Nat), l[i]? = some s → (∀ j, j < i → l[j]? ≠ some s) → idx s l = some i
 | [], s, i, h, _ => by simp at h
 | t :: l, s, 0, h, _ => by simp at h; simp [idx, h]
 | t :: l, s, i + 1, h, hj => by
  have h0 := hj 0 (by omega)
  simp only [List.getElem?_cons_zero, ne_eq, Option.some.injEq] at h0
  rw [idx, if_neg h0, idx_some l s i (by simpa using h) (fun j hji => by simpa using hj (j + 1) (by omega))]; rfl
theorem idx_none : ∀ (l : List Bs) (s : Bs), (∀ j, j < l.length → l[j]? ≠ some s) → idx s l = none
 | [], s, _ => rfl
 | t :: l, s, h => by
  have h0 := h 0 (by simp)
  simp only [List.getElem?_cons_zero, ne_eq, Option.some.injEq] at h0
  rw [idx, if_neg h0, idx_none l s (fun j hj => by simpa using h (j + 1) (by simpa using hj))]; rfl

theorem Names.load {m : Mem} (h : Names m) : loadAt evEnv m 104 0 0 = some (.agg ⟨primNames.map encS⟩) := by
 obtain ⟨c, e, h1, h2⟩ := h
 refine load_agg rfl rfl rfl h1 (Nat.le_refl 30) ?_
 exact cellsFrom_list 30 0 (primNames.map encS) (fun i hi => h2 i hi) (Nat.le_refl 30)

/-- what Prim answers. -/
def primV (s : Bs) : Value := .tuple ⟨[I ((primI s).getD 0), .bool (primI s).isSome]⟩
theorem prim21 (s : Bs) (m : Mem) (hN : Names m) : Runs evEnv 21 [encS s] m fun v m' => v = primV s ∧ m' = m := by
 refine runs_start rfl rfl rfl rfl ?_
 (repeat (first | (apply G.h; constructor <;> (first | exact Zc | apply gI | ((repeat' (first | exact Y0 | apply Y1 | ((first | apply Y4 | apply Y5); simp only [evs, Nat.reduceEqDiff, reduceIte] <;> rfl))); done) | (apply Y6; (try simp only [evs]); first | exact hN.load)))))
 refine ewp_loop (ι := Nat) (fun i a => a.n = 16 ∧ a.defers = [] ∧ a.m = m ∧ a.tmp 0 = encS s ∧ a.tmp 6 = .agg ⟨primNames.map encS⟩ ∧ a.tmp 7 = I i ∧ i ≤ 30 ∧ ∀ j, j < i → primNames[j]? ≠ some s) (fun i => 30 - i) 0 ?_ ?_
 ·exact ⟨by (simp only [evs, Nat.reduceEqDiff, reduceIte] <;> first | rfl | (congr 1; omega) | omega), by (simp only [evs, Nat.reduceEqDiff, reduceIte] <;> first | rfl | (congr 1; omega) | omega), by (simp only [evs, Nat.reduceEqDiff, reduceIte] <;> first | rfl | (congr 1; omega) | omega), by (simp only [evs, Nat.reduceEqDiff, reduceIte] <;> first | rfl | (congr 1; omega) | omega), by (simp only [evs, Nat.reduceEqDiff, reduceIte] <;> first | rfl | (congr 1; omega) | omega), by (simp only [evs, Nat.reduceEqDiff, reduceIte] <;> first | rfl | (congr 1; omega) | omega), by omega, fun j hj => by omega⟩
 rintro p a ⟨hn, hd, hm, h0, h6, h7, hp, hj⟩ ih
 rcases Nat.lt_or_ge p 30 with hlt | hge
 ·have hw : primNames[p]? = some primNames[p] := List.getElem?_eq_getElem hlt
  generalize primNames[p] = w at hw
  have hx : (primNames.map encS)[p]? = some (encS w) := by rw [List.getElem?_map, hw]; rfl
  (repeat (first | (apply G.h; constructor <;> (first | exact Zc | apply gI | ((repeat' (first | exact Y0 | apply Y1 | ((first | apply Y4 | apply Y5); simp only [evs, Nat.reduceEqDiff, reduceIte, hn, hd, hm, h0, h6, h7] <;> rfl))); done) | (apply Y6; (try simp only [evs, hn, hd, hm, h0, h6, h7]); first | rfl)))))
  apply g_indexV
  focus exact Rf.mk
  focus (apply Ev.mk; (simp only [evs, Nat.reduceEqDiff, reduceIte, hn, hd, hm, h0, h6, h7] <;> rfl))
  focus (apply Ev.mk; (simp only [evs, Nat.reduceEqDiff, reduceIte, hn, hd, hm, h0, h6, h7] <;> rfl))
  focus exact Om.mk hlt
  focus exact Rf.mk
  focus exact Rf.mk
  focus exact Rf.mk
  focus exact Hy.mk hx
  focus (apply Dn.mk; (simp only [evs, Nat.reduceEqDiff, reduceIte, hn, hd, hm, h0, h6, h7] <;> rfl))
  by_cases hws : w = s
  ·(repeat (first | (apply G.h; constructor <;> (first | exact Zc | apply gI | ((repeat' (first | exact Y0 | apply Y1 | ((first | apply Y4 | apply Y5); simp only [evs, Nat.reduceEqDiff, reduceIte, hn, hd, hm, h0, h6, h7] <;> rfl))); done) | (apply Y6; (try simp only [evs, hn, hd, hm, h0, h6, h7]); first | rfl)))))
   (refine g_fin (by repeat' first | exact Rs.nil | apply Rs.cons | (apply Y4; simp only [evs, Nat.reduceEqDiff, reduceIte, hn, hd, hm, h0, h6, h7] <;> rfl)) (by (simp only [evs, Nat.reduceEqDiff, reduceIte, hn, hd, hm, h0, h6, h7] <;> first | rfl | (congr 1; omega) | omega)) ?_)
   refine ⟨?_, by (simp only [evs, Nat.reduceEqDiff, reduceIte, hm] <;> first | rfl | (congr 1; omega) | omega)⟩
   have : primI s = some p := idx_some _ _ _ (by rw [hw, hws]) hj
   unfold primV
   rw [this]; rfl
  ·(repeat (first | (apply G.h; constructor <;> (first | exact Zc | apply gI | ((repeat' (first | exact Y0 | apply Y1 | ((first | apply Y4 | apply Y5); simp only [evs, Nat.reduceEqDiff, reduceIte, hn, hd, hm, h0, h6, h7] <;> rfl))); done) | (apply Y6; (try simp only [evs, hn, hd, hm, h0, h6, h7]); first | rfl)))))
   refine ih (p + 1) _ ?_ (by omega)
   refine ⟨by (simp only [evs, Nat.reduceEqDiff, reduceIte, hn] <;> first | rfl | (congr 1; omega) | omega), by (simp only [evs, Nat.reduceEqDiff, reduceIte, hd] <;> first | rfl | (congr 1; omega) | omega), by (simp only [evs, Nat.reduceEqDiff, reduceIte, hm] <;> first | rfl | (congr 1; omega) | omega), by (simp only [evs, Nat.reduceEqDiff, reduceIte, h0] <;> first | rfl | (congr 1; omega) | omega), by (simp only [evs, Nat.reduceEqDiff, reduceIte, h6] <;> first | rfl | (congr 1; omega) | omega), by (simp only [evs, Nat.reduceEqDiff, reduceIte, h7] <;> first | rfl | (congr 1; omega) | omega), hlt, fun j hjp => ?_⟩
   rcases Nat.lt_or_ge j p with h | h
   ·exact hj j h
   ·obtain rfl : j = p := by omega
    rw [hw]
    intro he
    exact hws (Option.some.inj he)
 ·(repeat (first | (apply G.h; constructor <;> (first | exact Zc | apply gI | ((repeat' (first | exact Y0 | apply Y1 | ((first | apply Y4 | apply Y5); simp only [evs, Nat.reduceEqDiff, reduceIte, hn, hd, hm, h0, h6, h7] <;> rfl))); done) | (apply Y6; (try simp only [evs, hn, hd, hm, h0, h6, h7]); first | rfl)))))
  (refine g_fin (by repeat' first | exact Rs.nil | apply Rs.cons | (apply Y4; simp only [evs, Nat.reduceEqDiff, reduceIte, hn, hd, hm, h0, h6, h7] <;> rfl)) (by (simp only [evs, Nat.reduceEqDiff, reduceIte, hn, hd, hm, h0, h6, h7] <;> first | rfl | (congr 1; omega) | omega)) ?_)
  refine ⟨?_, by (simp only [evs, Nat.reduceEqDiff, reduceIte, hm] <;> first | rfl | (congr 1; omega) | omega)⟩
  have : primI s = none := idx_none _ _ (fun j hjl => hj j (by have : j < 30 := hjl; omega))
  unfold primV
  rw [this]; rfl
end Go.Proofs.YtihokakelnfdgaaDoor

namespace Go.Proofs.YtihokakelnfdgaaDoor
open Go Go.Ev
set_option maxRecDepth 100000
set_option linter.unusedVariables false
set_option linter.unusedSimpArgs false
set_option pp.maxSteps 1500
attribute [local irreducible] quiet allocs effect wp ret wpO Runs Act.tmp Act.eval fin results Tree.set binOp loadAt storeAt target wanted cellsFrom

section
variable {X : Nat → Prop} {A : Args} {wb : Nat} {S : MS} {fB dB : List Nat} {V : Vs} {m : Mem}

theorem fail90 (h : Rep X A m wb S fB dB V) (e : Nat) (x : Nd) :
  Runs evEnv 90 [ptr wb, I e, .agg ⟨x.val⟩] m fun v m' => Rep X A m' wb (S.fail e x.pos) fB dB V ∧ Keep X [83] m m' := by
 refine runs_start rfl rfl rfl rfl ?_
 have hw := h.w
 have hb := row_new m x.val 43 0
 have h1 := h.grow ((Grow.refl m).new (rowObj x.val 43 0))
 have hw1 := h1.w
 by_cases he : S.e = 0
 ·rw [he] at hw1
  (repeat (first | apply wpN_cons | apply g_next | (apply G.h; constructor <;> (first | exact Zc | apply gI | ((repeat' (first | exact Y0 | apply Y1 | ((first | apply Y4 | apply Y5); simp only [evs, Nat.reduceEqDiff, reduceIte] <;> rfl))); done) | (apply Y6; (try simp only [evs]); first | exact hw1.load1 rfl rfl rfl)))))
  (apply g_regionN [0, 1, 2, 3, 4, 5, 6, 7, 8, 9, 10] [(1, 10), (3, 10), (4, 10)]; (focus exact Kr.mk (by kernel_rfl)); (focus exact Rf.mk))
  (repeat (first | apply wpN_cons | apply g_next | (apply G.h; constructor <;> (first | exact Zc | apply gI | ((repeat' (first | exact Y0 | apply Y1 | ((first | apply Y4 | apply Y5); simp only [evs, Nat.reduceEqDiff, reduceIte] <;> rfl))); done) | (apply Y6; (try simp only [evs]); first | exact hb.load1 rfl rfl rfl)))))
  (apply g_stR <;> (first | exact Zc | apply gI | ((repeat' (first | exact Y0 | apply Y1 | exact Y2 | apply Y3 | ((first | apply Y4 | apply Y5); simp only [evs, Nat.reduceEqDiff, reduceIte] <;> rfl))); done) | (apply Hy.mk; (try simp only [evs]); first | exact hw1 | assumption) | (apply Om.mk; first | exact hw1) | (apply Y6; (try simp only [evs]); first | rfl) | apply Cn.mk))
  intro m2 r2 o2 n2; simp only [evs] at r2 o2 n2
  have k2 : Keep X [83] (m.new (rowObj x.val 43 0)) m2 := Keep.row hw1 h.xw (by simp) o2 n2
  have hb2 := hb.stay k2 (.inr (by decide))
  (repeat (first | apply wpN_cons | apply g_next | (apply G.h; constructor <;> (first | exact Zc | apply gI | ((repeat' (first | exact Y0 | apply Y1 | ((first | apply Y4 | apply Y5); simp only [evs, Nat.reduceEqDiff, reduceIte] <;> rfl))); done) | (apply Y6; (try simp only [evs]); first | rfl)))))
  (apply g_stR <;> (first | exact Zc | apply gI | ((repeat' (first | exact Y0 | apply Y1 | exact Y2 | apply Y3 | ((first | apply Y4 | apply Y5); simp only [evs, Nat.reduceEqDiff, reduceIte] <;> rfl))); done) | (apply Hy.mk; (try simp only [evs]); first | exact r2 | assumption) | (apply Om.mk; first | exact r2) | (apply Y6; (try simp only [evs]); first | rfl) | apply Cn.mk))
  intro m3 r3 o3 n3; simp only [evs] at r3 o3 n3
  (repeat (first | apply wpN_cons | apply g_next | (apply G.h; constructor <;> (first | exact Zc | apply gI | ((repeat' (first | exact Y0 | apply Y1 | ((first | apply Y4 | apply Y5); simp only [evs, Nat.reduceEqDiff, reduceIte] <;> rfl))); done) | (apply Y6; (try simp only [evs]); first | rfl)))))
  refine g_last (.mk ⟨.mk ?_, .mk ?_, .mk ?_, trivial⟩) ?_
  ·(apply again_of; exact Rf.mk; exact Rf.mk; (apply Ev.mk; (simp only [evs, Nat.reduceEqDiff, reduceIte] <;> rfl)); exact Rf.mk; (repeat (first | apply wpN_cons | apply g_next | (apply G.h; constructor <;> (first | exact Zc | apply gI | ((repeat' (first | exact Y0 | apply Y1 | ((first | apply Y4 | apply Y5); simp only [evs, Nat.reduceEqDiff, reduceIte] <;> rfl))); done) | (apply Y6; (try simp only [evs]); first | rfl))))); refine eret_nil ?_; (simp only [evs, Nat.reduceEqDiff, reduceIte] <;> rfl))
  ·(apply again_of; exact Rf.mk; exact Rf.mk; (apply Ev.mk; (simp only [evs, Nat.reduceEqDiff, reduceIte] <;> rfl)); exact Rf.mk; (repeat (first | apply wpN_cons | apply g_next | (apply G.h; constructor <;> (first | exact Zc | apply gI | ((repeat' (first | exact Y0 | apply Y1 | ((first | apply Y4 | apply Y5); simp only [evs, Nat.reduceEqDiff, reduceIte] <;> rfl))); done) | (apply Y6; (try simp only [evs]); first | rfl))))); refine eret_nil ?_; (simp only [evs, Nat.reduceEqDiff, reduceIte] <;> rfl))
  ·(apply again_of; exact Rf.mk; exact Rf.mk; (apply Ev.mk; (simp only [evs, Nat.reduceEqDiff, reduceIte] <;> rfl)); exact Rf.mk; (repeat (first | apply wpN_cons | apply g_next | (apply G.h; constructor <;> (first | exact Zc | apply gI | ((repeat' (first | exact Y0 | apply Y1 | ((first | apply Y4 | apply Y5); simp only [evs, Nat.reduceEqDiff, reduceIte] <;> rfl))); done) | (apply Y6; (try simp only [evs]); first | exact hb2.load1 rfl rfl rfl))))); refine eret_nil ?_; (simp only [evs, Nat.reduceEqDiff, reduceIte] <;> rfl))
  (repeat (first | apply wpN_cons | apply g_next | (apply G.h; constructor <;> (first | exact Zc | apply gI | ((repeat' (first | exact Y0 | apply Y1 | ((first | apply Y4 | apply Y5); simp only [evs, Nat.reduceEqDiff, reduceIte] <;> rfl))); done) | (apply Y6; (try simp only [evs]); first | rfl)))))
  (refine g_finN (by first | exact Rs.nil | skip) (by (simp only [evs, Nat.reduceEqDiff, reduceIte] <;> first | rfl | (congr 1; omega) | omega)) ?_)
  have hS : S.fail e x.pos = { S with e := e, place := x.pos } := by unfold MS.fail; rw [if_pos he]
  rw [hS]
  have k3 : Keep X [83] m2 m3 := Keep.row r2 h.xw (by simp) o3 n3
  refine ⟨?_, ?_⟩
  ·simp only [evs]
   exact h1.wrote (fun x hx => (o3 x hx).trans (o2 x hx)) (n3.trans n2) r3 rfl rfl rfl rfl rfl rfl
  ·simp only [evs]
   exact ((Keep.new _).trans k2).trans k3
 ·(repeat (first | apply wpN_cons | apply g_next | (apply G.h; constructor <;> (first | exact Zc | apply gI | ((repeat' (first | exact Y0 | apply Y1 | ((first | apply Y4 | apply Y5); simp only [evs, Nat.reduceEqDiff, reduceIte] <;> rfl))); done) | (apply Y6; (try simp only [evs]); first | exact hw1.load1 rfl rfl rfl)))))
  (refine g_finN (by first | exact Rs.nil | skip) (by (simp only [evs, Nat.reduceEqDiff, reduceIte] <;> first | rfl | (congr 1; omega) | omega)) ?_)
  have hS : S.fail e x.pos = S := by unfold MS.fail; rw [if_neg he]
  rw [hS]
  exact ⟨by simp only [evs]; exact h1, by simp only [evs]; exact Keep.new _⟩

theorem top74 (h : Rep X A m wb S fB dB V) {b : Nat} {bs : List Nat} (hf : fB = b :: bs) (hs : fB.length ≤ 1000000) :
  Runs evEnv 74 [ptr wb] m fun v m' => v = ptr b ∧ m' = m := by
 have hfr := h.frames
 rw [hf, List.reverse_cons, List.map_append, List.map_cons, List.map_nil] at hfr
 obtain ⟨fb, cap, r, e1, e2, e3, e4, e5, e6, -⟩ := hfr.last
 have hw := h.w
 rw [e1] at hw
 have hn : (bs.reverse.map ptr).length ≤ 1000000 := by rw [hf] at hs; simp at hs ⊢; omega
 generalize (bs.reverse.map ptr).length = n at e4 e6 hw hn
 have e7 : r[0 + (n + 1 - 1) * 1]? = some (ptr b) := by rw [show 0 + (n + 1 - 1) * 1 = n by omega]; exact e6
 refine runs_start rfl rfl rfl rfl ?_
 (repeat (first | apply wpN_cons | apply g_next | (apply G.h; constructor <;> (first | exact Zc | apply gI | ((repeat' (first | exact Y0 | apply Y1 | ((first | apply Y4 | apply Y5); simp only [evs, Nat.reduceEqDiff, reduceIte] <;> rfl))); done) | (apply Y6; (try simp only [evs]); first | exact e3.load1 rfl rfl e7 | exact hw.load1 rfl rfl rfl)))))
 (refine g_fin (by repeat' first | exact Rs.nil | apply Rs.cons | (apply Y4; simp only [evs, Nat.reduceEqDiff, reduceIte] <;> rfl)) (by (simp only [evs, Nat.reduceEqDiff, reduceIte] <;> first | rfl | (congr 1; omega) | omega)) ?_)
 exact ⟨rfl, by (simp only [evs, Nat.reduceEqDiff, reduceIte] <;> first | rfl | (congr 1; omega) | omega)⟩
end
end Go.Proofs.YtihokakelnfdgaaDoor

namespace Go.Proofs.YtihokakelnfdgaaDoor
set_option linter.unusedSimpArgs false
open Go Go.Ev
set_option linter.unusedVariables false

section
variable {X X' : Nat → Prop} {T : List Nat} {m m' : Mem} {A : Args} {wb : Nat} {S : MS} {fB dB : List Nat} {V : Vs}

/-! More that is kept apart. -/
theorem ScsR.sub {lo hi : Nat} (hx : ∀ b, b < m.next → ¬ X b → ¬ X' b) : ∀ {bs : List Nat} {scs : List (List (Bs × Nat))}, ScsR X m dB lo hi bs scs → ScsR X' m dB lo hi bs scs
 | [], [], _ => trivial
 | b :: bs, sc :: scs, ⟨⟨h1, h2, h3, h4⟩, h⟩ => ⟨⟨h1, h2, hx b h4.1 h3, h4⟩, h.sub hx⟩
theorem FrR.sub {lo hi b cb : Nat} {f : Fr} {sv : Value} {sb : List Nat} (h : FrR X m dB lo hi b f sv sb cb) (hx : ∀ b, b < m.next → ¬ X b → ¬ X' b) : FrR X' m dB lo hi b f sv sb cb :=
 { h with bx := hx b h.row.1 h.bx, sl := h.sl.sub hx, scs := h.scs.sub hx, cx := hx cb h.cmap.1 h.cx }
theorem FrsR.sub {lo : Nat} (hx : ∀ b, b < m.next → ¬ X b → ¬ X' b) : ∀ {hi : Nat} {bs : List Nat} {fs : List Fr}, FrsR X m dB lo hi bs fs → FrsR X' m dB lo hi bs fs
 | hi, [], [], h => h
 | hi, b :: bs, f :: fs, ⟨mid, sv, sb, cb, h1, h2⟩ => ⟨mid, sv, sb, cb, h1.sub hx, h2.sub hx⟩
theorem Rep.sub (h : Rep X A m wb S fB dB V) (hx : ∀ b, b < m.next → ¬ X b → ¬ X' b) (hX : ∀ b, X' b → b < m.next) (h0 : X' 0) (hn : X' A.nb) : Rep X' A m wb S fB dB V :=
 { hX := hX, x0 := h0, names := h.names, xn := hn, nodes := h.nodes, xw := hx _ h.w.1 h.xw, w := h.w, funs := h.funs.sub hx, caps := ⟨h.caps.1, fun i cv f h1 h2 => (h.caps.2.1 i cv f h1 h2).sub hx, h.caps.2.2⟩,
   uses := h.uses.sub hx, globals := h.globals.sub hx, gx := hx _ h.gmap.1 h.gx, gmap := h.gmap, frames := h.frames.sub hx, means := h.means.sub hx,
   decls := ⟨h.decls.1, h.decls.2.1, fun i b d hb hd => ⟨hx b (h.decls.2.2 i b d hb hd).2.1 (h.decls.2.2 i b d hb hd).1, (h.decls.2.2 i b d hb hd).2⟩⟩, frs := h.frs.sub hx }

/-- X, and one block more. -/
def plus (X : Nat → Prop) (k : Nat) (b : Nat) : Prop := X b ∨ b = k
/-- a new block is kept apart. -/
theorem Rep.more (h : Rep X A m wb S fB dB V) (g : Grow m m') {k : Nat} (h1 : m.next ≤ k) (h2 : k < m'.next) : Rep (plus X k) A m' wb S fB dB V := by
 have hx : ∀ b, b < m.next → ¬ X b → ¬ plus X k b := fun b hb hn q => q.elim hn fun q => by omega
 have kk : Keep (plus X k) [] m m' := Keep.grow g
 have kx : Keep X [] m m' := Keep.grow g
 exact { hX := fun b hb => hb.elim (fun hb => Nat.lt_of_lt_of_le (h.hX b hb) g.1) (fun hb => by rw [hb]; exact h2), x0 := .inl h.x0, names := h.names.stay h.x0 h.next_pos kx, xn := .inl h.xn, nodes := h.nodes.stay h.xn (h.hX _ h.xn) kx
         xw := hx _ h.w.1 h.xw, w := h.w.grow g, funs := (h.funs.sub hx).grow g, caps := CapsR.stay ⟨h.caps.1, fun i cv f e1 e2 => (h.caps.2.1 i cv f e1 e2).sub hx, h.caps.2.2⟩ kk (by simp), uses := (h.uses.sub hx).grow g, globals := (h.globals.sub hx).grow g
         gx := hx _ h.gmap.1 h.gx, gmap := h.gmap.stay kk (.inr (by simp)), frames := (h.frames.sub hx).grow g, means := (h.means.sub hx).grow g
         decls := DcsR.stay ⟨h.decls.1, h.decls.2.1, fun i b d hb hd => ⟨hx b (h.decls.2.2 i b d hb hd).2.1 (h.decls.2.2 i b d hb hd).1, (h.decls.2.2 i b d hb hd).2⟩⟩ kk (by simp)
         frs := (h.frs.sub hx).stay kk (by simp) g.1 }
theorem Rep.less {k : Nat} (h : Rep (plus X k) A m wb S fB dB V) (h0 : X 0) (hn : X A.nb) : Rep X A m wb S fB dB V :=
 h.sub (fun b _ hb q => hb (.inl q)) (fun b hb => h.hX b (.inl hb)) h0 hn

/-- all that may turn, part by part. -/
theorem Rep.turn {S' : MS} {fB' dB' : List Nat} {V' : Vs} (h : Rep X A m wb S fB dB V) (k : Keep X T m m')
  (hw : Row m' wb [.slice (some ⟨A.nb, A.off, none⟩) A.l.length A.cap, I S'.pc, V'.fv, V'.uv, V'.gv, .map (some V'.gb), V'.frv, V'.mv, I S'.e, I S'.place] 83 0)
  (hfuns : Sl X m' V'.fv 49 4 (encFns V'.cvs S'.funs)) (hcaps : CapsR X m' V'.cvs S'.funs) (huses : Sl X m' V'.uv 57 2 (encPs S'.uses)) (hglobals : Sl X m' V'.gv 9 1 (S'.globals.map encS))
  (hgb : V'.gb = V.gb) (hg : m'.get V.gb = m.get V.gb) (hframes : Sl X m' V'.frv 84 1 (fB'.reverse.map ptr)) (hmeans : Sl X m' V'.mv 90 1 (S'.means.map (optPtr dB'))) (hdecls : DcsR X m' dB' S'.decls)
  (hfrs : FrsR X m' dB' (V'.gb + 1) m'.next fB' S'.frames) : Rep X A m' wb S' fB' dB' V' :=
 { hX := fun b hb => Nat.lt_of_lt_of_le (h.hX b hb) k.1, x0 := h.x0, names := h.names.stay h.x0 h.next_pos k, xn := h.xn, nodes := h.nodes.stay h.xn (h.hX _ h.xn) k, xw := h.xw
   w := hw, funs := hfuns, caps := hcaps, uses := huses, globals := hglobals, gx := by rw [hgb]; exact h.gx, gmap := by rw [hgb]; exact h.gmap.keep k.1 hg, frames := hframes, means := hmeans, decls := hdecls, frs := hfrs }

/-! The frames turn. -/
theorem ScsR.below {lo hi : Nat} (hg : ∀ c, c < hi → m'.get c = m.get c) (hn : m.next ≤ m'.next) : ∀ {bs : List Nat} {scs : List (List (Bs × Nat))}, ScsR X m dB lo hi bs scs → ScsR X m' dB lo hi bs scs
 | [], [], _ => trivial
 | b :: bs, sc :: scs, ⟨⟨h1, h2, h3, h4⟩, h⟩ => ⟨⟨h1, h2, h3, h4.keep hn (hg b h2)⟩, h.below hg hn⟩
theorem FrR.below {lo hi b cb : Nat} {f : Fr} {sv : Value} {sb : List Nat} (h : FrR X m dB lo hi b f sv sb cb) (hg : ∀ c, c < hi → m'.get c = m.get c) (hn : m.next ≤ m'.next) : FrR X m' dB lo hi b f sv sb cb :=
 { h with row := h.row.keep hn (hg b h.bhi), sl := h.sl.keep hn fun c n k hv => hg c (h.slb c n k hv).2, scs := h.scs.below hg hn, cmap := h.cmap.keep hn (hg cb h.chi) }
theorem FrsR.below {lo : Nat} (hn : m.next ≤ m'.next) : ∀ {hi : Nat} {bs : List Nat} {fs : List Fr}, (∀ c, c < hi → m'.get c = m.get c) → FrsR X m dB lo hi bs fs → FrsR X m' dB lo hi bs fs
 | hi, [], [], _, h => h
 | hi, b :: bs, f :: fs, hg, ⟨mid, sv, sb, cb, h1, h2⟩ => ⟨mid, sv, sb, cb, h1.below hg hn, h2.below hn fun c hc => hg c (Nat.lt_trans (Nat.lt_of_lt_of_le hc h1.blo) h1.bhi)⟩
theorem Rep.with_frames (h : Rep X A m wb S fB dB V) (k : Keep X T m m') (ht : ∀ t ∈ [83, 49, 59, 57, 9, 84, 90, 92], t ∉ T) (hg : m'.get V.gb = m.get V.gb) {fr : List Fr} (hfr : FrsR X m' dB (V.gb + 1) m'.next fB fr) : Rep X A m' wb { S with frames := fr } fB dB V :=
 { hX := fun b hb => Nat.lt_of_lt_of_le (h.hX b hb) k.1, x0 := h.x0, names := h.names.stay h.x0 h.next_pos k, xn := h.xn, nodes := h.nodes.stay h.xn (h.hX _ h.xn) k, xw := h.xw
   w := h.w.stay k (.inr (ht _ (by simp))), funs := h.funs.stay k (ht _ (by simp)), caps := h.caps.stay k (ht _ (by simp)), uses := h.uses.stay k (ht _ (by simp)), globals := h.globals.stay k (ht _ (by simp)), gx := h.gx
   gmap := h.gmap.keep k.1 hg, frames := h.frames.stay k (ht _ (by simp)), means := h.means.stay k (ht _ (by simp)), decls := h.decls.stay k (ht _ (by simp)), frs := hfr }
theorem Rep.top_ (h : Rep X A m wb S fB dB V) {b : Nat} {bs : List Nat} {f : Fr} {fs : List Fr} (hb : fB = b :: bs) (hf : S.frames = f :: fs) : ∃ mid sv sb cb, FrR X m dB mid m.next b f sv sb cb ∧ FrsR X m dB (V.gb + 1) mid bs fs := by
 have := h.frs
 rw [hb, hf] at this
 exact this
theorem FrsR.le {lo : Nat} : ∀ {hi : Nat} {bs : List Nat} {fs : List Fr}, FrsR X m dB lo hi bs fs → lo ≤ hi
 | hi, [], [], h => h
 | hi, b :: bs, f :: fs, ⟨mid, sv, sb, cb, h1, h2⟩ => Nat.le_of_lt (Nat.lt_of_le_of_lt (Nat.le_trans h2.le h1.blo) h1.bhi)
end
end Go.Proofs.YtihokakelnfdgaaDoor

namespace Go.Proofs.YtihokakelnfdgaaDoor
open Go Go.Ev
set_option maxRecDepth 100000
set_option linter.unusedVariables false
set_option linter.unusedSimpArgs false
set_option pp.maxSteps 1500
attribute [local irreducible] quiet allocs effect wp ret wpO Runs Act.tmp Act.eval fin results Tree.set binOp loadAt storeAt target wanted cellsFrom

section
variable {X : Nat → Prop} {A : Args} {wb : Nat} {S : MS} {fB dB : List Nat} {V : Vs} {m : Mem}

theorem ScsR.len {lo hi : Nat} : ∀ {bs : List Nat} {scs : List (List (Bs × Nat))}, ScsR X m dB lo hi bs scs → bs.length = scs.length
 | [], [], _ => rfl
 | b :: bs, sc :: scs, ⟨_, h⟩ => by rw [List.length_cons, List.length_cons, h.len]

theorem ScsR.lt {lo hi : Nat} : ∀ {bs : List Nat} {scs : List (List (Bs × Nat))}, ScsR X m dB lo hi bs scs → ∀ x ∈ bs, lo ≤ x ∧ x < hi
 | [], [], _, x, hx => by cases hx
 | b :: bs, sc :: scs, ⟨⟨h1, h2, _⟩, h⟩, x, hx => by
  rcases List.mem_cons.1 hx with rfl | hx
  ·exact ⟨h1, h2⟩
  ·exact h.lt x hx

theorem enter76 (h : Rep X A m wb S fB dB V) {b : Nat} {bs : List Nat} {f : Fr} {fs : List Fr} (hf : fB = b :: bs) (hS : S.frames = f :: fs) (hs : fB.length ≤ 1000000) (hsc : f.scopes.length ≤ 100000) :
  Runs evEnv 76 [ptr wb] m fun v m' => ∃ k, v = .func (.func 94) #[] #[ptr k] ∧ m.next ≤ k ∧ Row m' k [ptr b] 84 0 ∧ Rep (plus X k) A m' wb S.enter fB dB V ∧ Keep X [137, 88] m m' := by
 refine runs_start rfl rfl rfl rfl ?_
 (repeat (first | apply wpN_cons | apply g_next | (apply G.h; constructor <;> (first | exact Zc | apply gI | ((repeat' (first | exact Y0 | apply Y1 | ((first | apply Y4 | apply Y5); simp only [evs, Nat.reduceEqDiff, reduceIte] <;> rfl))); done) | (apply Y6; (try simp only [evs]); first | rfl)))))
 ((first | apply g_run | apply g_run0) <;> (first | ((repeat' (first | exact Y0 | apply Y1 | exact Y2 | apply Y3 | ((first | apply Y4 | apply Y5); simp only [evs, Nat.reduceEqDiff, reduceIte] <;> rfl))); done) | exact Rn.mk (top74 (by simp only [evs]; exact h) hf hs) | apply Cn.mk))
 rintro v m1 ⟨rfl, rfl⟩
 have hb := row_new m [.pointer none] 84 0
 (repeat (first | apply wpN_cons | apply g_next | (apply G.h; constructor <;> (first | exact Zc | apply gI | ((repeat' (first | exact Y0 | apply Y1 | ((first | apply Y4 | apply Y5); simp only [evs, Nat.reduceEqDiff, reduceIte] <;> rfl))); done) | (apply Y6; (try simp only [evs]); first | rfl)))))
 (apply g_stR <;> (first | exact Zc | apply gI | ((repeat' (first | exact Y0 | apply Y1 | exact Y2 | apply Y3 | ((first | apply Y4 | apply Y5); simp only [evs, Nat.reduceEqDiff, reduceIte] <;> rfl))); done) | (apply Hy.mk; (try simp only [evs]); first | exact hb | assumption) | (apply Om.mk; first | exact hb) | (apply Y6; (try simp only [evs]); first | rfl) | apply Cn.mk))
 intro m2 r2 o2 n2; simp only [evs] at r2 o2 n2
 have g2 : Grow m m2 := ((Grow.refl m).new _).wrote (Nat.le_refl _) o2 n2
 have h2 := h.more g2 (Nat.le_refl _) (by omega)
 obtain ⟨mid, sv, sb, cb, F, L⟩ := h2.top_ hf hS
 have hlen := F.scs.len
 have hml : (sb.reverse.map fun b => Value.map (some b)).length ≤ 100000 := by simp; omega
 (repeat (first | apply wpN_cons | apply g_next | (apply G.h; constructor <;> (first | exact Zc | apply gI | ((repeat' (first | exact Y0 | apply Y1 | ((first | apply Y4 | apply Y5); simp only [evs, Nat.reduceEqDiff, reduceIte] <;> rfl))); done) | (apply Y6; (try simp only [evs]); first | rfl)))))
 (apply g_regionN [0, 1, 2, 3, 4, 5, 6, 7, 8, 9, 10] [(0, 10)]; (focus exact Kr.mk (by kernel_rfl)); (focus exact Rf.mk))
 have fr := F.row
 (repeat (first | apply wpN_cons | apply g_next | (apply G.h; constructor <;> (first | exact Zc | apply gI | ((repeat' (first | exact Y0 | apply Y1 | ((first | apply Y4 | apply Y5); simp only [evs, Nat.reduceEqDiff, reduceIte] <;> rfl))); done) | (apply Y6; (try simp only [evs]); first | exact r2.load1 rfl rfl rfl | exact fr.load1 rfl rfl rfl)))))
 have gg : Grow m2 ((m2.new (.map [])).new (rowObj [Value.map (some m2.next)] 137 0)) := ((Grow.refl m2).new _).new _
 have s1 := F.sl.grow gg
 have hx1 : ∀ c, plus X m.next c → c < ((m2.new (.map [])).new (rowObj [Value.map (some m2.next)] 137 0)).next := fun c hc => Nat.lt_of_lt_of_le (h2.hX c hc) gg.1
 have hin : effect.cellsIn ((m2.new (.map [])).new (rowObj [Value.map (some m2.next)] 137 0)) 1 (.slice (some ⟨m2.next + 1, 0, none⟩) 1 1) = some (1, [Value.map (some m2.next)]) := cellsIn_row (kc := 1) (new := [Value.map (some m2.next)]) (row_new (m2.new (.map [])) [Value.map (some m2.next)] 137 0) (Nat.le_refl 1) rfl
 (apply g_app <;> (first | exact Zc | apply gI | ((repeat' (first | exact Y0 | apply Y1 | exact Y2 | apply Y3 | ((first | apply Y4 | apply Y5); simp only [evs, Nat.reduceEqDiff, reduceIte] <;> rfl))); done) | (apply Hy.mk; (try simp only [evs]); first | exact hin | exact s1 | exact hx1 | assumption) | (apply Om.mk; first | exact hin | exact s1 | exact hx1) | (apply Y6; (try simp only [evs]); first | rfl) | apply Cn.mk))
 intro v' m3 s3 k3 o3 b3 f3
 obtain ⟨c3, j3, q3, rfl, hc3⟩ := f3
 simp only [evs] at k3 o3 b3
 replace k3 : Keep (plus X m.next) [137] ((m2.new (.map [])).new (rowObj [Value.map (some m2.next)] 137 0)) m3 := k3
 have fr3 := (fr.grow gg).stay k3 (.inr (by decide))
 have rb3 := (r2.grow gg).stay k3 (.inl (.inr rfl))
 (repeat (first | apply wpN_cons | apply g_next | (apply G.h; constructor <;> (first | exact Zc | apply gI | ((repeat' (first | exact Y0 | apply Y1 | ((first | apply Y4 | apply Y5); simp only [evs, Nat.reduceEqDiff, reduceIte] <;> rfl))); done) | (apply Y6; (try simp only [evs]); first | rfl)))))
 (apply g_stR <;> (first | exact Zc | apply gI | ((repeat' (first | exact Y0 | apply Y1 | exact Y2 | apply Y3 | ((first | apply Y4 | apply Y5); simp only [evs, Nat.reduceEqDiff, reduceIte] <;> rfl))); done) | (apply Hy.mk; (try simp only [evs]); first | exact fr3 | assumption) | (apply Om.mk; first | exact fr3) | (apply Y6; (try simp only [evs]); first | rfl) | apply Cn.mk))
 intro m4 r4 o4 n4; simp only [evs] at r4 o4 n4
 (repeat (first | apply wpN_cons | apply g_next | (apply G.h; constructor <;> (first | exact Zc | apply gI | ((repeat' (first | exact Y0 | apply Y1 | ((first | apply Y4 | apply Y5); simp only [evs, Nat.reduceEqDiff, reduceIte] <;> rfl))); done) | (apply Y6; (try simp only [evs]); first | rfl)))))
 refine g_last (.mk ⟨.mk ?_, trivial⟩) ?_
 ·(apply again_of; exact Rf.mk; exact Rf.mk; (apply Ev.mk; (simp only [evs, Nat.reduceEqDiff, reduceIte] <;> rfl)); exact Rf.mk; (repeat (first | apply wpN_cons | apply g_next | (apply G.h; constructor <;> (first | exact Zc | apply gI | ((repeat' (first | exact Y0 | apply Y1 | ((first | apply Y4 | apply Y5); simp only [evs, Nat.reduceEqDiff, reduceIte] <;> rfl))); done) | (apply Y6; (try simp only [evs]); first | exact rb3.load1 rfl rfl rfl))))); refine eret_nil ?_; (simp only [evs, Nat.reduceEqDiff, reduceIte] <;> rfl))
 (repeat (first | apply wpN_cons | apply g_next | (apply G.h; constructor <;> (first | exact Zc | apply gI | ((repeat' (first | exact Y0 | apply Y1 | ((first | apply Y4 | apply Y5); simp only [evs, Nat.reduceEqDiff, reduceIte] <;> rfl))); done) | (apply Y6; (try simp only [evs]); first | rfl)))))
 (apply g_makeFunc <;> (first | exact Zc | apply gI | ((repeat' (first | exact Y0 | apply Y1 | exact Y2 | apply Y3 | ((first | apply Y4 | apply Y5); simp only [evs, Nat.reduceEqDiff, reduceIte] <;> rfl))); done) | (apply Hy.mk; (try simp only [evs]); first | fail | assumption) | (apply Om.mk; first | fail) | (apply Y6; (try simp only [evs]); first | rfl) | apply Cn.mk))
 (repeat (first | apply wpN_cons | apply g_next | (apply G.h; constructor <;> (first | exact Zc | apply gI | ((repeat' (first | exact Y0 | apply Y1 | ((first | apply Y4 | apply Y5); simp only [evs, Nat.reduceEqDiff, reduceIte] <;> rfl))); done) | (apply Y6; (try simp only [evs]); first | rfl)))))
 (refine g_fin (by repeat' first | exact Rs.nil | apply Rs.cons | (apply Y4; simp only [evs, Nat.reduceEqDiff, reduceIte] <;> rfl)) (by (simp only [evs, Nat.reduceEqDiff, reduceIte] <;> first | rfl | (congr 1; omega) | omega)) ?_)
 simp only [evs]
 have k4 : Keep (plus X m.next) [137, 88] m3 m4 := Keep.row fr3 F.bx (by decide) o4 n4
 have k24 : Keep (plus X m.next) [137, 88] m2 m4 := ((Keep.grow gg).trans (k3.mono (by decide))).trans k4
 refine ⟨m.next, rfl, Nat.le_refl _, (r2.stay k24 (.inl (.inr rfl))), ?_, ?_⟩
 ·have hE : S.enter = { S with frames := { f with scopes := [] :: f.scopes } :: fs } := by unfold MS.enter MS.top; rw [hS]; rfl
  have hb1 := F.blo
  have hb2 := F.bhi
  have hgb := L.le
  have hlow : ∀ c, c < mid → m4.get c = m2.get c := fun c hc =>
   (o4 c (by omega)).trans ((o3 c (Nat.lt_of_lt_of_le (show c < m2.next by omega) gg.1) (fun n k hv => by have := (F.slb c n k hv).1; omega)).trans (gg.2 c (by omega)))
  have hn3 : m2.next + 2 ≤ m3.next := k3.1
  have hn4 : m2.next < m4.next := by omega
  have kb : Keep (plus X m.next) [88] m3 m4 := Keep.row fr3 F.bx (by decide) o4 n4
  rw [hE]
  refine h2.with_frames k24 (by decide) (hlow _ (by omega)) ?_
  rw [hf]
  refine ⟨mid, .slice (some ⟨c3, 0, none⟩) j3 q3, m2.next :: sb, cb, ⟨F.blo, by omega, F.bx, r4, ?_, ?_, ⟨⟨by omega, hn4, fun q => Nat.lt_irrefl _ (h2.hX _ q), ?_⟩, F.scs.stay k24 (by decide) (by omega)⟩, F.clo, by have := F.chi; omega, F.cx, F.cmap.stay k24 (.inr (by decide)), ?_⟩, L.below k24.1 hlow⟩
  ·have := s3.stay kb (by decide)
   rw [List.reverse_cons, List.map_append]
   exact this
  ·intro c n k hv
   rcases b3 c n k hv with ⟨n', c', hh⟩ | hh
   ·have := F.slb c n' c' hh; omega
   ·subst hh
    cases hv
    have : m2.next + 1 + 1 < m3.next := hc3
    have e : ((m2.new (.map [])).new (rowObj [Value.map (some m2.next)] 137 0)).next = m2.next + 1 + 1 := rfl
    omega
  ·have z1 : Mp (m2.new (.map [])) m2.next [] := mp_new m2
   have z2 : Mp ((m2.new (.map [])).new (rowObj [Value.map (some m2.next)] 137 0)) m2.next [] := z1.stay (X := X) (T := []) (Keep.new _) (.inr (by simp))
   exact (z2.stay k3 (.inr (by decide))).stay k4 (.inr (by decide))
  ·have hl := F.scs.lt
   have hnd := F.nodup
   have := F.chi
   simp only [List.nodup_cons, List.mem_cons, not_or] at hnd ⊢
   exact ⟨⟨by omega, hnd.1⟩, fun hm => by have := (hl _ hm).2; omega, hnd.2⟩
 ·exact (Keep.grow g2).trans (k24.sub fun b hb => .inl hb)
end
end Go.Proofs.YtihokakelnfdgaaDoor

namespace Go.Proofs.YtihokakelnfdgaaDoor
open Go Go.Ev
set_option maxRecDepth 100000
set_option linter.unusedVariables false
set_option linter.unusedSimpArgs false
set_option pp.maxSteps 1500
attribute [local irreducible] quiet allocs effect wp ret wpO Runs Act.tmp Act.eval fin results Tree.set binOp loadAt storeAt target wanted cellsFrom

section
variable {X : Nat → Prop} {A : Args} {wb : Nat} {S : MS} {fB dB : List Nat} {V : Vs} {m : Mem}

theorem leave94 (h : Rep X A m wb S fB dB V) {b k : Nat} {bs : List Nat} {f : Fr} {fs : List Fr} (hf : fB = b :: bs) (hS : S.frames = f :: fs) (hk : X k) (hr : Row m k [ptr b] 84 0) (hsc : f.scopes.length ≤ 100000) (hsn : f.scopes ≠ []) :
  RunsD evEnv 94 [ptr k] m (fun m' => Rep X A m' wb S.leave fB dB V ∧ Keep X [88] m m') ∧ Runs evEnv 94 [ptr k] m fun _ m' => Rep X A m' wb S.leave fB dB V ∧ Keep X [88] m m' := by
 obtain ⟨mid, sv, sb, cb, F, L⟩ := h.top_ hf hS
 obtain ⟨pc, funs, uses, globals, frames, means, e, place, decls⟩ := S
 obtain rfl : frames = f :: fs := hS
 obtain ⟨fn, scopes, loops, caps⟩ := f
 obtain ⟨blo, bhi, bx, row, sl, slb, scs, clo, chi, cx, cmap, nodup⟩ := F
 match scopes, sb, scs with
 | [], _, _ => exact absurd rfl hsn
 | sc :: scs, s0 :: sb, ⟨⟨q1, q2, q3, q4⟩, qs⟩ =>
 rw [List.reverse_cons, List.map_append] at sl
 obtain ⟨c0, cap, r, rfl, e2, e3, e4, e5, e6, e7⟩ := sl.last
 have hn : (sb.reverse.map fun b => Value.map (some b)).length ≤ 100000 := by
  have := qs.len
  simp only [List.length_cons] at hsc
  simp; omega
 generalize hn0 : (sb.reverse.map fun b => Value.map (some b)).length = n at e4 e6 e7 row hn slb
 refine runsD_both rfl rfl rfl rfl ?_
 (repeat (first | (apply G.h; constructor <;> (first | exact Zc | apply gI | ((repeat' (first | exact Y0 | apply Y1 | ((first | apply Y4 | apply Y5); simp only [evs, Nat.reduceEqDiff, reduceIte] <;> rfl))); done) | (apply Y6; (try simp only [evs]); first | exact hr.load1 rfl rfl rfl | exact row.load1 rfl rfl rfl)))))
 (apply g_stR <;> (first | exact Zc | apply gI | ((repeat' (first | exact Y0 | apply Y1 | exact Y2 | apply Y3 | ((first | apply Y4 | apply Y5); simp only [evs, Nat.reduceEqDiff, reduceIte] <;> rfl))); done) | (apply Hy.mk; (try simp only [evs]); first | exact row | assumption) | (apply Om.mk; first | exact row) | (apply Y6; (try simp only [evs]); first | rfl) | apply Cn.mk))
 intro m4 r4 o4 n4; simp only [evs] at r4 o4 n4
 (repeat (first | (apply G.h; constructor <;> (first | exact Zc | apply gI | ((repeat' (first | exact Y0 | apply Y1 | ((first | apply Y4 | apply Y5); simp only [evs, Nat.reduceEqDiff, reduceIte] <;> rfl))); done) | (apply Y6; (try simp only [evs]); first | rfl)))))
 (refine g_finD (by first | exact Rs.nil | skip) (by (simp only [evs, Nat.reduceEqDiff, reduceIte] <;> first | rfl | (congr 1; omega) | omega)) ?_)
 simp only [evs]
 have k4 : Keep X [88] m m4 := Keep.row row bx (by decide) o4 n4
 refine ⟨?_, k4⟩
 have hlow : ∀ c, c < mid → m4.get c = m.get c := fun c hc => o4 c (by omega)
 have hgb := L.le
 refine h.with_frames k4 (by decide) (hlow _ (by omega)) ?_
 rw [hf]
 refine ⟨mid, .slice (some ⟨c0, 0, none⟩) n cap, sb, cb, ⟨blo, by omega, bx, r4, ?_, ?_, qs.stay k4 (by decide) (by omega), clo, by omega, cx, cmap.stay k4 (.inr (by decide)), ?_⟩, L.below k4.1 hlow⟩
 ·exact e7.stay k4 (by decide)
 ·intro c j q hv
  cases hv
  have := slb c0 _ _ rfl
  omega
 ·simp only [List.nodup_cons, List.mem_cons, not_or] at nodup ⊢
  exact ⟨nodup.1.2, nodup.2.2⟩
end
end Go.Proofs.YtihokakelnfdgaaDoor

namespace Go.Proofs.YtihokakelnfdgaaDoor
open Go Go.Ev
set_option maxRecDepth 100000
set_option linter.unusedVariables false
set_option linter.unusedSimpArgs false
set_option pp.maxSteps 1500
attribute [local irreducible] quiet allocs effect wp ret wpO Runs Act.tmp Act.eval fin results Tree.set binOp loadAt storeAt target wanted cellsFrom

section
variable {X : Nat → Prop} {A : Args} {wb : Nat} {S : MS} {fB dB : List Nat} {V : Vs} {m : Mem}

theorem FrsR.wide {lo hi hi' : Nat} {bs : List Nat} {fs : List Fr} (h : FrsR X m dB lo hi bs fs) (hh : hi ≤ hi') : FrsR X m dB lo hi' bs fs := h.stay (T := []) Keep.refl (by simp) hh

theorem pop95 (h : Rep X A m wb S fB dB V) {b k : Nat} {bs : List Nat} {f : Fr} {fs : List Fr} (hf : fB = b :: bs) (hS : S.frames = f :: fs) (hk : X k) (hr : Row m k [ptr wb] 78 0) (hs : fB.length ≤ 1000000) :
  RunsD evEnv 95 [ptr k] m (fun m' => ∃ v, Rep X A m' wb { S with frames := fs } bs dB { V with frv := v } ∧ Keep X [83] m m') := by
 obtain ⟨mid, sv, sb, cb, F, L⟩ := h.top_ hf hS
 have hfr := h.frames
 rw [hf, List.reverse_cons, List.map_append, List.map_cons, List.map_nil] at hfr
 obtain ⟨fb, cap, r, e1, e2, e3, e4, e5, e6, e7⟩ := hfr.last
 have hw := h.w
 rw [e1] at hw
 have hn : (bs.reverse.map ptr).length ≤ 1000000 := by rw [hf] at hs; simp at hs ⊢; omega
 generalize (bs.reverse.map ptr).length = n at e4 e6 e7 hw hn
 refine (runsD_both rfl rfl rfl rfl ?_).1
 (repeat (first | (apply G.h; constructor <;> (first | exact Zc | apply gI | ((repeat' (first | exact Y0 | apply Y1 | ((first | apply Y4 | apply Y5); simp only [evs, Nat.reduceEqDiff, reduceIte] <;> rfl))); done) | (apply Y6; (try simp only [evs]); first | exact hr.load1 rfl rfl rfl | exact hw.load1 rfl rfl rfl)))))
 (apply g_stR <;> (first | exact Zc | apply gI | ((repeat' (first | exact Y0 | apply Y1 | exact Y2 | apply Y3 | ((first | apply Y4 | apply Y5); simp only [evs, Nat.reduceEqDiff, reduceIte] <;> rfl))); done) | (apply Hy.mk; (try simp only [evs]); first | exact hw | assumption) | (apply Om.mk; first | exact hw) | (apply Y6; (try simp only [evs]); first | rfl) | apply Cn.mk))
 intro m4 r4 o4 n4; simp only [evs] at r4 o4 n4
 (repeat (first | (apply G.h; constructor <;> (first | exact Zc | apply gI | ((repeat' (first | exact Y0 | apply Y1 | ((first | apply Y4 | apply Y5); simp only [evs, Nat.reduceEqDiff, reduceIte] <;> rfl))); done) | (apply Y6; (try simp only [evs]); first | rfl)))))
 (refine g_finD (by first | exact Rs.nil | skip) (by (simp only [evs, Nat.reduceEqDiff, reduceIte] <;> first | rfl | (congr 1; omega) | omega)) ?_)
 simp only [evs]
 have k4 : Keep X [83] m m4 := Keep.row hw h.xw (by decide) o4 n4
 have hgb : V.gb ≠ wb := by
  intro hh
  have h1 := h.gmap.2
  obtain ⟨_, c, h2, _⟩ := h.w
  rw [hh, h2] at h1
  cases h1
 refine ⟨.slice (some ⟨fb, 0, none⟩) n cap, ?_, k4⟩
 refine h.turn k4 r4 (h.funs.stay k4 (by decide)) (h.caps.stay k4 (by decide)) (h.uses.stay k4 (by decide)) (h.globals.stay k4 (by decide)) rfl (o4 _ hgb) (e7.stay k4 (by decide)) (h.means.stay k4 (by decide)) (h.decls.stay k4 (by decide)) ?_
 have := F.blo
 have := F.bhi
 exact (L.stay k4 (by decide) (Nat.le_refl _)).wide (by omega)
end
end Go.Proofs.YtihokakelnfdgaaDoor

namespace Go.Proofs.YtihokakelnfdgaaDoor
set_option linter.unusedSimpArgs false
open Go Go.Ev
set_option linter.unusedVariables false

/-! Looks into maps, and what is written into rows. -/
theorem eqK_str (m : Mem) (s t : Bs) : quiet.eqKey evEnv m 9 (encS s) (encS t) = some (decide (s = t)) := by
 have hu : evEnv.under 9 = some .string := by rfl
 unfold quiet.eqKey
 rw [hu]
 simp only [beqb]
theorem find_str (m : Mem) (s : Bs) {g : Nat → Value} : ∀ (sc : List (Bs × Nat)), quiet.find evEnv m 9 (encS s) (sc.map fun q => (encS q.1, g q.2)) = some ((look s sc).map g)
 | [] => by
  have hu : evEnv.under 9 = some .string := by rfl
  simp only [List.map_nil, quiet.find, quiet.keyOk, hu, cond_true, look, Option.map_none]
 | (t, d) :: sc => by
  simp only [List.map_cons, quiet.find, eqK_str, look]
  by_cases h : s = t
  ·simp [h]
  ·simp only [h, decide_false, if_false]
   exact find_str m s sc
theorem upd_str (m : Mem) (s : Bs) (d : Nat) {g : Nat → Value} : ∀ (sc : List (Bs × Nat)), effect.upd evEnv m 9 (encS s) (g d) (sc.map fun q => (encS q.1, g q.2)) = some ((lay s d sc).map fun q => (encS q.1, g q.2))
 | [] => by
  have hu : evEnv.under 9 = some .string := by rfl
  simp only [List.map_nil, effect.upd, quiet.keyOk, hu, cond_true, lay, List.map_cons]
 | (t, x) :: sc => by
  simp only [List.map_cons, effect.upd, eqK_str, lay]
  by_cases h : s = t
  ·simp [h]
  ·simp only [h, decide_false, if_false]
   rw [upd_str m s d sc]
   rfl

theorem encFns_len : ∀ (cvs : List Value) (fs : List Fn), cvs.length = fs.length → (encFns cvs fs).length = fs.length * 4
 | [], [], _ => rfl
 | cv :: cvs, f :: fs, h => by
  simp only [List.length_cons, Nat.add_right_cancel_iff] at h
  simp only [encFns, List.length_append, encFns_len cvs fs h, List.length_cons, encFn, List.length_nil]; omega
theorem encFns_get : ∀ (cvs : List Value) (fs : List Fn) (i j : Nat) (cv : Value) (f : Fn), cvs[i]? = some cv → fs[i]? = some f → j < 4 → (encFns cvs fs)[i * 4 + j]? = (encFn cv f)[j]?
 | [], _, i, j, cv, f, h, _, _ => by simp at h
 | _ :: _, [], i, j, cv, f, _, h, _ => by simp at h
 | c :: cvs, g :: fs, 0, j, cv, f, h1, h2, hj => by
  simp only [List.getElem?_cons_zero, Option.some.injEq] at h1 h2
  subst h1; subst h2
  simp only [encFns, Nat.zero_mul, Nat.zero_add]
  rw [List.getElem?_append_left (by simp [encFn]; omega)]
 | c :: cvs, g :: fs, i + 1, j, cv, f, h1, h2, hj => by
  simp only [List.getElem?_cons_succ] at h1 h2
  simp only [encFns]
  rw [List.getElem?_append_right (by simp [encFn]; omega), show (i + 1) * 4 + j - (encFn c g).length = i * 4 + j by simp [encFn]; omega]
  exact encFns_get cvs fs i j cv f h1 h2 hj
theorem encFns_set : ∀ (cvs : List Value) (fs : List Fn) (i j : Nat) (w : Value) (g : Fn → Fn), i < fs.length → cvs.length = fs.length → j < 4 → (∀ cv f, cvs[i]? = some cv → fs[i]? = some f → (encFn cv f).set j w = encFn cv (g f)) → (encFns cvs fs).set (i * 4 + j) w = encFns cvs (fs.modify i g)
 | [], fs, i, j, w, g, h1, h2, _, _ => absurd h1 (by simp only [List.length_nil] at h2; omega)
 | _ :: _, [], i, j, w, g, h1, _, _, _ => by simp at h1
 | c :: cvs, f :: fs, 0, j, w, g, h1, h2, hj, hh => by
  have := hh c f rfl rfl
  simp only [encFns, Nat.zero_mul, Nat.zero_add, List.modify_zero_cons]
  rw [List.set_append_left _ _ (by simp [encFn]; omega), this]
 | c :: cvs, f :: fs, i + 1, j, w, g, h1, h2, hj, hh => by
  simp only [List.length_cons, Nat.add_lt_add_iff_right, Nat.add_right_cancel_iff] at h1 h2
  simp only [encFns, List.modify_succ_cons]
  rw [List.set_append_right _ _ (by simp [encFn]; omega), show (i + 1) * 4 + j - (encFn c f).length = i * 4 + j by simp [encFn]; omega, encFns_set cvs fs i j w g h1 h2 hj (fun cv x e1 e2 => hh cv x (by simpa using e1) (by simpa using e2))]

/-- a fault turns nothing but the fault. -/
theorem failIf_rest (S : MS) (b : Bool) (e : Nat) (p : Int) : (S.failIf b e p).funs = S.funs ∧ (S.failIf b e p).uses = S.uses ∧ (S.failIf b e p).globals = S.globals ∧ (S.failIf b e p).frames = S.frames ∧ (S.failIf b e p).means = S.means ∧ (S.failIf b e p).decls = S.decls ∧ (S.failIf b e p).pc = S.pc := by
 unfold MS.failIf MS.fail
 cases b
 ·simp
 ·by_cases h : S.e = 0 <;> simp [h]
theorem slots_get {cvs : List Value} {fs : List Fn} {i : Nat} (hc : cvs.length = fs.length) (hi : i < fs.length) : (encFns cvs fs)[i * 4 + 2]? = some (I (slotsOf fs i)) := by
 have h1 : cvs[i]? = some cvs[i] := List.getElem?_eq_getElem (by omega)
 have h2 : fs[i]? = some fs[i] := List.getElem?_eq_getElem hi
 rw [encFns_get cvs fs i 2 _ _ h1 h2 (by omega)]
 unfold slotsOf
 rw [h2]; rfl

/-- all declarations that are spoken of are there. -/
def Refs (n : Nat) (S : MS) : Prop := (∀ d, some d ∈ S.means → d < n) ∧ ∀ f ∈ S.frames, (∀ sc ∈ f.scopes, ∀ q ∈ sc, q.2 < n) ∧ ∀ q ∈ f.caps, q.1 < n
theorem dptr_more {dB : List Nat} {d : Nat} (h : d < dB.length) (k : Nat) : dptr (dB ++ [k]) d = dptr dB d := by unfold dptr; rw [List.getElem?_append_left h]
theorem dptr_last (dB : List Nat) (k : Nat) : dptr (dB ++ [k]) dB.length = ptr k := by unfold dptr; simp
end Go.Proofs.YtihokakelnfdgaaDoor

namespace Go.Proofs.YtihokakelnfdgaaDoor
set_option linter.unusedSimpArgs false
open Go Go.Ev
set_option linter.unusedVariables false
section
variable {X : Nat → Prop} {T : List Nat} {m m' : Mem} {A : Args} {wb : Nat} {S : MS} {fB dB : List Nat} {V : Vs}

theorem CapsR.same {cvs : List Value} {fs fs' : List Fn} (h : CapsR X m cvs fs) (hl : fs'.length = fs.length) (hc : ∀ (i : Nat) (f' : Fn), fs'[i]? = some f' → ∃ f, fs[i]? = some f ∧ f'.caps = f.caps) : CapsR X m cvs fs' :=
 ⟨by rw [hl]; exact h.1, fun i cv f' h1 h2 => by obtain ⟨f, h3, h4⟩ := hc i f' h2; rw [h4]; exact h.2.1 i cv f h1 h3, h.2.2⟩
theorem modify_caps (fs : List Fn) (k : Nat) (g : Fn → Fn) (hg : ∀ f, (g f).caps = f.caps) (i : Nat) (f' : Fn) (h : (fs.modify k g)[i]? = some f') : ∃ f, fs[i]? = some f ∧ f'.caps = f.caps := by
 rw [List.getElem?_modify] at h
 obtain ⟨f, h1, h2⟩ := Option.map_eq_some_iff.1 h
 refine ⟨f, h1, ?_⟩
 split at h2
 ·rw [← h2]; exact hg f
 ·rw [← h2]

theorem put_app (l1 l2 : List Value) : ∀ (ws : List Value) (o : Nat), put (l1 ++ l2) (l1.length + o) ws = l1 ++ put l2 o ws
 | [], o => rfl
 | w :: ws, o => by rw [put, List.set_append_right _ _ (by omega), Nat.add_sub_cancel_left, Nat.add_assoc, put_app l1 _ ws, put]
theorem encPs_put : ∀ (us : List (Nat × Nat)) (i : Nat) (u : Nat × Nat), i < us.length → put (encPs us) (i * 2) (encP u) = encPs (us.set i u)
 | [], i, u, h => by simp at h
 | x :: us, 0, u, _ => rfl
 | x :: us, i + 1, u, h => by
  have := put_app (encP x) (encPs us) (encP u) (i * 2)
  rw [encPs_put us i u (by simpa using h)] at this
  show put (encP x ++ encPs us) ((i + 1) * 2) (encP u) = _
  rw [show (i + 1) * 2 = (encP x).length + i * 2 by simp [encP]; omega, this]
  rfl
theorem encPs_len (us : List (Nat × Nat)) : (encPs us).length = us.length * 2 := by
 induction us with
 | nil => rfl
 | cons x us ih => simp only [encPs, List.flatMap_cons, List.length_append, List.length_cons] at ih ⊢; rw [ih]; simp [encP]; omega
theorem encE_more {sc : List (Bs × Nat)} (h : ∀ q ∈ sc, q.2 < dB.length) (k : Nat) : encE (dB ++ [k]) sc = encE dB sc := by
 unfold encE
 exact List.map_congr_left fun q hq => by rw [dptr_more (h q hq)]
theorem encC_more {sc : List (Nat × Nat)} (h : ∀ q ∈ sc, q.1 < dB.length) (k : Nat) : encC (dB ++ [k]) sc = encC dB sc := by
 unfold encC
 exact List.map_congr_left fun q hq => by rw [dptr_more (h q hq)]
theorem ScsR.dec {lo hi k : Nat} : ∀ {bs : List Nat} {scs : List (List (Bs × Nat))}, (∀ sc ∈ scs, ∀ q ∈ sc, q.2 < dB.length) → ScsR X m dB lo hi bs scs → ScsR X m (dB ++ [k]) lo hi bs scs
 | [], [], _, _ => trivial
 | b :: bs, sc :: scs, hr, ⟨⟨h1, h2, h3, h4⟩, h⟩ => ⟨⟨h1, h2, h3, by rw [encE_more (hr sc List.mem_cons_self)]; exact h4⟩, h.dec fun s hs => hr s (List.mem_cons_of_mem _ hs)⟩
theorem FrR.dec {lo hi b cb k : Nat} {f : Fr} {sv : Value} {sb : List Nat} (h : FrR X m dB lo hi b f sv sb cb) (h1 : ∀ sc ∈ f.scopes, ∀ q ∈ sc, q.2 < dB.length) (h2 : ∀ q ∈ f.caps, q.1 < dB.length) : FrR X m (dB ++ [k]) lo hi b f sv sb cb :=
 { h with scs := h.scs.dec h1, cmap := by rw [encC_more h2]; exact h.cmap }
theorem FrsR.dec {lo k : Nat} : ∀ {hi : Nat} {bs : List Nat} {fs : List Fr}, (∀ f ∈ fs, (∀ sc ∈ f.scopes, ∀ q ∈ sc, q.2 < dB.length) ∧ ∀ q ∈ f.caps, q.1 < dB.length) → FrsR X m dB lo hi bs fs → FrsR X m (dB ++ [k]) lo hi bs fs
 | hi, [], [], _, h => h
 | hi, b :: bs, f :: fs, hr, ⟨mid, sv, sb, cb, h1, h2⟩ => ⟨mid, sv, sb, cb, h1.dec (hr f List.mem_cons_self).1 (hr f List.mem_cons_self).2, h2.dec fun g hg => hr g (List.mem_cons_of_mem _ hg)⟩
theorem means_more {ms : List (Option Nat)} (h : ∀ d, some d ∈ ms → d < dB.length) (at_ k : Nat) : (ms.map (optPtr dB)).set at_ (ptr k) = (ms.set at_ (some dB.length)).map (optPtr (dB ++ [k])) := by
 rw [List.map_set]
 show _ = (ms.map (optPtr (dB ++ [k]))).set at_ (dptr (dB ++ [k]) dB.length)
 rw [dptr_last]
 congr 1
 refine List.map_congr_left fun q hq => ?_
 cases q with
 | none => rfl
 | some d => exact (dptr_more (h d hq) k).symm
theorem DcsR.more {ds : List Dc} (h : DcsR X m dB ds) {k : Nat} {d : Dc} (hlt : ∀ b ∈ dB, b ≠ k) (hx : ¬ X k) (hr : Row m k [I d.fn, I d.slot, .bool d.cap] 92 0) : DcsR X m (dB ++ [k]) (ds ++ [d]) := by
 obtain ⟨h1, h2, h3⟩ := h
 refine ⟨by simp [h1], ?_, fun i b c hb hc => ?_⟩
 ·rw [List.nodup_append]
  exact ⟨h2, by simp, fun x hx y hy => by rw [List.mem_singleton.1 hy]; exact hlt x hx⟩
 ·rcases Nat.lt_or_ge i dB.length with hi | hi
  ·rw [List.getElem?_append_left hi] at hb
   rw [List.getElem?_append_left (by omega)] at hc
   exact h3 i b c hb hc
  ·rw [List.getElem?_append_right hi] at hb
   rw [List.getElem?_append_right (by omega)] at hc
   have : i - dB.length = 0 := by
    have := (List.getElem?_eq_some_iff.1 hb).1
    simp at this; omega
   rw [this] at hb
   rw [← h1, this] at hc
   simp only [List.getElem?_cons_zero, Option.some.injEq] at hb hc
   subst hb; subst hc
   exact ⟨hx, hr⟩
end
end Go.Proofs.YtihokakelnfdgaaDoor
