/- Part of a verified evaluator of the model's programs and of runs by it: SM4 SC0. -/
import Derived.Test.YtihokakelnfdgaaDoorSC
import Derived.Test.YtihokakelnfdgaaDoorSB
namespace Go.Proofs.YtihokakelnfdgaaDoor
open Go Go.Ev
set_option maxRecDepth 100000
set_option linter.unusedVariables false
set_option linter.unusedSimpArgs false
set_option pp.maxSteps 1500
attribute [local irreducible] quiet allocs effect wp ret wpO Runs Act.tmp Act.eval fin results Tree.set binOp loadAt storeAt target wanted cellsFrom

def placeR (x : Nd) (i : Nat) : Nat :=
 if x.kind = 1 ∨ x.kind = 2 then 1 else if x.kind = 4 ∧ i = 0 then 5 else if x.kind = 5 ∧ 0 < i then i + 2 else if x.kind = 6 ∧ i = 1 then 3 else if x.kind = 11 then 3 else
 if x.kind = 12 ∨ x.kind = 31 then (if (i : Int) < x.n - 1 then 6 else 3) else if x.kind = 21 then 7 else 2

def countB (x : Nd) : Bool :=
 if x.kind = 7 ∨ x.kind = 8 ∨ (14 ≤ x.kind ∧ x.kind ≤ 19) then decide (x.n = 0) else
 if x.kind = 3 ∨ x.kind = 10 ∨ x.kind = 13 ∨ x.kind = 22 ∨ x.kind = 26 ∨ x.kind = 27 ∨ x.kind = 30 then decide (x.n = 1) else
 if x.kind = 4 ∨ x.kind = 6 ∨ x.kind = 11 ∨ (23 ≤ x.kind ∧ x.kind ≤ 25) ∨ x.kind = 29 then decide (x.n = 2) else
 if x.kind = 5 then decide (x.n = 2 ∨ x.n = 3) else if x.kind = 9 then decide (x.n = 0 ∨ x.n = 1) else
 if x.kind = 28 ∨ x.kind = 32 then decide (1 ≤ x.n ∧ x.n ≤ 17) else
 if x.kind = 12 ∨ x.kind = 31 then decide (0 ≤ x.num ∧ x.num ≤ 16 ∧ x.n = x.num + 1) else decide (0 ≤ x.n)

end Go.Proofs.YtihokakelnfdgaaDoor

namespace Go.Proofs.YtihokakelnfdgaaDoor
set_option linter.unusedSimpArgs false
open Go Go.Ev
set_option linter.unusedVariables false

def okR (x : Nd) : Bool := countB x && fieldsB x

/-- what waits for so many, and what each must be. -/
structure Du where
 n : Int
 pl : Nat → Nat
def Nd.du (x : Nd) : Du := ⟨x.n, placeR x⟩

/-- nodes that have all that they are made of are done. -/
def pop : List (Du × Nat) → List (Du × Nat)
 | [] => []
 | (x, c) :: st => if (c : Int) = x.n then pop st else (x, c) :: st

/-- is the rest just what those that wait are made of? -/
def accept : List Nd → List (Du × Nat) → Bool
 | [], st => (pop st).isEmpty
 | x :: r, st => match pop st with
  | [] => false
  | (y, c) :: st' => mayB x.kind (y.pl c) && (okR x && accept r ((x.du, 0) :: (y, c + 1) :: st'))

theorem accept_pop (r : List Nd) (x : Du) (c : Nat) (st : List (Du × Nat)) (h : (c : Int) = x.n) : accept r ((x, c) :: st) = accept r st := by
 cases r <;> simp only [accept, pop, h, if_true]
theorem pop_not (x : Du) (c : Nat) (st : List (Du × Nat)) (h : (c : Int) < x.n) : pop ((x, c) :: st) = (x, c) :: st := by
 simp only [pop, if_neg (show ¬ (c : Int) = x.n by omega)]
theorem accept_nil (x : Du) (c : Nat) (st : List (Du × Nat)) (h : (c : Int) < x.n) : accept [] ((x, c) :: st) = false := by
 simp only [accept, pop_not x c st h]; rfl
theorem accept_cons (x : Nd) (y : Du) (r : List Nd) (c : Nat) (st : List (Du × Nat)) (h : (c : Int) < y.n) :
  accept (x :: r) ((y, c) :: st) = (mayB x.kind (y.pl c) && (okR x && accept r ((x.du, 0) :: (y, c + 1) :: st))) := by
 simp only [accept, pop_not y c st h]

def root : Du := ⟨1, fun _ => 0⟩
/-- is it a program? -/
def okProg (l : List Nd) : Bool := accept l [(root, 0)]

theorem may_range {kind : Int} {p : Nat} (h : mayB kind p = true) : 1 ≤ kind ∧ kind ≤ 32 := by
 unfold mayB at h
 (repeat' split at h) <;> have := of_decide_eq_true h <;> omega
theorem count_pos {x : Nd} (h : countB x = true) : 0 ≤ x.n := by
 unfold countB at h
 (repeat' split at h) <;> have := of_decide_eq_true h <;> omega
theorem placeR_le {x : Nd} (h : countB x = true) (i : Nat) (hi : (i : Int) < x.n) : placeR x i ≤ 7 := by
 unfold placeR
 by_cases h5 : x.kind = 5
 ·have : x.n = 2 ∨ x.n = 3 := by
   have h2 : countB x = decide (x.n = 2 ∨ x.n = 3) := by simp [countB, h5]
   rw [h2] at h
   exact of_decide_eq_true h
  (repeat' split) <;> omega
 ·(repeat' split) <;> omega

theorem Nodes.grow {m m' : Mem} {b off : Nat} {l : List Nd} (h : Nodes m b off l) (hb : b < m.next) (g : Grow m m') : Nodes m' b off l := by
 obtain ⟨n, c, ty, kd, h1, h2, h3⟩ := h
 exact ⟨n, c, ty, kd, by rw [g.2 b hb]; exact h1, h2, h3⟩
theorem Nodes.all {m : Mem} {b off : Nat} {l : List Nd} (h : Nodes m b off l) (i : Nat) (hi : i < l.length) : loadAt evEnv m 43 b (off + i * 5) = some (.agg ⟨l[i].val⟩) := by
 obtain ⟨n, c, ty, kd, h1, h2, h3⟩ := h
 refine load_agg (k := 5) rfl rfl rfl h1 (by omega) ?_
 have e0 := h3 i 0 hi (by omega)
 have e1 := h3 i 1 hi (by omega)
 have e2 := h3 i 2 hi (by omega)
 have e3 := h3 i 3 hi (by omega)
 have e4 := h3 i 4 hi (by omega)
 simp only [Nat.add_zero] at e0
 simp only [cellsFrom, e0, show off + i * 5 + 1 + 1 = off + i * 5 + 2 from rfl, show off + i * 5 + 2 + 1 = off + i * 5 + 3 from rfl, show off + i * 5 + 3 + 1 = off + i * 5 + 4 from rfl, e1, e2, e3, e4]
 rfl
def zeroNode : List Value := [.int .i64 0, .int .i64 0, .string ⟨⟨[]⟩⟩, .int .i64 0, .int .i64 0]

end Go.Proofs.YtihokakelnfdgaaDoor
