/- Part of a verified evaluator of the model's programs and of runs by it: SM SM2 SM5. -/
import Derived.Test.YtihokakelnfdgaaDoorSA
namespace Go.Proofs.YtihokakelnfdgaaDoor
open Go Go.Ev
set_option maxRecDepth 100000
set_option linter.unusedVariables false
set_option linter.unusedSimpArgs false
set_option pp.maxSteps 1500
attribute [local irreducible] quiet allocs effect wp ret wpO Runs Act.tmp Act.eval fin results Tree.set binOp loadAt storeAt target wanted cellsFrom

def mayB (kind : Int) (p : Nat) : Bool :=
 if p = 0 then decide (kind = 1) else if p = 1 then decide (2 ≤ kind ∧ kind ≤ 13) else if p = 2 then decide (14 ≤ kind ∧ kind ≤ 32 ∧ kind ≠ 22) else if p = 3 then decide (kind = 2) else
 if p = 4 then decide (kind = 2 ∨ kind = 5) else if p = 5 then decide (kind = 19 ∨ kind = 29 ∨ kind = 30) else if p = 6 then decide (kind = 19) else decide (kind = 22)

set_option maxHeartbeats 2000000 in
theorem may29 (kind : Int) (p : Nat) (m : Mem) (hp : p ≤ 7) : Runs evEnv 55 [.int .i64 kind, .int .i64 p] m fun v m' => v = .bool (mayB kind p) ∧ m' = m := by
 refine runs_start rfl rfl rfl rfl ?_
 (repeat' (first | (apply G.h; constructor <;> (first | exact Zc | apply gI | ((repeat' (first | exact Y0 | apply Y1 | ((first | apply Y4 | apply Y5); simp only [evs, Nat.reduceEqDiff, reduceIte] <;> rfl))); done) | (apply Y6; (try simp only [evs]); first | rfl))) | (apply g_split <;> (first | (apply Ev.mk; (simp only [evs, Nat.reduceEqDiff, reduceIte] <;> rfl)) | (apply Dn.mk; (simp only [evs, Nat.reduceEqDiff, reduceIte] <;> rfl)) | (apply g_wpO) | intro h | constructor | fail))))
 all_goals
  (refine g_fin (by repeat' first | exact Rs.nil | apply Rs.cons | (apply Y4; simp only [evs, Nat.reduceEqDiff, reduceIte] <;> rfl)) (by (simp only [evs, Nat.reduceEqDiff, reduceIte] <;> first | rfl | (congr 1; omega) | omega)) ?_)
  refine ⟨congrArg Value.bool ?_, by (simp only [evs, Nat.reduceEqDiff, reduceIte] <;> first | rfl | (congr 1; omega) | omega)⟩
  unfold mayB
  (repeat' split) <;> first | (exfalso; omega) | exact (decide_eq_true (by omega)).symm | exact (decide_eq_false (by omega)).symm

set_option maxHeartbeats 2000000 in
theorem may62 (kind : Int) (p : Nat) (m : Mem) (hp : p ≤ 7) : Runs evEnv 63 [.int .i64 kind, .int .i64 p] m fun v m' => v = .bool (mayB kind p) ∧ m' = m := by
 refine runs_start rfl rfl rfl rfl ?_
 (repeat' (first | (apply G.h; constructor <;> (first | exact Zc | apply gI | ((repeat' (first | exact Y0 | apply Y1 | ((first | apply Y4 | apply Y5); simp only [evs, Nat.reduceEqDiff, reduceIte] <;> rfl))); done) | (apply Y6; (try simp only [evs]); first | rfl))) | (apply g_split <;> (first | (apply Ev.mk; (simp only [evs, Nat.reduceEqDiff, reduceIte] <;> rfl)) | (apply Dn.mk; (simp only [evs, Nat.reduceEqDiff, reduceIte] <;> rfl)) | (apply g_wpO) | intro h | constructor | fail))))
 all_goals
  (refine g_fin (by repeat' first | exact Rs.nil | apply Rs.cons | (apply Y4; simp only [evs, Nat.reduceEqDiff, reduceIte] <;> rfl)) (by (simp only [evs, Nat.reduceEqDiff, reduceIte] <;> first | rfl | (congr 1; omega) | omega)) ?_)
  refine ⟨congrArg Value.bool ?_, by (simp only [evs, Nat.reduceEqDiff, reduceIte] <;> first | rfl | (congr 1; omega) | omega)⟩
  unfold mayB
  (repeat' split) <;> first | (exfalso; omega) | exact (decide_eq_true (by omega)).symm | exact (decide_eq_false (by omega)).symm

def placeN (kind n i : Int) : Nat := if kind = 1 ∨ kind = 2 then 1 else if kind = 12 ∨ kind = 31 then (if i < n - 1 then 6 else 3) else if kind = 21 then 7 else 2

set_option maxHeartbeats 2000000 in
theorem place28 (x : Nd) (i : Nat) (m : Mem) (h0 : 0 ≤ x.n) (h1 : x.n ≤ 9223372036854775807) : Runs evEnv 54 [.agg ⟨x.val⟩, .int .i64 i] m fun v m' => v = .int .i64 (placeN x.kind x.n i) ∧ Grow m m' := by
 refine runs_start rfl rfl rfl rfl ?_
 (repeat' (first | (apply G.h; constructor <;> (first | exact Zc | apply gI | ((repeat' (first | exact Y0 | apply Y1 | ((first | apply Y4 | apply Y5); simp only [evs, Nat.reduceEqDiff, reduceIte] <;> rfl))); done) | (apply Y6; (try simp only [evs]); first | exact Row.load1 (row_new _ _ _ _) rfl rfl rfl))) | (apply g_split <;> (first | (apply Ev.mk; (simp only [evs, Nat.reduceEqDiff, reduceIte] <;> rfl)) | (apply Dn.mk; (simp only [evs, Nat.reduceEqDiff, reduceIte] <;> rfl)) | (apply g_wpO) | intro h | constructor | fail))))
 all_goals
  (refine g_fin (by repeat' first | exact Rs.nil | apply Rs.cons | (apply Y4; simp only [evs, Nat.reduceEqDiff, reduceIte] <;> rfl)) (by (simp only [evs, Nat.reduceEqDiff, reduceIte] <;> first | rfl | (congr 1; omega) | omega)) ?_)
  refine ⟨congrArg (Value.int .i64) ?_, ?_⟩
  ·unfold placeN
   (repeat' split) <;> first | rfl | (exfalso; omega)
  ·simp only [m_upd, m_mem, m_start]
   exact (Grow.refl _).new _

end Go.Proofs.YtihokakelnfdgaaDoor

namespace Go.Proofs.YtihokakelnfdgaaDoor
open Go Go.Ev
set_option maxRecDepth 100000
set_option linter.unusedVariables false
set_option linter.unusedSimpArgs false
set_option pp.maxSteps 1500
attribute [local irreducible] quiet allocs effect wp ret wpO Runs Act.tmp Act.eval fin results Tree.set binOp loadAt storeAt target wanted cellsFrom

def signs : List (List UInt8) := [[61, 61], [33, 61], [60], [60, 61], [62], [62, 61], [43], [45], [42], [47], [37]]
def rightB (x : Nd) : Bool :=
 if x.kind = 3 ∨ x.kind = 11 ∨ x.kind = 19 ∨ x.kind = 22 ∨ x.kind = 30 then nameB x.text else
 if x.kind = 12 then nameB x.text && decide (0 ≤ x.num ∧ x.num ≤ 16 ∧ x.n = x.num + 1) else
 if x.kind = 31 then decide (0 ≤ x.num ∧ x.num ≤ 16 ∧ x.n = x.num + 1) else
 if x.kind = 14 then decide (0 ≤ x.num ∧ x.num ≤ 2305843009213693951) else
 if x.kind = 28 ∨ x.kind = 32 then decide (1 ≤ x.n ∧ x.n ≤ 17) else
 if x.kind = 23 then decide (x.text ∈ signs) else true

set_option maxHeartbeats 2000000 in
theorem right31 (x : Nd) (m : Mem) (hx : x.ok) (hs : x.text.length ≤ 9223372036854775807) : Runs evEnv 57 [.agg ⟨x.val⟩] m fun v m' => v = .bool (rightB x) ∧ Grow m m' := by
 obtain ⟨⟨k1, k2⟩, ⟨n1, n2⟩, ⟨u1, u2⟩, ⟨p1, p2⟩⟩ := hx
 refine runs_start rfl rfl rfl rfl ?_
 cases hN : nameB x.text
 all_goals
  (repeat' (first | (apply G.h; constructor <;> (first | exact Zc | apply gI | ((repeat' (first | exact Y0 | apply Y1 | ((first | apply Y4 | apply Y5); simp only [evs, Nat.reduceEqDiff, reduceIte, hN] <;> rfl))); done) | (apply Y6; (try simp only [evs, hN]); first | exact Row.load1 (row_new _ _ _ _) rfl rfl rfl))) | (apply g_split <;> (first | (apply Ev.mk; (simp only [evs, Nat.reduceEqDiff, reduceIte, hN] <;> rfl)) | (apply Dn.mk; (simp only [evs, Nat.reduceEqDiff, reduceIte, hN] <;> rfl)) | (apply g_wpO) | intro h | constructor | fail)) | (((first | apply g_run | apply g_run0) <;> (first | ((repeat' (first | exact Y0 | apply Y1 | exact Y2 | apply Y3 | ((first | apply Y4 | apply Y5); simp only [evs, Nat.reduceEqDiff, reduceIte, hN] <;> rfl))); done) | exact Rn.mk (name61 _ _ hs) | apply Cn.mk)); rintro v m' ⟨rfl, rfl⟩)))
  all_goals
   (refine g_fin (by repeat' first | exact Rs.nil | apply Rs.cons | (apply Y4; simp only [evs, Nat.reduceEqDiff, reduceIte, hN] <;> rfl)) (by (simp only [evs, Nat.reduceEqDiff, reduceIte, hN] <;> first | rfl | (congr 1; omega) | omega)) ?_)
   refine ⟨congrArg Value.bool ?_, by simp only [m_upd, m_mem, m_start]; exact (Grow.refl _).new _⟩
   unfold rightB
   simp only [hN]
   (repeat' split) <;> first | rfl | (exfalso; omega) | exact (decide_eq_true (by omega)).symm | exact (decide_eq_false (by omega)).symm | (simp only [Bool.true_and, Bool.false_and]; first | rfl | exact (decide_eq_true (by omega)).symm | exact (decide_eq_false (by omega)).symm) | exact (decide_eq_true (by simp_all [signs])).symm | exact (decide_eq_false (by simp_all [signs])).symm
end Go.Proofs.YtihokakelnfdgaaDoor

namespace Go.Proofs.YtihokakelnfdgaaDoor
open Go Go.Ev
set_option maxRecDepth 100000
set_option linter.unusedVariables false
set_option linter.unusedSimpArgs false
set_option pp.maxSteps 1500
attribute [local irreducible] quiet allocs effect wp ret wpO Runs Act.tmp Act.eval fin results Tree.set binOp loadAt storeAt target wanted cellsFrom
def fieldsB (x : Nd) : Bool :=
 if x.kind = 3 ∨ x.kind = 11 ∨ x.kind = 12 ∨ x.kind = 19 ∨ x.kind = 22 ∨ x.kind = 30 then nameB x.text else
 if x.kind = 14 then decide (0 ≤ x.num ∧ x.num ≤ 2305843009213693951) else
 if x.kind = 23 then decide (x.text ∈ signs) else true

end Go.Proofs.YtihokakelnfdgaaDoor
