/- Part of a verified evaluator of the model's programs and of runs by it: SM4. -/
import Derived.Test.YtihokakelnfdgaaDoorSC
namespace Go.Proofs.YtihokakelnfdgaaDoor
open Go Go.Ev
set_option maxRecDepth 100000
set_option linter.unusedVariables false
set_option linter.unusedSimpArgs false
set_option pp.maxSteps 1500
attribute [local irreducible] quiet allocs effect wp ret wpO Runs Act.tmp Act.eval fin results Tree.set binOp loadAt storeAt target wanted cellsFrom

def placeR (x : Nd) (i : Nat) : Nat :=
 if x.kind = 1 ∨ x.kind = 2 then 1 else if x.kind = 4 ∧ i = 0 then 5 else if x.kind = 5 ∧ 0 < i then i + 2 else if x.kind = 6 ∧ i = 1 then 3 else if x.kind = 11 then 3 else
 if x.kind = 12 ∨ x.kind = 31 then (if (i : Int) < x.n - 1 then 6 else 3) else if x.kind = 21 then 7 else 2

set_option maxHeartbeats 40000000 in
theorem place65_of1 (kd : Int) (hk : kd = 1 ∨ kd = 2 ∨ kd = 3 ∨ kd = 4 ∨ kd = 5 ∨ kd = 6 ∨ kd = 7 ∨ kd = 8 ∨ kd = 9 ∨ kd = 10 ∨ kd = 11 ∨ kd = 12 ∨ kd = 13 ∨ kd = 14 ∨ kd = 15 ∨ kd = 16 ∨ kd = 17 ∨ kd = 18 ∨ kd = 19 ∨ kd = 20 ∨ kd = 21 ∨ kd = 22 ∨ kd = 23 ∨ kd = 24 ∨ kd = 25 ∨ kd = 26 ∨ kd = 27 ∨ kd = 28 ∨ kd = 29 ∨ kd = 30 ∨ kd = 31 ∨ kd = 32) (n : Int) (text : List UInt8) (num pos : Int) (i : Nat) (m : Mem) (h0 : 0 ≤ n) (h1 : n ≤ 9223372036854775807) (hi : i < n) (hib : i ≤ 1000000000) : Runs evEnv 66 [.agg ⟨Nd.val ⟨kd, n, text, num, pos⟩⟩, .int .i64 i] m fun v m' => v = .int .i64 (placeR ⟨kd, n, text, num, pos⟩ i) ∧ Grow m m' := by
 rcases hk with rfl | rfl | rfl | rfl | rfl | rfl | rfl | rfl | rfl | rfl | rfl | rfl | rfl | rfl | rfl | rfl | rfl | rfl | rfl | rfl | rfl | rfl | rfl | rfl | rfl | rfl | rfl | rfl | rfl | rfl | rfl | rfl
 all_goals
  refine runs_start rfl rfl rfl rfl ?_
  rcases i with _ | _ | i
  all_goals (repeat' (first | (apply G.h; constructor <;> (first | exact Rf.mk | ((first | apply Ev.mk | apply Dn.mk); (simp only [evs, Nat.reduceEqDiff, reduceIte] <;> rfl)) | apply g_wpO | (apply Bk; exact BxS) | (apply Ld.mk; (try simp only [evs]); first | exact Row.load1 (row_new _ _ _ _) rfl rfl rfl | fail) | apply g_wp | apply g_ret | apply g_sel | (apply Om.mk; first | omega | exact Nat.le_of_ble_eq_true rfl | fail) | ((repeat (first | exact Evp.nil | (apply Evp.cons; (focus (apply Ev.mk; (simp only [evs, Nat.reduceEqDiff, reduceIte] <;> rfl))))));done) | (apply Hy.mk; assumption) | (apply Kr.mk; decide +kernel) | fail)) | (apply g_split <;> (first | (apply Ev.mk; (simp only [evs, Nat.reduceEqDiff, reduceIte] <;> rfl)) | (apply Dn.mk; (simp only [evs, Nat.reduceEqDiff, reduceIte] <;> rfl)) | (apply g_wpO) | intro h | constructor | fail))))
  all_goals
   (refine g_fin (by repeat (first | exact Rs.nil | (apply Rs.cons; (focus (apply Ev.mk; (simp only [evs, Nat.reduceEqDiff, reduceIte] <;> rfl)))))) (by (simp only [evs, Nat.reduceEqDiff, reduceIte] <;> first | rfl | (congr 1; omega) | omega)) ?_)
   refine ⟨congrArg (Value.int .i64) ?_, by simp only [m_upd, m_mem, m_start]; exact (Grow.refl _).new _⟩
   first | rfl | (simp [placeR] <;> fail) | (simp [placeR]; (split <;> first | rfl | (exfalso; omega))) | (simp [placeR] <;> omega)

theorem place65 (x : Nd) (i : Nat) (m : Mem) (h0 : 0 ≤ x.n) (h1 : x.n ≤ 9223372036854775807) (hi : i < x.n) (hib : i ≤ 1000000000) (k1 : 1 ≤ x.kind) (k2 : x.kind ≤ 32) : Runs evEnv 66 [.agg ⟨x.val⟩, .int .i64 i] m fun v m' => v = .int .i64 (placeR x i) ∧ Grow m m' := by
 obtain ⟨kind, n, text, num, pos⟩ := x
 exact kinds k1 k2 (P := fun kind => Runs evEnv 66 [.agg ⟨Nd.val ⟨kind, n, text, num, pos⟩⟩, .int .i64 i] m fun v m' => v = .int .i64 (placeR ⟨kind, n, text, num, pos⟩ i) ∧ Grow m m')
  (place65_of1 1 (by decide) n text num pos i m h0 h1 hi hib) (place65_of1 2 (by decide) n text num pos i m h0 h1 hi hib) (place65_of1 3 (by decide) n text num pos i m h0 h1 hi hib) (place65_of1 4 (by decide) n text num pos i m h0 h1 hi hib) (place65_of1 5 (by decide) n text num pos i m h0 h1 hi hib) (place65_of1 6 (by decide) n text num pos i m h0 h1 hi hib) (place65_of1 7 (by decide) n text num pos i m h0 h1 hi hib) (place65_of1 8 (by decide) n text num pos i m h0 h1 hi hib) (place65_of1 9 (by decide) n text num pos i m h0 h1 hi hib) (place65_of1 10 (by decide) n text num pos i m h0 h1 hi hib) (place65_of1 11 (by decide) n text num pos i m h0 h1 hi hib) (place65_of1 12 (by decide) n text num pos i m h0 h1 hi hib) (place65_of1 13 (by decide) n text num pos i m h0 h1 hi hib) (place65_of1 14 (by decide) n text num pos i m h0 h1 hi hib) (place65_of1 15 (by decide) n text num pos i m h0 h1 hi hib) (place65_of1 16 (by decide) n text num pos i m h0 h1 hi hib) (place65_of1 17 (by decide) n text num pos i m h0 h1 hi hib) (place65_of1 18 (by decide) n text num pos i m h0 h1 hi hib) (place65_of1 19 (by decide) n text num pos i m h0 h1 hi hib) (place65_of1 20 (by decide) n text num pos i m h0 h1 hi hib) (place65_of1 21 (by decide) n text num pos i m h0 h1 hi hib) (place65_of1 22 (by decide) n text num pos i m h0 h1 hi hib) (place65_of1 23 (by decide) n text num pos i m h0 h1 hi hib) (place65_of1 24 (by decide) n text num pos i m h0 h1 hi hib) (place65_of1 25 (by decide) n text num pos i m h0 h1 hi hib) (place65_of1 26 (by decide) n text num pos i m h0 h1 hi hib) (place65_of1 27 (by decide) n text num pos i m h0 h1 hi hib) (place65_of1 28 (by decide) n text num pos i m h0 h1 hi hib) (place65_of1 29 (by decide) n text num pos i m h0 h1 hi hib) (place65_of1 30 (by decide) n text num pos i m h0 h1 hi hib) (place65_of1 31 (by decide) n text num pos i m h0 h1 hi hib) (place65_of1 32 (by decide) n text num pos i m h0 h1 hi hib)

def countB (x : Nd) : Bool :=
 if x.kind = 7 ∨ x.kind = 8 ∨ (14 ≤ x.kind ∧ x.kind ≤ 19) then decide (x.n = 0) else
 if x.kind = 3 ∨ x.kind = 10 ∨ x.kind = 13 ∨ x.kind = 22 ∨ x.kind = 26 ∨ x.kind = 27 ∨ x.kind = 30 then decide (x.n = 1) else
 if x.kind = 4 ∨ x.kind = 6 ∨ x.kind = 11 ∨ (23 ≤ x.kind ∧ x.kind ≤ 25) ∨ x.kind = 29 then decide (x.n = 2) else
 if x.kind = 5 then decide (x.n = 2 ∨ x.n = 3) else if x.kind = 9 then decide (x.n = 0 ∨ x.n = 1) else
 if x.kind = 28 ∨ x.kind = 32 then decide (1 ≤ x.n ∧ x.n ≤ 17) else
 if x.kind = 12 ∨ x.kind = 31 then decide (0 ≤ x.num ∧ x.num ≤ 16 ∧ x.n = x.num + 1) else decide (0 ≤ x.n)

set_option maxHeartbeats 40000000 in
theorem count63_of1 (kd : Int) (hk : kd = 1 ∨ kd = 2 ∨ kd = 3 ∨ kd = 4 ∨ kd = 5 ∨ kd = 6 ∨ kd = 7 ∨ kd = 8 ∨ kd = 9 ∨ kd = 10 ∨ kd = 11 ∨ kd = 12 ∨ kd = 13 ∨ kd = 14 ∨ kd = 15 ∨ kd = 16 ∨ kd = 17 ∨ kd = 18 ∨ kd = 19 ∨ kd = 20 ∨ kd = 21 ∨ kd = 22 ∨ kd = 23 ∨ kd = 24 ∨ kd = 25 ∨ kd = 26 ∨ kd = 27 ∨ kd = 28 ∨ kd = 29 ∨ kd = 30 ∨ kd = 31 ∨ kd = 32) (n : Int) (text : List UInt8) (num pos : Int) (n1 : -9223372036854775808 ≤ n) (n2 : n ≤ 9223372036854775807) (m : Mem) : Runs evEnv 64 [.agg ⟨Nd.val ⟨kd, n, text, num, pos⟩⟩] m fun v m' => v = .bool (countB ⟨kd, n, text, num, pos⟩) ∧ Grow m m' := by
 rcases hk with rfl | rfl | rfl | rfl | rfl | rfl | rfl | rfl | rfl | rfl | rfl | rfl | rfl | rfl | rfl | rfl | rfl | rfl | rfl | rfl | rfl | rfl | rfl | rfl | rfl | rfl | rfl | rfl | rfl | rfl | rfl | rfl
 all_goals
  refine runs_start rfl rfl rfl rfl ?_
  (repeat' (first | (apply G.h; constructor <;> (first | exact Rf.mk | ((first | apply Ev.mk | apply Dn.mk); (simp only [evs, Nat.reduceEqDiff, reduceIte] <;> rfl)) | apply g_wpO | (apply Bk; exact BxS) | (apply Ld.mk; (try simp only [evs]); first | exact Row.load1 (row_new _ _ _ _) rfl rfl rfl | fail) | apply g_wp | apply g_ret | apply g_sel | (apply Om.mk; first | omega | exact Nat.le_of_ble_eq_true rfl | fail) | ((repeat (first | exact Evp.nil | (apply Evp.cons; (focus (apply Ev.mk; (simp only [evs, Nat.reduceEqDiff, reduceIte] <;> rfl))))));done) | (apply Hy.mk; assumption) | (apply Kr.mk; decide +kernel) | fail)) | (apply g_split <;> (first | (apply Ev.mk; (simp only [evs, Nat.reduceEqDiff, reduceIte] <;> rfl)) | (apply Dn.mk; (simp only [evs, Nat.reduceEqDiff, reduceIte] <;> rfl)) | (apply g_wpO) | intro h | constructor | fail))))
  all_goals
   (refine g_fin (by repeat (first | exact Rs.nil | (apply Rs.cons; (focus (apply Ev.mk; (simp only [evs, Nat.reduceEqDiff, reduceIte] <;> rfl)))))) (by (simp only [evs, Nat.reduceEqDiff, reduceIte] <;> first | rfl | (congr 1; omega) | omega)) ?_)
   refine ⟨congrArg Value.bool ?_, by simp only [m_upd, m_mem, m_start]; exact (Grow.refl _).new _⟩
   first | rfl | (simp [countB, *] <;> fail) | (simp [countB] <;> omega)

theorem count63 (x : Nd) (m : Mem) (hx : x.ok) (k1 : 1 ≤ x.kind) (k2 : x.kind ≤ 32) : Runs evEnv 64 [.agg ⟨x.val⟩] m fun v m' => v = .bool (countB x) ∧ Grow m m' := by
 obtain ⟨kind, n, text, num, pos⟩ := x
 obtain ⟨-, ⟨n1, n2⟩, -, -⟩ := hx
 exact kinds k1 k2 (P := fun kind => Runs evEnv 64 [.agg ⟨Nd.val ⟨kind, n, text, num, pos⟩⟩] m fun v m' => v = .bool (countB ⟨kind, n, text, num, pos⟩) ∧ Grow m m')
  (count63_of1 1 (by decide) n text num pos n1 n2 m) (count63_of1 2 (by decide) n text num pos n1 n2 m) (count63_of1 3 (by decide) n text num pos n1 n2 m) (count63_of1 4 (by decide) n text num pos n1 n2 m) (count63_of1 5 (by decide) n text num pos n1 n2 m) (count63_of1 6 (by decide) n text num pos n1 n2 m) (count63_of1 7 (by decide) n text num pos n1 n2 m) (count63_of1 8 (by decide) n text num pos n1 n2 m) (count63_of1 9 (by decide) n text num pos n1 n2 m) (count63_of1 10 (by decide) n text num pos n1 n2 m) (count63_of1 11 (by decide) n text num pos n1 n2 m) (count63_of1 12 (by decide) n text num pos n1 n2 m) (count63_of1 13 (by decide) n text num pos n1 n2 m) (count63_of1 14 (by decide) n text num pos n1 n2 m) (count63_of1 15 (by decide) n text num pos n1 n2 m) (count63_of1 16 (by decide) n text num pos n1 n2 m) (count63_of1 17 (by decide) n text num pos n1 n2 m) (count63_of1 18 (by decide) n text num pos n1 n2 m) (count63_of1 19 (by decide) n text num pos n1 n2 m) (count63_of1 20 (by decide) n text num pos n1 n2 m) (count63_of1 21 (by decide) n text num pos n1 n2 m) (count63_of1 22 (by decide) n text num pos n1 n2 m) (count63_of1 23 (by decide) n text num pos n1 n2 m) (count63_of1 24 (by decide) n text num pos n1 n2 m) (count63_of1 25 (by decide) n text num pos n1 n2 m) (count63_of1 26 (by decide) n text num pos n1 n2 m) (count63_of1 27 (by decide) n text num pos n1 n2 m) (count63_of1 28 (by decide) n text num pos n1 n2 m) (count63_of1 29 (by decide) n text num pos n1 n2 m) (count63_of1 30 (by decide) n text num pos n1 n2 m) (count63_of1 31 (by decide) n text num pos n1 n2 m) (count63_of1 32 (by decide) n text num pos n1 n2 m)
end Go.Proofs.YtihokakelnfdgaaDoor
