/- Part of a verified evaluator of the model's programs and of runs by it: SM3. -/
import Derived.Test.YtihokakelnfdgaaDoorSB
namespace Go.Proofs.YtihokakelnfdgaaDoor
open Go Go.Ev
set_option maxRecDepth 100000
set_option linter.unusedVariables false
set_option linter.unusedSimpArgs false
set_option pp.maxSteps 1500
attribute [local irreducible] quiet allocs effect wp ret wpO Runs Act.tmp Act.eval fin results Tree.set binOp loadAt storeAt target wanted cellsFrom

/-- what a node of few is made of; none: of many. -/
def fixedL (x : Nd) : Option (List Nat) :=
 if x.kind = 4 then some [5, 2] else
 if x.kind = 3 ∨ x.kind = 10 ∨ x.kind = 13 ∨ x.kind = 22 ∨ x.kind = 26 ∨ x.kind = 27 ∨ x.kind = 30 then some [2] else
 if x.kind = 5 then (if x.n ≤ 2 then some [2, 3] else some [2, 3, 4]) else
 if x.kind = 6 then some [2, 3] else
 if x.kind = 9 then (if x.n ≤ 0 then some [] else some [2]) else
 if x.kind = 11 then some [3, 3] else
 if x.kind = 23 ∨ x.kind = 24 ∨ x.kind = 25 ∨ x.kind = 29 then some [2, 2] else
 if x.kind = 7 ∨ x.kind = 8 ∨ x.kind = 14 ∨ x.kind = 15 ∨ x.kind = 16 ∨ x.kind = 17 ∨ x.kind = 18 ∨ x.kind = 19 then some [] else none
def okN (x : Nd) : Bool := match fixedL x with
 | some ks => decide (x.n = ks.length)
 | none => decide (0 ≤ x.n)
/-- a slice of places. -/
def LV (m : Mem) (lv : Value) : Option (List Nat) → Prop
 | none => lv = .slice none 0 0
 | some ks => (lv = .slice none 0 0 ∧ ks = []) ∨ ∃ kb cap r, lv = .slice (some ⟨kb, 0, none⟩) ks.length cap ∧ Row m kb r 3 0 ∧ ∀ (i : Nat) (h : i < ks.length), r[i]? = some (.int .i64 ks[i])

theorem LV.of (m : Mem) (kb cap : Nat) (ks : List Nat) (r : List Value) (hr : Row m kb r 3 0) (h : ∀ (i : Nat) (h : i < ks.length), r[i]? = some (.int .i64 ks[i])) {x : Nd} (hx : fixedL x = some ks) : LV m (.slice (some ⟨kb, 0, none⟩) ks.length cap) (fixedL x) := by
 rw [hx]
 exact .inr ⟨kb, cap, r, rfl, hr, h⟩

theorem tup_eq {V : Value} {b c : Bool} (h : b = c) : one [V, .bool b] = .tuple ⟨[V, .bool c]⟩ := by subst h; rfl

theorem kinds {k : Int} (h1 : 1 ≤ k) (h2 : k ≤ 32) {P : Int → Prop} (a1 : P 1) (a2 : P 2) (a3 : P 3) (a4 : P 4) (a5 : P 5) (a6 : P 6) (a7 : P 7) (a8 : P 8) (a9 : P 9) (a10 : P 10) (a11 : P 11) (a12 : P 12) (a13 : P 13) (a14 : P 14) (a15 : P 15) (a16 : P 16) (a17 : P 17) (a18 : P 18) (a19 : P 19) (a20 : P 20) (a21 : P 21) (a22 : P 22) (a23 : P 23) (a24 : P 24) (a25 : P 25) (a26 : P 26) (a27 : P 27) (a28 : P 28) (a29 : P 29) (a30 : P 30) (a31 : P 31) (a32 : P 32) : P k := by
 have : k = 1 ∨ k = 2 ∨ k = 3 ∨ k = 4 ∨ k = 5 ∨ k = 6 ∨ k = 7 ∨ k = 8 ∨ k = 9 ∨ k = 10 ∨ k = 11 ∨ k = 12 ∨ k = 13 ∨ k = 14 ∨ k = 15 ∨ k = 16 ∨ k = 17 ∨ k = 18 ∨ k = 19 ∨ k = 20 ∨ k = 21 ∨ k = 22 ∨ k = 23 ∨ k = 24 ∨ k = 25 ∨ k = 26 ∨ k = 27 ∨ k = 28 ∨ k = 29 ∨ k = 30 ∨ k = 31 ∨ k = 32 := by omega
 rcases this with rfl | rfl | rfl | rfl | rfl | rfl | rfl | rfl | rfl | rfl | rfl | rfl | rfl | rfl | rfl | rfl | rfl | rfl | rfl | rfl | rfl | rfl | rfl | rfl | rfl | rfl | rfl | rfl | rfl | rfl | rfl | rfl <;> assumption

set_option maxHeartbeats 40000000 in
theorem places30_of1 (kd : Int) (hk : kd = 1 ∨ kd = 2 ∨ kd = 12 ∨ kd = 20 ∨ kd = 21 ∨ kd = 28 ∨ kd = 31 ∨ kd = 32) (n : Int) (text : List UInt8) (num pos : Int) (n1 : -9223372036854775808 ≤ n) (n2 : n ≤ 9223372036854775807) (m : Mem) : Runs evEnv 56 [.agg ⟨Nd.val ⟨kd, n, text, num, pos⟩⟩] m fun v m' => ∃ lv, v = .tuple ⟨[lv, .bool (okN ⟨kd, n, text, num, pos⟩)]⟩ ∧ Grow m m' ∧ LV m' lv (fixedL ⟨kd, n, text, num, pos⟩) := by
 have hf : fixedL ⟨kd, n, text, num, pos⟩ = none := by rcases hk with rfl | rfl | rfl | rfl | rfl | rfl | rfl | rfl <;> rfl
 rcases hk with rfl | rfl | rfl | rfl | rfl | rfl | rfl | rfl
 all_goals
  refine runs_start rfl rfl rfl rfl ?_
  ·(repeat' (first | (apply G.h; constructor <;> (first | exact Zc | apply gI | ((repeat' (first | exact Y0 | apply Y1 | ((first | apply Y4 | apply Y5); simp only [evs, Nat.reduceEqDiff, reduceIte] <;> rfl))); done) | (apply Y6; (try simp only [evs]); first | exact Row.load1 (row_new _ _ _ _) rfl rfl rfl | exact Row.load1 ((row_new _ _ _ _).keep_new _) rfl rfl rfl))) | (apply g_split <;> (first | (apply Ev.mk; (simp only [evs, Nat.reduceEqDiff, reduceIte] <;> rfl)) | (apply Dn.mk; (simp only [evs, Nat.reduceEqDiff, reduceIte] <;> rfl)) | (apply g_wpO) | intro h | constructor | fail))))
   all_goals
    (refine g_fin (by repeat' first | exact Rs.nil | apply Rs.cons | (apply Y4; simp only [evs, Nat.reduceEqDiff, reduceIte] <;> rfl)) (by (simp only [evs, Nat.reduceEqDiff, reduceIte] <;> first | rfl | (congr 1; omega) | omega)) ?_)
    simp only [m_upd, m_mem, m_start]
    refine ⟨_, tup_eq ?_, (Grow.refl _).new _, by rw [hf]; rfl⟩
    focus (simp only [okN, hf]; first | exact (decide_eq_true (by omega)).symm | exact (decide_eq_false (by omega)).symm)

set_option maxHeartbeats 40000000 in
theorem places30_of3 (kd : Int) (hk : kd = 3 ∨ kd = 10 ∨ kd = 13 ∨ kd = 22 ∨ kd = 26 ∨ kd = 27 ∨ kd = 30) (n : Int) (text : List UInt8) (num pos : Int) (n1 : -9223372036854775808 ≤ n) (n2 : n ≤ 9223372036854775807) (m : Mem) : Runs evEnv 56 [.agg ⟨Nd.val ⟨kd, n, text, num, pos⟩⟩] m fun v m' => ∃ lv, v = .tuple ⟨[lv, .bool (okN ⟨kd, n, text, num, pos⟩)]⟩ ∧ Grow m m' ∧ LV m' lv (fixedL ⟨kd, n, text, num, pos⟩) := by
 have hf : fixedL ⟨kd, n, text, num, pos⟩ = some [2] := by rcases hk with rfl | rfl | rfl | rfl | rfl | rfl | rfl <;> rfl
 rcases hk with rfl | rfl | rfl | rfl | rfl | rfl | rfl
 all_goals
  refine runs_start rfl rfl rfl rfl ?_
  ·(repeat' (first | (apply G.h; constructor <;> (first | exact Zc | apply gI | ((repeat' (first | exact Y0 | apply Y1 | ((first | apply Y4 | apply Y5); simp only [evs, Nat.reduceEqDiff, reduceIte] <;> rfl))); done) | (apply Y6; (try simp only [evs]); first | exact Row.load1 (row_new _ _ _ _) rfl rfl rfl | exact Row.load1 ((row_new _ _ _ _).keep_new _) rfl rfl rfl))) | (apply g_split <;> (first | (apply Ev.mk; (simp only [evs, Nat.reduceEqDiff, reduceIte] <;> rfl)) | (apply Dn.mk; (simp only [evs, Nat.reduceEqDiff, reduceIte] <;> rfl)) | (apply g_wpO) | intro h | constructor | fail))))
   all_goals
    (refine g_fin (by repeat' first | exact Rs.nil | apply Rs.cons | (apply Y4; simp only [evs, Nat.reduceEqDiff, reduceIte] <;> rfl)) (by (simp only [evs, Nat.reduceEqDiff, reduceIte] <;> first | rfl | (congr 1; omega) | omega)) ?_)
    simp only [m_upd, m_mem, m_start]
    refine ⟨_, tup_eq ?_, ((Grow.refl _).new _).new _, LV.of _ _ _ [2] _ (row_new _ _ _ _) (fun i h => by (rcases i with _ | _ | _ | i) <;> first | rfl | (simp only [List.length_cons, List.length_nil] at h; omega)) hf⟩
    focus (simp only [okN, hf]; first | exact (decide_eq_true (by simp only [List.length_cons, List.length_nil]; omega)).symm | exact (decide_eq_false (by simp only [List.length_cons, List.length_nil]; omega)).symm)

set_option maxHeartbeats 4000000 in
theorem places30_4 (n : Int) (text : List UInt8) (num pos : Int) (n1 : -9223372036854775808 ≤ n) (n2 : n ≤ 9223372036854775807) (m : Mem) : Runs evEnv 56 [.agg ⟨Nd.val ⟨4, n, text, num, pos⟩⟩] m fun v m' => ∃ lv, v = .tuple ⟨[lv, .bool (okN ⟨4, n, text, num, pos⟩)]⟩ ∧ Grow m m' ∧ LV m' lv (fixedL ⟨4, n, text, num, pos⟩) := by
 refine runs_start rfl rfl rfl rfl ?_
 ·have hf : fixedL ⟨4, n, text, num, pos⟩ = some [5, 2] := rfl
  (repeat' (first | (apply G.h; constructor <;> (first | exact Zc | apply gI | ((repeat' (first | exact Y0 | apply Y1 | ((first | apply Y4 | apply Y5); simp only [evs, Nat.reduceEqDiff, reduceIte] <;> rfl))); done) | (apply Y6; (try simp only [evs]); first | exact Row.load1 (row_new _ _ _ _) rfl rfl rfl | exact Row.load1 ((row_new _ _ _ _).keep_new _) rfl rfl rfl))) | (apply g_split <;> (first | (apply Ev.mk; (simp only [evs, Nat.reduceEqDiff, reduceIte] <;> rfl)) | (apply Dn.mk; (simp only [evs, Nat.reduceEqDiff, reduceIte] <;> rfl)) | (apply g_wpO) | intro h | constructor | fail))))
  all_goals
   (refine g_fin (by repeat' first | exact Rs.nil | apply Rs.cons | (apply Y4; simp only [evs, Nat.reduceEqDiff, reduceIte] <;> rfl)) (by (simp only [evs, Nat.reduceEqDiff, reduceIte] <;> first | rfl | (congr 1; omega) | omega)) ?_)
   simp only [m_upd, m_mem, m_start]
   refine ⟨_, tup_eq ?_, ((Grow.refl _).new _).new _, LV.of _ _ _ [5, 2] _ (row_new _ _ _ _) (fun i h => by (rcases i with _ | _ | _ | i) <;> first | rfl | (simp only [List.length_cons, List.length_nil] at h; omega)) hf⟩
   focus (simp only [okN, hf]; first | exact (decide_eq_true (by simp only [List.length_cons, List.length_nil]; omega)).symm | exact (decide_eq_false (by simp only [List.length_cons, List.length_nil]; omega)).symm)

set_option maxHeartbeats 4000000 in
theorem places30_5 (n : Int) (text : List UInt8) (num pos : Int) (n1 : -9223372036854775808 ≤ n) (n2 : n ≤ 9223372036854775807) (m : Mem) : Runs evEnv 56 [.agg ⟨Nd.val ⟨5, n, text, num, pos⟩⟩] m fun v m' => ∃ lv, v = .tuple ⟨[lv, .bool (okN ⟨5, n, text, num, pos⟩)]⟩ ∧ Grow m m' ∧ LV m' lv (fixedL ⟨5, n, text, num, pos⟩) := by
 refine runs_start rfl rfl rfl rfl ?_
 rcases Int.lt_or_le 2 n with c1 | c1
 ·have f1 : min (max n 2) 3 = Int.ofNat 3 := by show min (max n 2) 3 = 3; omega
  have hf : fixedL ⟨5, n, text, num, pos⟩ = some [2, 3, 4] := by simp [fixedL, show ¬ (n ≤ 2) by omega]
  (repeat' (first | (apply G.h; constructor <;> (first | exact Zc | apply gI | ((repeat' (first | exact Y0 | apply Y1 | ((first | apply Y4 | apply Y5); simp only [evs, Nat.reduceEqDiff, reduceIte, f1] <;> rfl))); done) | (apply Y6; (try simp only [evs, f1]); first | exact Row.load1 (row_new _ _ _ _) rfl rfl rfl | exact Row.load1 ((row_new _ _ _ _).keep_new _) rfl rfl rfl))) | (apply g_split <;> (first | (apply Ev.mk; (simp only [evs, Nat.reduceEqDiff, reduceIte, f1] <;> rfl)) | (apply Dn.mk; (simp only [evs, Nat.reduceEqDiff, reduceIte, f1] <;> rfl)) | (apply g_wpO) | intro h | constructor | fail))))
  all_goals
   (refine g_fin (by repeat' first | exact Rs.nil | apply Rs.cons | (apply Y4; simp only [evs, Nat.reduceEqDiff, reduceIte, f1] <;> rfl)) (by (simp only [evs, Nat.reduceEqDiff, reduceIte, f1] <;> first | rfl | (congr 1; omega) | omega)) ?_)
   simp only [m_upd, m_mem, m_start]
   refine ⟨_, tup_eq ?_, ((Grow.refl _).new _).new _, LV.of _ _ _ [2, 3, 4] _ (row_new _ _ _ _) (fun i h => by (rcases i with _ | _ | _ | i) <;> first | rfl | (simp only [List.length_cons, List.length_nil] at h; omega)) hf⟩
   focus (simp only [okN, hf]; first | exact (decide_eq_true (by simp only [List.length_cons, List.length_nil]; omega)).symm | exact (decide_eq_false (by simp only [List.length_cons, List.length_nil]; omega)).symm)
 ·have f1 : min (max n 2) 3 = Int.ofNat 2 := by show min (max n 2) 3 = 2; omega
  have hf : fixedL ⟨5, n, text, num, pos⟩ = some [2, 3] := by simp [fixedL, show (n ≤ 2) by omega]
  (repeat' (first | (apply G.h; constructor <;> (first | exact Zc | apply gI | ((repeat' (first | exact Y0 | apply Y1 | ((first | apply Y4 | apply Y5); simp only [evs, Nat.reduceEqDiff, reduceIte, f1] <;> rfl))); done) | (apply Y6; (try simp only [evs, f1]); first | exact Row.load1 (row_new _ _ _ _) rfl rfl rfl | exact Row.load1 ((row_new _ _ _ _).keep_new _) rfl rfl rfl))) | (apply g_split <;> (first | (apply Ev.mk; (simp only [evs, Nat.reduceEqDiff, reduceIte, f1] <;> rfl)) | (apply Dn.mk; (simp only [evs, Nat.reduceEqDiff, reduceIte, f1] <;> rfl)) | (apply g_wpO) | intro h | constructor | fail))))
  all_goals
   (refine g_fin (by repeat' first | exact Rs.nil | apply Rs.cons | (apply Y4; simp only [evs, Nat.reduceEqDiff, reduceIte, f1] <;> rfl)) (by (simp only [evs, Nat.reduceEqDiff, reduceIte, f1] <;> first | rfl | (congr 1; omega) | omega)) ?_)
   simp only [m_upd, m_mem, m_start]
   refine ⟨_, tup_eq ?_, ((Grow.refl _).new _).new _, LV.of _ _ _ [2, 3] _ (row_new _ _ _ _) (fun i h => by (rcases i with _ | _ | _ | i) <;> first | rfl | (simp only [List.length_cons, List.length_nil] at h; omega)) hf⟩
   focus (simp only [okN, hf]; first | exact (decide_eq_true (by simp only [List.length_cons, List.length_nil]; omega)).symm | exact (decide_eq_false (by simp only [List.length_cons, List.length_nil]; omega)).symm)

set_option maxHeartbeats 4000000 in
theorem places30_6 (n : Int) (text : List UInt8) (num pos : Int) (n1 : -9223372036854775808 ≤ n) (n2 : n ≤ 9223372036854775807) (m : Mem) : Runs evEnv 56 [.agg ⟨Nd.val ⟨6, n, text, num, pos⟩⟩] m fun v m' => ∃ lv, v = .tuple ⟨[lv, .bool (okN ⟨6, n, text, num, pos⟩)]⟩ ∧ Grow m m' ∧ LV m' lv (fixedL ⟨6, n, text, num, pos⟩) := by
 refine runs_start rfl rfl rfl rfl ?_
 ·have hf : fixedL ⟨6, n, text, num, pos⟩ = some [2, 3] := rfl
  (repeat' (first | (apply G.h; constructor <;> (first | exact Zc | apply gI | ((repeat' (first | exact Y0 | apply Y1 | ((first | apply Y4 | apply Y5); simp only [evs, Nat.reduceEqDiff, reduceIte] <;> rfl))); done) | (apply Y6; (try simp only [evs]); first | exact Row.load1 (row_new _ _ _ _) rfl rfl rfl | exact Row.load1 ((row_new _ _ _ _).keep_new _) rfl rfl rfl))) | (apply g_split <;> (first | (apply Ev.mk; (simp only [evs, Nat.reduceEqDiff, reduceIte] <;> rfl)) | (apply Dn.mk; (simp only [evs, Nat.reduceEqDiff, reduceIte] <;> rfl)) | (apply g_wpO) | intro h | constructor | fail))))
  all_goals
   (refine g_fin (by repeat' first | exact Rs.nil | apply Rs.cons | (apply Y4; simp only [evs, Nat.reduceEqDiff, reduceIte] <;> rfl)) (by (simp only [evs, Nat.reduceEqDiff, reduceIte] <;> first | rfl | (congr 1; omega) | omega)) ?_)
   simp only [m_upd, m_mem, m_start]
   refine ⟨_, tup_eq ?_, ((Grow.refl _).new _).new _, LV.of _ _ _ [2, 3] _ (row_new _ _ _ _) (fun i h => by (rcases i with _ | _ | _ | i) <;> first | rfl | (simp only [List.length_cons, List.length_nil] at h; omega)) hf⟩
   focus (simp only [okN, hf]; first | exact (decide_eq_true (by simp only [List.length_cons, List.length_nil]; omega)).symm | exact (decide_eq_false (by simp only [List.length_cons, List.length_nil]; omega)).symm)

set_option maxHeartbeats 40000000 in
theorem places30_of7 (kd : Int) (hk : kd = 7 ∨ kd = 8 ∨ kd = 14 ∨ kd = 15 ∨ kd = 16 ∨ kd = 17 ∨ kd = 18 ∨ kd = 19) (n : Int) (text : List UInt8) (num pos : Int) (n1 : -9223372036854775808 ≤ n) (n2 : n ≤ 9223372036854775807) (m : Mem) : Runs evEnv 56 [.agg ⟨Nd.val ⟨kd, n, text, num, pos⟩⟩] m fun v m' => ∃ lv, v = .tuple ⟨[lv, .bool (okN ⟨kd, n, text, num, pos⟩)]⟩ ∧ Grow m m' ∧ LV m' lv (fixedL ⟨kd, n, text, num, pos⟩) := by
 have hf : fixedL ⟨kd, n, text, num, pos⟩ = some [] := by rcases hk with rfl | rfl | rfl | rfl | rfl | rfl | rfl | rfl <;> rfl
 rcases hk with rfl | rfl | rfl | rfl | rfl | rfl | rfl | rfl
 all_goals
  refine runs_start rfl rfl rfl rfl ?_
  ·(repeat' (first | (apply G.h; constructor <;> (first | exact Zc | apply gI | ((repeat' (first | exact Y0 | apply Y1 | ((first | apply Y4 | apply Y5); simp only [evs, Nat.reduceEqDiff, reduceIte] <;> rfl))); done) | (apply Y6; (try simp only [evs]); first | exact Row.load1 (row_new _ _ _ _) rfl rfl rfl | exact Row.load1 ((row_new _ _ _ _).keep_new _) rfl rfl rfl))) | (apply g_split <;> (first | (apply Ev.mk; (simp only [evs, Nat.reduceEqDiff, reduceIte] <;> rfl)) | (apply Dn.mk; (simp only [evs, Nat.reduceEqDiff, reduceIte] <;> rfl)) | (apply g_wpO) | intro h | constructor | fail))))
   all_goals
    (refine g_fin (by repeat' first | exact Rs.nil | apply Rs.cons | (apply Y4; simp only [evs, Nat.reduceEqDiff, reduceIte] <;> rfl)) (by (simp only [evs, Nat.reduceEqDiff, reduceIte] <;> first | rfl | (congr 1; omega) | omega)) ?_)
    simp only [m_upd, m_mem, m_start]
    refine ⟨_, tup_eq ?_, (Grow.refl _).new _, by rw [hf]; exact .inl ⟨rfl, rfl⟩⟩
    focus (simp only [okN, hf]; first | exact (decide_eq_true (by simp only [List.length_nil]; omega)).symm | exact (decide_eq_false (by simp only [List.length_nil]; omega)).symm)

set_option maxHeartbeats 4000000 in
theorem places30_9 (n : Int) (text : List UInt8) (num pos : Int) (n1 : -9223372036854775808 ≤ n) (n2 : n ≤ 9223372036854775807) (m : Mem) : Runs evEnv 56 [.agg ⟨Nd.val ⟨9, n, text, num, pos⟩⟩] m fun v m' => ∃ lv, v = .tuple ⟨[lv, .bool (okN ⟨9, n, text, num, pos⟩)]⟩ ∧ Grow m m' ∧ LV m' lv (fixedL ⟨9, n, text, num, pos⟩) := by
 refine runs_start rfl rfl rfl rfl ?_
 rcases Int.lt_or_le 0 n with c1 | c1
 ·have f1 : min (max n 0) 1 = Int.ofNat 1 := by show min (max n 0) 1 = 1; omega
  have hf : fixedL ⟨9, n, text, num, pos⟩ = some [2] := by simp [fixedL, show ¬ (n ≤ 0) by omega]
  (repeat' (first | (apply G.h; constructor <;> (first | exact Zc | apply gI | ((repeat' (first | exact Y0 | apply Y1 | ((first | apply Y4 | apply Y5); simp only [evs, Nat.reduceEqDiff, reduceIte, f1] <;> rfl))); done) | (apply Y6; (try simp only [evs, f1]); first | exact Row.load1 (row_new _ _ _ _) rfl rfl rfl | exact Row.load1 ((row_new _ _ _ _).keep_new _) rfl rfl rfl))) | (apply g_split <;> (first | (apply Ev.mk; (simp only [evs, Nat.reduceEqDiff, reduceIte, f1] <;> rfl)) | (apply Dn.mk; (simp only [evs, Nat.reduceEqDiff, reduceIte, f1] <;> rfl)) | (apply g_wpO) | intro h | constructor | fail))))
  all_goals
   (refine g_fin (by repeat' first | exact Rs.nil | apply Rs.cons | (apply Y4; simp only [evs, Nat.reduceEqDiff, reduceIte, f1] <;> rfl)) (by (simp only [evs, Nat.reduceEqDiff, reduceIte, f1] <;> first | rfl | (congr 1; omega) | omega)) ?_)
   simp only [m_upd, m_mem, m_start]
   refine ⟨_, tup_eq ?_, ((Grow.refl _).new _).new _, LV.of _ _ _ [2] _ (row_new _ _ _ _) (fun i h => by (rcases i with _ | _ | _ | i) <;> first | rfl | (simp only [List.length_cons, List.length_nil] at h; omega)) hf⟩
   focus (simp only [okN, hf]; first | exact (decide_eq_true (by simp only [List.length_cons, List.length_nil]; omega)).symm | exact (decide_eq_false (by simp only [List.length_cons, List.length_nil]; omega)).symm)
 ·have f1 : min (max n 0) 1 = Int.ofNat 0 := by show min (max n 0) 1 = 0; omega
  have hf : fixedL ⟨9, n, text, num, pos⟩ = some [] := by simp [fixedL, show (n ≤ 0) by omega]
  (repeat' (first | (apply G.h; constructor <;> (first | exact Zc | apply gI | ((repeat' (first | exact Y0 | apply Y1 | ((first | apply Y4 | apply Y5); simp only [evs, Nat.reduceEqDiff, reduceIte, f1] <;> rfl))); done) | (apply Y6; (try simp only [evs, f1]); first | exact Row.load1 (row_new _ _ _ _) rfl rfl rfl | exact Row.load1 ((row_new _ _ _ _).keep_new _) rfl rfl rfl))) | (apply g_split <;> (first | (apply Ev.mk; (simp only [evs, Nat.reduceEqDiff, reduceIte, f1] <;> rfl)) | (apply Dn.mk; (simp only [evs, Nat.reduceEqDiff, reduceIte, f1] <;> rfl)) | (apply g_wpO) | intro h | constructor | fail))))
  all_goals
   (refine g_fin (by repeat' first | exact Rs.nil | apply Rs.cons | (apply Y4; simp only [evs, Nat.reduceEqDiff, reduceIte, f1] <;> rfl)) (by (simp only [evs, Nat.reduceEqDiff, reduceIte, f1] <;> first | rfl | (congr 1; omega) | omega)) ?_)
   simp only [m_upd, m_mem, m_start]
   refine ⟨_, tup_eq ?_, ((Grow.refl _).new _).new _, LV.of _ _ _ [] _ (row_new _ _ _ _) (fun i h => by (rcases i with _ | _ | _ | i) <;> first | rfl | (simp only [List.length_cons, List.length_nil] at h; omega)) hf⟩
   focus (simp only [okN, hf]; first | exact (decide_eq_true (by simp only [List.length_cons, List.length_nil]; omega)).symm | exact (decide_eq_false (by simp only [List.length_cons, List.length_nil]; omega)).symm)

set_option maxHeartbeats 4000000 in
theorem places30_11 (n : Int) (text : List UInt8) (num pos : Int) (n1 : -9223372036854775808 ≤ n) (n2 : n ≤ 9223372036854775807) (m : Mem) : Runs evEnv 56 [.agg ⟨Nd.val ⟨11, n, text, num, pos⟩⟩] m fun v m' => ∃ lv, v = .tuple ⟨[lv, .bool (okN ⟨11, n, text, num, pos⟩)]⟩ ∧ Grow m m' ∧ LV m' lv (fixedL ⟨11, n, text, num, pos⟩) := by
 refine runs_start rfl rfl rfl rfl ?_
 ·have hf : fixedL ⟨11, n, text, num, pos⟩ = some [3, 3] := rfl
  (repeat' (first | (apply G.h; constructor <;> (first | exact Zc | apply gI | ((repeat' (first | exact Y0 | apply Y1 | ((first | apply Y4 | apply Y5); simp only [evs, Nat.reduceEqDiff, reduceIte] <;> rfl))); done) | (apply Y6; (try simp only [evs]); first | exact Row.load1 (row_new _ _ _ _) rfl rfl rfl | exact Row.load1 ((row_new _ _ _ _).keep_new _) rfl rfl rfl))) | (apply g_split <;> (first | (apply Ev.mk; (simp only [evs, Nat.reduceEqDiff, reduceIte] <;> rfl)) | (apply Dn.mk; (simp only [evs, Nat.reduceEqDiff, reduceIte] <;> rfl)) | (apply g_wpO) | intro h | constructor | fail))))
  all_goals
   (refine g_fin (by repeat' first | exact Rs.nil | apply Rs.cons | (apply Y4; simp only [evs, Nat.reduceEqDiff, reduceIte] <;> rfl)) (by (simp only [evs, Nat.reduceEqDiff, reduceIte] <;> first | rfl | (congr 1; omega) | omega)) ?_)
   simp only [m_upd, m_mem, m_start]
   refine ⟨_, tup_eq ?_, ((Grow.refl _).new _).new _, LV.of _ _ _ [3, 3] _ (row_new _ _ _ _) (fun i h => by (rcases i with _ | _ | _ | i) <;> first | rfl | (simp only [List.length_cons, List.length_nil] at h; omega)) hf⟩
   focus (simp only [okN, hf]; first | exact (decide_eq_true (by simp only [List.length_cons, List.length_nil]; omega)).symm | exact (decide_eq_false (by simp only [List.length_cons, List.length_nil]; omega)).symm)

set_option maxHeartbeats 40000000 in
theorem places30_of23 (kd : Int) (hk : kd = 23 ∨ kd = 24 ∨ kd = 25 ∨ kd = 29) (n : Int) (text : List UInt8) (num pos : Int) (n1 : -9223372036854775808 ≤ n) (n2 : n ≤ 9223372036854775807) (m : Mem) : Runs evEnv 56 [.agg ⟨Nd.val ⟨kd, n, text, num, pos⟩⟩] m fun v m' => ∃ lv, v = .tuple ⟨[lv, .bool (okN ⟨kd, n, text, num, pos⟩)]⟩ ∧ Grow m m' ∧ LV m' lv (fixedL ⟨kd, n, text, num, pos⟩) := by
 have hf : fixedL ⟨kd, n, text, num, pos⟩ = some [2, 2] := by rcases hk with rfl | rfl | rfl | rfl <;> rfl
 rcases hk with rfl | rfl | rfl | rfl
 all_goals
  refine runs_start rfl rfl rfl rfl ?_
  ·(repeat' (first | (apply G.h; constructor <;> (first | exact Zc | apply gI | ((repeat' (first | exact Y0 | apply Y1 | ((first | apply Y4 | apply Y5); simp only [evs, Nat.reduceEqDiff, reduceIte] <;> rfl))); done) | (apply Y6; (try simp only [evs]); first | exact Row.load1 (row_new _ _ _ _) rfl rfl rfl | exact Row.load1 ((row_new _ _ _ _).keep_new _) rfl rfl rfl))) | (apply g_split <;> (first | (apply Ev.mk; (simp only [evs, Nat.reduceEqDiff, reduceIte] <;> rfl)) | (apply Dn.mk; (simp only [evs, Nat.reduceEqDiff, reduceIte] <;> rfl)) | (apply g_wpO) | intro h | constructor | fail))))
   all_goals
    (refine g_fin (by repeat' first | exact Rs.nil | apply Rs.cons | (apply Y4; simp only [evs, Nat.reduceEqDiff, reduceIte] <;> rfl)) (by (simp only [evs, Nat.reduceEqDiff, reduceIte] <;> first | rfl | (congr 1; omega) | omega)) ?_)
    simp only [m_upd, m_mem, m_start]
    refine ⟨_, tup_eq ?_, ((Grow.refl _).new _).new _, LV.of _ _ _ [2, 2] _ (row_new _ _ _ _) (fun i h => by (rcases i with _ | _ | _ | i) <;> first | rfl | (simp only [List.length_cons, List.length_nil] at h; omega)) hf⟩
    focus (simp only [okN, hf]; first | exact (decide_eq_true (by simp only [List.length_cons, List.length_nil]; omega)).symm | exact (decide_eq_false (by simp only [List.length_cons, List.length_nil]; omega)).symm)

theorem places30 (x : Nd) (m : Mem) (hx : x.ok) (h1 : 1 ≤ x.kind) (h2 : x.kind ≤ 32) : Runs evEnv 56 [.agg ⟨x.val⟩] m fun v m' => ∃ lv, v = .tuple ⟨[lv, .bool (okN x)]⟩ ∧ Grow m m' ∧ LV m' lv (fixedL x) := by
 obtain ⟨kind, n, text, num, pos⟩ := x
 obtain ⟨-, ⟨n1, n2⟩, -, -⟩ := hx
 refine kinds h1 h2 (P := fun kind => Runs evEnv 56 [.agg ⟨Nd.val ⟨kind, n, text, num, pos⟩⟩] m fun v m' => ∃ lv, v = .tuple ⟨[lv, .bool (okN ⟨kind, n, text, num, pos⟩)]⟩ ∧ Grow m m' ∧ LV m' lv (fixedL ⟨kind, n, text, num, pos⟩))
  (places30_of1 1 (by decide) n text num pos n1 n2 m) (places30_of1 2 (by decide) n text num pos n1 n2 m) (places30_of3 3 (by decide) n text num pos n1 n2 m) (places30_4 n text num pos n1 n2 m) (places30_5 n text num pos n1 n2 m) (places30_6 n text num pos n1 n2 m) (places30_of7 7 (by decide) n text num pos n1 n2 m) (places30_of7 8 (by decide) n text num pos n1 n2 m) (places30_9 n text num pos n1 n2 m) (places30_of3 10 (by decide) n text num pos n1 n2 m) (places30_11 n text num pos n1 n2 m) (places30_of1 12 (by decide) n text num pos n1 n2 m) (places30_of3 13 (by decide) n text num pos n1 n2 m) (places30_of7 14 (by decide) n text num pos n1 n2 m) (places30_of7 15 (by decide) n text num pos n1 n2 m) (places30_of7 16 (by decide) n text num pos n1 n2 m) (places30_of7 17 (by decide) n text num pos n1 n2 m) (places30_of7 18 (by decide) n text num pos n1 n2 m) (places30_of7 19 (by decide) n text num pos n1 n2 m) (places30_of1 20 (by decide) n text num pos n1 n2 m) (places30_of1 21 (by decide) n text num pos n1 n2 m) (places30_of3 22 (by decide) n text num pos n1 n2 m) (places30_of23 23 (by decide) n text num pos n1 n2 m) (places30_of23 24 (by decide) n text num pos n1 n2 m) (places30_of23 25 (by decide) n text num pos n1 n2 m) (places30_of3 26 (by decide) n text num pos n1 n2 m) (places30_of3 27 (by decide) n text num pos n1 n2 m) (places30_of1 28 (by decide) n text num pos n1 n2 m) (places30_of23 29 (by decide) n text num pos n1 n2 m) (places30_of3 30 (by decide) n text num pos n1 n2 m) (places30_of1 31 (by decide) n text num pos n1 n2 m) (places30_of1 32 (by decide) n text num pos n1 n2 m)
end Go.Proofs.YtihokakelnfdgaaDoor
