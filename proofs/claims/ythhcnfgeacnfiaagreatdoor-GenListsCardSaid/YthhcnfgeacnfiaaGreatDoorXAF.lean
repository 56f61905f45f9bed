/- Part of a verified evaluator of the model's programs and of runs by it: JA JB JC JD JE. -/
import Derived.Test.YthhcnfgeacnfiaaGreatDoorXAE
namespace Go.Proofs.YthhcnfgeacnfiaaGreatDoor
open Go Go.Ev
set_option maxRecDepth 100000
set_option linter.unusedVariables false
set_option linter.unusedSimpArgs false
set_option pp.maxSteps 1500

/-! gen: what nodes are made of, and how many values they need, in these programs. -/
theorem D_zero1 (n j : Nat) (h : j < n) : D ((listN n).drop (3 + j)) 1 = some 1 := by
 have hx := listN_at h
 have hlt := (List.getElem?_eq_some_iff.1 hx).1
 have he : (listN n)[3 + j] = zeroN j := (List.getElem?_eq_some_iff.1 hx).2
 rw [List.drop_eq_getElem_cons hlt, he, D]
 show (D _ (0 + 0)).map (· + 1) = _
 rw [Nat.add_zero, D_zero]; rfl
theorem D_two (n : Nat) : D ((listN n).drop 2) 1 = some (1 + n) := by
 show ((D (zeros 0 n) (0 + (n : Int).toNat)).map (· + 1)) = _
 rw [Nat.zero_add, show ((n : Int)).toNat = n from rfl, D_zeros]
 simp only [Option.map_some]
 congr 1; omega
theorem rangeI_snoc (ps : Nat → Nat) (j : Nat) : ((List.range (j + 1)).map fun i => I (ps i)) = ((List.range j).map fun i => I (ps i)) ++ [I (ps j)] := by
 rw [List.range_succ, List.map_append]; rfl
attribute [local irreducible] quiet allocs effect wp ret wpO Runs Act.tmp Act.eval fin results Tree.set binOp loadAt storeAt target wanted cellsFrom

set_option maxHeartbeats 2000000 in
/-- the places of what a node is made of. -/
theorem kids37 {m : Mem} (b off cap n at_ c : Nat) {x : Nd} (ps : Nat → Nat) (hn : n ≤ 1000) (hc : c ≤ 1000) (hN : Nodes m b off (listN n)) (hb : b < m.next) (hx : (listN n)[at_]? = some x) (hxn : x.n = c) (h0 : ps 0 = at_ + 1)
  (hps : ∀ j, j < c → ps j < 3 + n ∧ D ((listN n).drop (ps j)) 1 = some (ps (j + 1) - ps j) ∧ ps j ≤ ps (j + 1)) (hpc : ps c ≤ 3 + n) :
  Runs evEnv 37 [.slice (some ⟨b, off, none⟩) (3 + n) cap, I at_] m fun v m' => Keep (fun c => c < m.next) [3] m m' ∧ Sl (fun c => c < m.next) m' v 3 1 ((List.range c).map fun j => I (ps j)) := by
 have hat : at_ < 3 + n := by have := (List.getElem?_eq_some_iff.1 hx).1; rw [listN_len] at this; exact this
 have hld : loadAt evEnv m 3 b (off + at_ * 5 + 1) = some (I c) := by
  obtain ⟨hi, e⟩ := List.getElem?_eq_some_iff.1 hx
  have := hN.n at_ hi
  rw [e, hxn] at this; exact this
 refine runs_start rfl rfl rfl rfl ?_
 (repeat (first | (apply G.h; constructor <;> (first | exact Zc | apply gI | ((repeat' (first | exact Y0 | apply Y1 | ((first | apply Y4 | apply Y5); simp only [evs, Nat.reduceEqDiff, reduceIte] <;> rfl))); done) | (apply Y6; (try simp only [evs]); first | exact hld)))))
 refine ewp_loop (ι := Nat) (fun j a => (a.n = 28 ∧ a.defers = [] ∧ a.tmp 0 = .slice (some ⟨b, off, none⟩) (3 + n) cap ∧ a.tmp 6 = I (ps j) ∧ a.tmp 13 = I c ∧ a.tmp 14 = I j) ∧ j ≤ c ∧ Keep (fun c => c < m.next) [3] m a.m ∧ ∃ lv, a.tmp 5 = lv ∧ Sl (fun c => c < m.next) a.m lv 3 1 ((List.range j).map fun i => I (ps i))) (fun j => c - j) 0 ?_ ?_
 ·exact ⟨⟨by (simp only [evs, Nat.reduceEqDiff, reduceIte] <;> first | rfl | (congr 1; omega) | omega), by (simp only [evs, Nat.reduceEqDiff, reduceIte] <;> first | rfl | (congr 1; omega) | omega), by (simp only [evs, Nat.reduceEqDiff, reduceIte] <;> first | rfl | (congr 1; omega) | omega), by rw [h0]; (simp only [evs, Nat.reduceEqDiff, reduceIte] <;> first | rfl | (congr 1; omega) | omega), by (simp only [evs, Nat.reduceEqDiff, reduceIte] <;> first | rfl | (congr 1; omega) | omega), by (simp only [evs, Nat.reduceEqDiff, reduceIte] <;> first | rfl | (congr 1; omega) | omega)⟩, Nat.zero_le _, by simp only [evs]; exact Keep.refl, .slice none 0 0, by (simp only [evs, Nat.reduceEqDiff, reduceIte] <;> first | rfl | (congr 1; omega) | omega), .inl ⟨rfl, rfl⟩⟩
 rintro j a ⟨⟨qn, qd, q0, q6, q13, q14⟩, hj, qk, lv, q5, qs⟩ ih
 rcases Nat.lt_or_ge j c with hlt | hge
 ·obtain ⟨p1, p2, p3⟩ := hps j hlt
  have hin : effect.cellsIn (a.m.new (rowObj [I (ps j)] 3 0)) 1 (.slice (some ⟨a.m.next, 0, none⟩) 1 1) = some (1, [I (ps j)]) := cellsIn_row (kc := 1) (new := [I (ps j)]) (row_new a.m [I (ps j)] 3 0) (Nat.le_refl 1) rfl
  have s1 := qs.grow ((Grow.refl a.m).new (rowObj [I (ps j)] 3 0))
  have hX : ∀ c, c < m.next → c < (a.m.new (rowObj [I (ps j)] 3 0)).next := fun c hc => Nat.lt_succ_of_lt (Nat.lt_of_lt_of_le hc qk.1)
  have hll : ((List.range j).map fun i => I (ps i)).length ≤ 1000 := by rw [List.length_map, List.length_range]; omega
  (repeat (first | (apply G.h; constructor <;> (first | exact Zc | apply gI | ((repeat' (first | exact Y0 | apply Y1 | ((first | apply Y4 | apply Y5); simp only [evs, Nat.reduceEqDiff, reduceIte, qn, qd, q0, q6, q13, q14] <;> rfl))); done) | (apply Y6; (try simp only [evs, qn, qd, q0, q6, q13, q14]); first | rfl)))))
  (apply g_app <;> (first | exact Zc | apply gI | ((repeat' (first | exact Y0 | apply Y1 | exact Y2 | apply Y3 | ((first | apply Y4 | apply Y5); simp only [evs, Nat.reduceEqDiff, reduceIte, qn, qd, q0, q6, q13, q14, q5] <;> rfl))); done) | (apply Hy.mk; (try simp only [evs, qn, qd, q0, q6, q13, q14, q5]); first | exact hin | exact s1 | exact hX | assumption) | (apply Om.mk; first | exact hin | exact s1 | exact hX) | (apply Y6; (try simp only [evs, qn, qd, q0, q6, q13, q14, q5]); first | rfl) | apply Cn.mk))
  intro v' m2 s2 k2 o2 b2 f2
  simp only [evs, qn, qd, q0, q6, q13, q14] at s2 k2
  have k2' : Keep (fun c => c < m.next) [3] m m2 := qk.trans ((Keep.new _).trans k2)
  have hN2 : Nodes m2 b off (listN n) := hN.stay (X := fun c => c < m.next) hb hb k2'
  (repeat (first | (apply G.h; constructor <;> (first | exact Zc | apply gI | ((repeat' (first | exact Y0 | apply Y1 | ((first | apply Y4 | apply Y5); simp only [evs, Nat.reduceEqDiff, reduceIte, qn, qd, q0, q6, q13, q14] <;> rfl))); done) | (apply Y6; (try simp only [evs, qn, qd, q0, q6, q13, q14]); first | rfl)))))
  ((first | apply g_run | apply g_run0) <;> (first | ((repeat' (first | exact Y0 | apply Y1 | exact Y2 | apply Y3 | ((first | apply Y4 | apply Y5); simp only [evs, Nat.reduceEqDiff, reduceIte, qn, qd, q0, q6, q13, q14] <;> rfl))); done) | exact Rn.mk ((by simp only [evs, qn, qd, q0, q6, q13, q14]; exact behindL m2 b off cap n (ps j) _ hN2 hn p1 p2)) | apply Cn.mk))
  rintro v m3 ⟨rfl, e3⟩
  try simp only [evs, qn, qd, q0, q6, q13, q14] at e3
  replace e3 := e3.symm
  subst e3
  rw [show ps j + (ps (j + 1) - ps j) = ps (j + 1) by omega]
  (repeat (first | (apply G.h; constructor <;> (first | exact Zc | apply gI | ((repeat' (first | exact Y0 | apply Y1 | ((first | apply Y4 | apply Y5); simp only [evs, Nat.reduceEqDiff, reduceIte, qn, qd, q0, q6, q13, q14] <;> rfl))); done) | (apply Y6; (try simp only [evs, qn, qd, q0, q6, q13, q14]); first | rfl)))))
  refine ih (j + 1) _ ⟨(by refine ⟨?_, ?_, ?_, ?_, ?_, ?_⟩ <;> (simp only [evs, Nat.reduceEqDiff, reduceIte, qn, qd, q0, q6, q13, q14] <;> first | rfl | (congr 1; omega) | omega)), hlt, by simp only [evs]; exact k2', v', by (simp only [evs, Nat.reduceEqDiff, reduceIte, qn, qd, q0, q6, q13, q14] <;> first | rfl | (congr 1; omega) | omega), ?_⟩ (by omega)
  simp only [evs]
  rw [rangeI_snoc]; exact s2
 ·obtain rfl : j = c := by omega
  (repeat (first | (apply G.h; constructor <;> (first | exact Zc | apply gI | ((repeat' (first | exact Y0 | apply Y1 | ((first | apply Y4 | apply Y5); simp only [evs, Nat.reduceEqDiff, reduceIte, qn, qd, q0, q6, q13, q14, q5] <;> rfl))); done) | (apply Y6; (try simp only [evs, qn, qd, q0, q6, q13, q14, q5]); first | rfl)))))
  (refine g_fin (by repeat' first | exact Rs.nil | apply Rs.cons | (apply Y4; simp only [evs, Nat.reduceEqDiff, reduceIte, qn, qd, q0, q6, q13, q14, q5] <;> rfl)) (by (simp only [evs, Nat.reduceEqDiff, reduceIte, qn, qd, q0, q6, q13, q14, q5] <;> first | rfl | (congr 1; omega) | omega)) ?_)
  exact ⟨by simp only [evs]; exact qk, by simp only [evs]; exact qs⟩
/-- of a number: nothing. -/
theorem kidsNum {m : Mem} (b off cap n j : Nat) (hn : n ≤ 1000) (hN : Nodes m b off (listN n)) (hb : b < m.next) (hj : j < n) :
  Runs evEnv 37 [.slice (some ⟨b, off, none⟩) (3 + n) cap, I (3 + j : Nat)] m fun v m' => Keep (fun c => c < m.next) [3] m m' ∧ Sl (fun c => c < m.next) m' v 3 1 [] :=
 kids37 b off cap n (3 + j) 0 (fun _ => 3 + j + 1) hn (by decide) hN hb (listN_at hj) rfl rfl (fun i hi => absurd hi (Nat.not_lt_zero _)) (by show 3 + j + 1 ≤ 3 + n; omega)
theorem kidsProg {m : Mem} (b off cap n : Nat) (hn : n ≤ 1000) (hN : Nodes m b off (listN n)) (hb : b < m.next) :
  Runs evEnv 37 [.slice (some ⟨b, off, none⟩) (3 + n) cap, I (0 : Nat)] m fun v m' => Keep (fun c => c < m.next) [3] m m' ∧ Sl (fun c => c < m.next) m' v 3 1 [I (1 : Nat)] :=
 kids37 b off cap n 0 1 (fun j => if j = 0 then 1 else 3 + n) hn (by decide) hN hb (x := ⟨1, 1, [], 0, 0⟩) rfl rfl rfl (fun j hj => by
  obtain rfl : j = 0 := by omega
  refine ⟨by show 1 < 3 + n; omega, ?_, by show 1 ≤ 3 + n; omega⟩
  show D ((listN n).drop 1) 1 = some (3 + n - 1)
  rw [D_list]; congr 1; omega) (by show 3 + n ≤ 3 + n; omega)
theorem kidsVar {m : Mem} (b off cap n : Nat) (hn : n ≤ 1000) (hN : Nodes m b off (listN n)) (hb : b < m.next) :
  Runs evEnv 37 [.slice (some ⟨b, off, none⟩) (3 + n) cap, I (1 : Nat)] m fun v m' => Keep (fun c => c < m.next) [3] m m' ∧ Sl (fun c => c < m.next) m' v 3 1 [I (2 : Nat)] :=
 kids37 b off cap n 1 1 (fun j => if j = 0 then 2 else 3 + n) hn (by decide) hN hb (x := ⟨3, 1, [120], 0, 0⟩) rfl rfl rfl (fun j hj => by
  obtain rfl : j = 0 := by omega
  refine ⟨by show 2 < 3 + n; omega, ?_, by show 2 ≤ 3 + n; omega⟩
  show D ((listN n).drop 2) 1 = some (3 + n - 2)
  rw [D_two]; congr 1; omega) (by show 3 + n ≤ 3 + n; omega)
theorem kidsList {m : Mem} (b off cap n : Nat) (hn : n ≤ 1000) (hN : Nodes m b off (listN n)) (hb : b < m.next) :
  Runs evEnv 37 [.slice (some ⟨b, off, none⟩) (3 + n) cap, I (2 : Nat)] m fun v m' => Keep (fun c => c < m.next) [3] m m' ∧ Sl (fun c => c < m.next) m' v 3 1 ((List.range n).map fun j => I (3 + j : Nat)) :=
 kids37 b off cap n 2 n (fun j => 3 + j) hn hn hN hb (x := ⟨20, n, [], 0, 8⟩) rfl rfl rfl (fun j hj => by
  refine ⟨by show 3 + j < 3 + n; omega, ?_, by show 3 + j ≤ 3 + (j + 1); omega⟩
  show D ((listN n).drop (3 + j)) 1 = some (3 + (j + 1) - (3 + j))
  rw [D_zero1 n j hj]; congr 1; omega) (Nat.le_refl _)

/-! How many values are needed. -/
set_option maxHeartbeats 2000000 in
theorem needNum {m : Mem} (b off cap n j : Nat) (hn : n ≤ 1000) (hN : Nodes m b off (listN n)) (hb : b < m.next) (hj : j < n) :
  Runs evEnv 15 [.slice (some ⟨b, off, none⟩) (3 + n) cap, I (3 + j : Nat)] m fun v m' => v = .tuple ⟨[I 1, I (3 + (j + 1) : Nat)]⟩ ∧ Grow m m' := by
 have hld := hN.get (listN_at hj)
 have z := row_new m [I 0, I 0, encS [], I 0, I 0] 58 0
 refine runs_start rfl rfl rfl rfl ?_
 (repeat (first | (apply G.h; constructor <;> (first | exact Zc | apply gI | ((repeat' (first | exact Y0 | apply Y1 | ((first | apply Y4 | apply Y5); simp only [evs, Nat.reduceEqDiff, reduceIte] <;> rfl))); done) | (apply Y6; (try simp only [evs]); first | exact hld)))))
 (apply g_stR <;> (first | exact Zc | apply gI | ((repeat' (first | exact Y0 | apply Y1 | exact Y2 | apply Y3 | ((first | apply Y4 | apply Y5); simp only [evs, Nat.reduceEqDiff, reduceIte] <;> rfl))); done) | (apply Hy.mk; (try simp only [evs]); first | exact z | assumption) | (apply Om.mk; first | exact z) | (apply Y6; (try simp only [evs]); first | rfl) | apply Cn.mk))
 intro m2 r2 o2 n2; simp only [evs] at r2 o2 n2
 replace r2 : Row m2 m.next [I 14, I 0, encS [], I 0, I (9 + 3 * j : Nat)] 58 0 := r2
 have g2 : Grow m m2 := ((Grow.refl m).new _).wrote (Nat.le_refl _) o2 n2
 (repeat (first | (apply G.h; constructor <;> (first | exact Zc | apply gI | ((repeat' (first | exact Y0 | apply Y1 | ((first | apply Y4 | apply Y5); simp only [evs, Nat.reduceEqDiff, reduceIte] <;> rfl))); done) | (apply Y6; (try simp only [evs]); first | exact r2.load1 rfl rfl rfl)))))
 refine ewp_loop (ι := Unit) (fun _ a => (a.n = 57 ∧ a.defers = [] ∧ a.tmp 7 = I 1 ∧ a.tmp 8 = I (3 + (j + 1) : Nat) ∧ a.tmp 29 = I 0 ∧ a.tmp 30 = I 0) ∧ a.m = m2) (fun _ => 0) () ?_ ?_
 ·exact ⟨(by refine ⟨?_, ?_, ?_, ?_, ?_, ?_⟩ <;> (simp only [evs, Nat.reduceEqDiff, reduceIte] <;> first | rfl | (congr 1; omega) | omega)), by (simp only [evs, Nat.reduceEqDiff, reduceIte] <;> first | rfl | (congr 1; omega) | omega)⟩
 rintro - a ⟨⟨un, ud, u7, u8, u29, u30⟩, um⟩ -
 (repeat (first | (apply G.h; constructor <;> (first | exact Zc | apply gI | ((repeat' (first | exact Y0 | apply Y1 | ((first | apply Y4 | apply Y5); simp only [evs, Nat.reduceEqDiff, reduceIte, un, ud, u7, u8, u29, u30, um] <;> rfl))); done) | (apply Y6; (try simp only [evs, un, ud, u7, u8, u29, u30, um]); first | rfl)))))
 (refine g_fin (by repeat' first | exact Rs.nil | apply Rs.cons | (apply Y4; simp only [evs, Nat.reduceEqDiff, reduceIte, un, ud, u7, u8, u29, u30, um] <;> rfl)) (by (simp only [evs, Nat.reduceEqDiff, reduceIte, un, ud, u7, u8, u29, u30, um] <;> first | rfl | (congr 1; omega) | omega)) ?_)
 exact ⟨rfl, by simp only [evs, um]; exact g2⟩
set_option maxHeartbeats 2000000 in
theorem needList {m : Mem} (b off cap n : Nat) (hn0 : 0 < n) (hn : n ≤ 1000) (hN : Nodes m b off (listN n)) (hb : b < m.next) :
  Runs evEnv 15 [.slice (some ⟨b, off, none⟩) (3 + n) cap, I (2 : Nat)] m fun v m' => v = .tuple ⟨[I n, I (3 + n : Nat)]⟩ ∧ Grow m m' := by
 have hld := hN.get (i := 2) (x := ⟨20, n, [], 0, 8⟩) rfl
 have z := row_new m [I 0, I 0, encS [], I 0, I 0] 58 0
 have h23 : 2 < 3 + n := by omega
 refine runs_start rfl rfl rfl rfl ?_
 (repeat (first | (apply G.h; constructor <;> (first | exact Zc | apply gI | ((repeat' (first | exact Y0 | apply Y1 | ((first | apply Y4 | apply Y5); simp only [evs, Nat.reduceEqDiff, reduceIte] <;> rfl))); done) | (apply Y6; (try simp only [evs]); first | exact hld)))))
 (apply g_stR <;> (first | exact Zc | apply gI | ((repeat' (first | exact Y0 | apply Y1 | exact Y2 | apply Y3 | ((first | apply Y4 | apply Y5); simp only [evs, Nat.reduceEqDiff, reduceIte] <;> rfl))); done) | (apply Hy.mk; (try simp only [evs]); first | exact z | assumption) | (apply Om.mk; first | exact z) | (apply Y6; (try simp only [evs]); first | rfl) | apply Cn.mk))
 intro m2 r2 o2 n2; simp only [evs] at r2 o2 n2
 replace r2 : Row m2 m.next [I 20, I n, encS [], I 0, I 8] 58 0 := r2
 have g2 : Grow m m2 := ((Grow.refl m).new _).wrote (Nat.le_refl _) o2 n2
 (repeat (first | (apply G.h; constructor <;> (first | exact Zc | apply gI | ((repeat' (first | exact Y0 | apply Y1 | ((first | apply Y4 | apply Y5); simp only [evs, Nat.reduceEqDiff, reduceIte] <;> rfl))); done) | (apply Y6; (try simp only [evs]); first | exact r2.load1 rfl rfl rfl)))))
 refine ewp_loop (ι := Nat) (fun j a => (a.n = 57 ∧ a.defers = [] ∧ a.tmp 0 = .slice (some ⟨b, off, none⟩) (3 + n) cap ∧ a.tmp 6 = ptr m.next ∧ a.tmp 7 = I (max 1 j : Nat) ∧ a.tmp 8 = I (3 + j : Nat) ∧ a.tmp 29 = I n ∧ a.tmp 30 = I j) ∧ j ≤ n ∧ Grow m2 a.m) (fun j => n - j) 0 ?_ ?_
 ·exact ⟨(by refine ⟨?_, ?_, ?_, ?_, ?_, ?_, ?_, ?_⟩ <;> (simp only [evs, Nat.reduceEqDiff, reduceIte] <;> first | rfl | (congr 1; omega) | omega)), Nat.zero_le _, by simp only [evs]; exact Grow.refl m2⟩
 rintro j a ⟨⟨wn, wd, w0, w6, w7, w8, w29, w30⟩, hj, wg⟩ ih
 rcases Nat.lt_or_ge j n with hlt | hge
 ·have hNa := hN.grow hb (g2.trans wg)
  have hba : b < a.m.next := Nat.lt_of_lt_of_le hb (g2.trans wg).1
  (repeat (first | (apply G.h; constructor <;> (first | exact Zc | apply gI | ((repeat' (first | exact Y0 | apply Y1 | ((first | apply Y4 | apply Y5); simp only [evs, Nat.reduceEqDiff, reduceIte, wn, wd, w0, w6, w7, w8, w29, w30] <;> rfl))); done) | (apply Y6; (try simp only [evs, wn, wd, w0, w6, w7, w8, w29, w30]); first | rfl)))))
  ((first | apply g_run | apply g_run0) <;> (first | ((repeat' (first | exact Y0 | apply Y1 | exact Y2 | apply Y3 | ((first | apply Y4 | apply Y5); simp only [evs, Nat.reduceEqDiff, reduceIte, wn, wd, w0, w6, w7, w8, w29, w30] <;> rfl))); done) | exact Rn.mk ((by simp only [evs, wn, wd, w0, w6, w7, w8, w29, w30]; exact needNum b off cap n j hn hNa hba hlt)) | apply Cn.mk))
  rintro v m3 ⟨rfl, g3⟩
  try simp only [evs, wn, wd, w0, w6, w7, w8, w29, w30] at g3
  have r3 := (r2.grow wg).grow g3
  (repeat (first | (apply G.h; constructor <;> (first | exact Zc | apply gI | ((repeat' (first | exact Y0 | apply Y1 | ((first | apply Y4 | apply Y5); simp only [evs, Nat.reduceEqDiff, reduceIte, wn, wd, w0, w6, w7, w8, w29, w30] <;> rfl))); done) | (apply Y6; (try simp only [evs, wn, wd, w0, w6, w7, w8, w29, w30]); first | exact r3.load1 rfl rfl rfl)))))
  refine ih (j + 1) _ ⟨(by refine ⟨?_, ?_, ?_, ?_, ?_, ?_, ?_, ?_⟩ <;> (simp only [evs, Nat.reduceEqDiff, reduceIte, wn, wd, w0, w6, w7, w8, w29, w30] <;> first | rfl | (congr 1; omega) | omega)), hlt, by simp only [evs]; exact wg.trans g3⟩ (by omega)
 ·obtain rfl : j = n := by omega
  rw [show max 1 j = j by omega] at w7
  (repeat (first | (apply G.h; constructor <;> (first | exact Zc | apply gI | ((repeat' (first | exact Y0 | apply Y1 | ((first | apply Y4 | apply Y5); simp only [evs, Nat.reduceEqDiff, reduceIte, wn, wd, w0, w6, w7, w8, w29, w30] <;> rfl))); done) | (apply Y6; (try simp only [evs, wn, wd, w0, w6, w7, w8, w29, w30]); first | rfl)))))
  (refine g_fin (by repeat' first | exact Rs.nil | apply Rs.cons | (apply Y4; simp only [evs, Nat.reduceEqDiff, reduceIte, wn, wd, w0, w6, w7, w8, w29, w30] <;> rfl)) (by (simp only [evs, Nat.reduceEqDiff, reduceIte, wn, wd, w0, w6, w7, w8, w29, w30] <;> first | rfl | (congr 1; omega) | omega)) ?_)
  exact ⟨rfl, by simp only [evs]; exact g2.trans wg⟩
end Go.Proofs.YthhcnfgeacnfiaaGreatDoor

namespace Go.Proofs.YthhcnfgeacnfiaaGreatDoor
open Go Go.Ev
set_option maxRecDepth 100000
set_option linter.unusedVariables false
set_option linter.unusedSimpArgs false
set_option pp.maxSteps 1500

/-! The maker of a function's code, in these programs. -/
structure GA where
 b : Nat
 off : Nat
 cap : Nat
 n : Nat
 gb : Nat
 kb : Nat
 n0 : Nat
 ub : Nat
 uc : Nat
 sb : Nat
 fb : Nat
 fv : Value
 gv : Value
/-- what the declared name means. -/
def Ul (m : Mem) (ub : Nat) : Prop := ∃ ur, Row m ub ur 116 0 ∧ 4 ≤ ur.length ∧ (ur.drop 2).take 2 = [I 4, I 0]
theorem Ul.stay {X : Nat → Prop} {T : List Nat} {m m' : Mem} {ub : Nat} (h : Ul m ub) (hx : X ub) (k : Keep X T m m') : Ul m' ub := by
 obtain ⟨ur, h1, h2⟩ := h
 exact ⟨ur, h1.stay k (.inl hx), h2⟩
theorem Ul.lt {m : Mem} {ub : Nat} (h : Ul m ub) : ub < m.next := by obtain ⟨ur, h1, -⟩ := h; exact h1.1
theorem Ul.grow {m m' : Mem} {ub : Nat} (h : Ul m ub) (g : Grow m m') : Ul m' ub := h.stay (X := fun _ => True) (T := []) trivial (Keep.grow g)
theorem Ul.load {m : Mem} {ub : Nat} (h : Ul m ub) : loadAt evEnv m 116 ub (0 + 1 * 2) = some (.agg ⟨[I 4, I 0]⟩) := by
 obtain ⟨ur, h1, h2, h3⟩ := h
 exact h1.loadA (k := 2) rfl rfl rfl h2 h3
structure Mk (m : Mem) (A : GA) (cv : Value) : Prop where
 g : Row m A.gb [.slice (some ⟨A.b, A.off, none⟩) (3 + A.n) A.cap, A.fv, .slice (some ⟨A.ub, 0, none⟩) (3 + A.n) A.uc, A.gv, nilS, nilS, nilS, I 1, .map (some A.sb), .map (some A.fb)] 71 0
 k : Row m A.kb [ptr A.gb, I 0, I 0, nilS, nilS, cv, nilS, nilS] 121 0
 nodes : Nodes m A.b A.off (listN A.n)
 uses : Ul m A.ub
 lo : A.b < A.n0 ∧ A.gb < A.n0 ∧ A.ub < A.n0 ∧ A.n0 ≤ A.kb
abbrev KM (A : GA) (m m' : Mem) : Prop := Keep (fun c => c < A.n0) [121, 46] m m'
/-- the code so far. -/
def Cd (m : Mem) (A : GA) (L : List Value) : Prop := ∃ cv, Mk m A cv ∧ Sl (fun c => c < A.n0) m cv 46 3 L
section
variable {m m' : Mem} {A : GA} {cv cv' : Value} {L : List Value}
theorem Mk.nb (h : Mk m A cv) : A.b < m.next := Nat.lt_of_lt_of_le (Nat.lt_of_lt_of_le h.lo.1 h.lo.2.2.2) (Nat.le_of_lt h.k.1)
theorem Mk.n0 (h : Mk m A cv) : A.n0 ≤ m.next := Nat.le_trans h.lo.2.2.2 (Nat.le_of_lt h.k.1)
theorem Mk.keep (h : Mk m A cv) (q : KM A m m') (hk : Row m' A.kb [ptr A.gb, I 0, I 0, nilS, nilS, cv', nilS, nilS] 121 0) : Mk m' A cv' :=
 ⟨h.g.stay q (.inl h.lo.2.1), hk, h.nodes.stay (X := fun c => c < A.n0) h.lo.1 h.nb q, h.uses.stay (X := fun c => c < A.n0) h.lo.2.2.1 q, h.lo⟩
theorem Cd.stay {X : Nat → Prop} {T : List Nat} (h : Cd m A L) (q : Keep (fun c => c < m.next) T m m') : Cd m' A L := by
 obtain ⟨cv, h1, h2⟩ := h
 refine ⟨cv, h1.keep q.all (h1.k.stay q (.inl h1.k.1)), ?_⟩
 rcases h2 with h2 | ⟨b, cap, r, n, e1, e2, e3, e4⟩
 ·exact .inl h2
 ·exact .inr ⟨b, cap, r, n, e1, e2, e3.stay q (.inl e3.1), e4⟩
theorem Cd.grow (h : Cd m A L) (g : Grow m m') : Cd m' A L := h.stay (X := fun _ => True) (T := []) (Keep.grow g)
end
attribute [local irreducible] quiet allocs effect wp ret wpO Runs Act.tmp Act.eval fin results Tree.set binOp loadAt storeAt target wanted cellsFrom

section
variable {m : Mem} {A : GA} {L : List Value}
set_option maxHeartbeats 2000000 in
/-- one instruction more. -/
theorem put40 (op a : Int) (h : Cd m A L) (hl : L.length ≤ 100000) : Runs evEnv 40 [ptr A.kb, .int .i64 op, .int .i64 a] m fun _ m' => KM A m m' ∧ Cd m' A (L ++ [.int .i64 op, .int .i64 a, I 0]) := by
 obtain ⟨cv, h, hs⟩ := h
 have hk := h.k
 have hin : effect.cellsIn (m.new (rowObj [.int .i64 op, .int .i64 a, I 0] 46 0)) 3 (.slice (some ⟨m.next, 0, none⟩) 1 1) = some (1, [.int .i64 op, .int .i64 a, I 0]) := cellsIn_row (kc := 1) (new := [.int .i64 op, .int .i64 a, I 0]) (row_new m [.int .i64 op, .int .i64 a, I 0] 46 0) (Nat.le_refl 3) rfl
 have s1 := hs.grow ((Grow.refl m).new (rowObj [.int .i64 op, .int .i64 a, I 0] 46 0))
 have hX : ∀ c, c < A.n0 → c < (m.new (rowObj [.int .i64 op, .int .i64 a, I 0] 46 0)).next := fun c hc => Nat.lt_succ_of_lt (Nat.lt_of_lt_of_le hc h.n0)
 obtain ⟨ca, cn, cc, rfl, hcn⟩ := hs.form (by decide)
 refine runs_start rfl rfl rfl rfl ?_
 (repeat (first | (apply G.h; constructor <;> (first | exact Zc | apply gI | ((repeat' (first | exact Y0 | apply Y1 | ((first | apply Y4 | apply Y5); simp only [evs, Nat.reduceEqDiff, reduceIte] <;> rfl))); done) | (apply Y6; (try simp only [evs]); first | exact hk.load1 rfl rfl rfl)))))
 (apply g_app <;> (first | exact Zc | apply gI | ((repeat' (first | exact Y0 | apply Y1 | exact Y2 | apply Y3 | ((first | apply Y4 | apply Y5); simp only [evs, Nat.reduceEqDiff, reduceIte] <;> rfl))); done) | (apply Hy.mk; (try simp only [evs]); first | exact hin | exact s1 | exact hX | assumption) | (apply Om.mk; first | exact hin | exact s1 | exact hX) | (apply Y6; (try simp only [evs]); first | rfl) | apply Cn.mk))
 intro v' m2 s2 k2 o2 b2 f2
 simp only [evs] at s2 k2
 replace s2 : Sl (fun c => c < A.n0) m2 v' 46 3 (L ++ [.int .i64 op, .int .i64 a, I 0]) := s2
 obtain ⟨c6, j6, p6, rfl, hc6⟩ := f2
 have k2' : Keep (fun c => c < A.n0) [46] m m2 := (Keep.new _).trans k2
 have hk2 := hk.stay k2' (.inr (by decide))
 obtain ⟨a6, l6, q6, he6, hl6⟩ := s2.form (by decide)
 cases he6
 rw [List.length_append] at hl6
 have hj6 : 1 ≤ j6 ∧ j6 ≤ 100000 := by
  have : [Value.int .i64 op, .int .i64 a, I 0].length = 3 := rfl
  omega
 (repeat (first | (apply G.h; constructor <;> (first | exact Zc | apply gI | ((repeat' (first | exact Y0 | apply Y1 | ((first | apply Y4 | apply Y5); simp only [evs, Nat.reduceEqDiff, reduceIte] <;> rfl))); done) | (apply Y6; (try simp only [evs]); first | rfl)))))
 (apply g_stR <;> (first | exact Zc | apply gI | ((repeat' (first | exact Y0 | apply Y1 | exact Y2 | apply Y3 | ((first | apply Y4 | apply Y5); simp only [evs, Nat.reduceEqDiff, reduceIte] <;> rfl))); done) | (apply Hy.mk; (try simp only [evs]); first | exact hk2 | assumption) | (apply Om.mk; first | exact hk2) | (apply Y6; (try simp only [evs]); first | rfl) | apply Cn.mk))
 intro m3 r3 o3 n3; simp only [evs] at r3 o3 n3
 have k3 : KM A m2 m3 := Keep.row hk2 (fun hh => by have := h.lo.2.2.2; omega) (by decide) o3 n3
 have kk : KM A m m3 := (k2'.mono (by simp)).trans k3
 have h3 : Mk m3 A (.slice (some ⟨c6, 0, none⟩) j6 p6) := h.keep kk r3
 have h3k := h3.k
 (repeat (first | (apply G.h; constructor <;> (first | exact Zc | apply gI | ((repeat' (first | exact Y0 | apply Y1 | ((first | apply Y4 | apply Y5); simp only [evs, Nat.reduceEqDiff, reduceIte] <;> rfl))); done) | (apply Y6; (try simp only [evs]); first | exact h3k.load1 rfl rfl rfl)))))
 (refine g_fin (by repeat' first | exact Rs.nil | apply Rs.cons | (apply Y4; simp only [evs, Nat.reduceEqDiff, reduceIte] <;> rfl)) (by (simp only [evs, Nat.reduceEqDiff, reduceIte] <;> first | rfl | (congr 1; omega) | omega)) ?_)
 simp only [evs]
 exact ⟨kk, _, h3, s2.keep (Nat.le_of_eq n3.symm) fun b n c hh => by
  cases hh
  refine o3 _ ?_
  rcases s2 with ⟨hh, -⟩ | ⟨b9, c9, r9, n9, hh, -, q9, -⟩
  ·cases hh
  ·cases hh; exact q9.ne hk2 (by decide)⟩
/-- where the value on top goes. -/
theorem store92 (h : Cd m A L) (hl : L.length ≤ 100000) : Runs evEnv 92 [ptr A.kb, .agg ⟨[I 4, I 0]⟩] m fun _ m' => KM A m m' ∧ Cd m' A (L ++ [I 13, I 0, I 0]) := by
 have z := row_new m [I 4, I 0] 116 0
 have g1 : Grow m (m.new (rowObj [I 4, I 0] 116 0)) := (Grow.refl m).new _
 refine runs_start rfl rfl rfl rfl ?_
 (repeat (first | (apply G.h; constructor <;> (first | exact Zc | apply gI | ((repeat' (first | exact Y0 | apply Y1 | ((first | apply Y4 | apply Y5); simp only [evs, Nat.reduceEqDiff, reduceIte] <;> rfl))); done) | (apply Y6; (try simp only [evs]); first | exact z.load1 rfl rfl rfl)))))
 ((first | apply g_run | apply g_run0) <;> (first | ((repeat' (first | exact Y0 | apply Y1 | exact Y2 | apply Y3 | ((first | apply Y4 | apply Y5); simp only [evs, Nat.reduceEqDiff, reduceIte] <;> rfl))); done) | exact Rn.mk ((by simp only [evs]; exact put40 13 0 (h.grow g1) hl)) | apply Cn.mk))
 rintro v m2 ⟨k2, h2⟩
 try simp only [evs] at k2
 (repeat (first | (apply G.h; constructor <;> (first | exact Zc | apply gI | ((repeat' (first | exact Y0 | apply Y1 | ((first | apply Y4 | apply Y5); simp only [evs, Nat.reduceEqDiff, reduceIte] <;> rfl))); done) | (apply Y6; (try simp only [evs]); first | rfl)))))
 (refine g_finN (by first | exact Rs.nil | skip) (by (simp only [evs, Nat.reduceEqDiff, reduceIte] <;> first | rfl | (congr 1; omega) | omega)) ?_)
 simp only [evs]
 exact ⟨(Keep.grow g1).trans k2, h2⟩
theorem declare91 (h : Cd m A L) (hl : L.length ≤ 100000) : Runs evEnv 91 [ptr A.kb, .agg ⟨[I 4, I 0]⟩] m fun _ m' => KM A m m' ∧ Cd m' A (L ++ [I 13, I 0, I 0]) := by
 have z := row_new m [I 4, I 0] 116 0
 have g1 : Grow m (m.new (rowObj [I 4, I 0] 116 0)) := (Grow.refl m).new _
 refine runs_start rfl rfl rfl rfl ?_
 (repeat (first | (apply G.h; constructor <;> (first | exact Zc | apply gI | ((repeat' (first | exact Y0 | apply Y1 | ((first | apply Y4 | apply Y5); simp only [evs, Nat.reduceEqDiff, reduceIte] <;> rfl))); done) | (apply Y6; (try simp only [evs]); first | exact z.load1 rfl rfl rfl | exact z.loadA (k := 2) rfl rfl rfl (Nat.le_refl 2) rfl)))))
 ((first | apply g_run | apply g_run0) <;> (first | ((repeat' (first | exact Y0 | apply Y1 | exact Y2 | apply Y3 | ((first | apply Y4 | apply Y5); simp only [evs, Nat.reduceEqDiff, reduceIte] <;> rfl))); done) | exact Rn.mk ((by simp only [evs]; exact store92 (h.grow g1) hl)) | apply Cn.mk))
 rintro v m2 ⟨k2, h2⟩
 try simp only [evs] at k2
 (repeat (first | (apply G.h; constructor <;> (first | exact Zc | apply gI | ((repeat' (first | exact Y0 | apply Y1 | ((first | apply Y4 | apply Y5); simp only [evs, Nat.reduceEqDiff, reduceIte] <;> rfl))); done) | (apply Y6; (try simp only [evs]); first | rfl)))))
 (refine g_fin (by repeat' first | exact Rs.nil | apply Rs.cons | (apply Y4; simp only [evs, Nat.reduceEqDiff, reduceIte] <;> rfl)) (by (simp only [evs, Nat.reduceEqDiff, reduceIte] <;> first | rfl | (congr 1; omega) | omega)) ?_)
 simp only [evs]
 exact ⟨(Keep.grow g1).trans k2, h2⟩
set_option maxHeartbeats 2000000 in
/-- a number's value. -/
theorem exprNum {j : Nat} (hn : A.n ≤ 1000) (hj : j < A.n) (h : Cd m A L) (hl : L.length ≤ 100000) : Runs evEnv 90 [ptr A.kb, I (3 + j : Nat)] m fun _ m' => KM A m m' ∧ Cd m' A (L ++ [I 0, I 0, I 0]) := by
 obtain ⟨cv, hM, hs⟩ := h
 have hk := hM.k
 have hg := hM.g
 have hld := hM.nodes.get (listN_at hj)
 have z := row_new m [I 0, I 0, encS [], I 0, I 0] 58 0
 refine runs_start rfl rfl rfl rfl ?_
 (repeat (first | (apply G.h; constructor <;> (first | exact Zc | apply gI | ((repeat' (first | exact Y0 | apply Y1 | ((first | apply Y4 | apply Y5); simp only [evs, Nat.reduceEqDiff, reduceIte] <;> rfl))); done) | (apply Y6; (try simp only [evs]); first | exact hk.load1 rfl rfl rfl | exact hg.load1 rfl rfl rfl | exact hld)))))
 (apply g_stR <;> (first | exact Zc | apply gI | ((repeat' (first | exact Y0 | apply Y1 | exact Y2 | apply Y3 | ((first | apply Y4 | apply Y5); simp only [evs, Nat.reduceEqDiff, reduceIte] <;> rfl))); done) | (apply Hy.mk; (try simp only [evs]); first | exact z | assumption) | (apply Om.mk; first | exact z) | (apply Y6; (try simp only [evs]); first | rfl) | apply Cn.mk))
 intro m2 r2 o2 n2; simp only [evs] at r2 o2 n2
 replace r2 : Row m2 m.next [I 14, I 0, encS [], I 0, I (9 + 3 * j : Nat)] 58 0 := r2
 have g2 : Grow m m2 := ((Grow.refl m).new _).wrote (Nat.le_refl _) o2 n2
 have h2 : Cd m2 A L := Cd.grow ⟨cv, hM, hs⟩ g2
 have hN2 := hM.nodes.grow hM.nb g2
 have hb2 : A.b < m2.next := Nat.lt_of_lt_of_le hM.nb g2.1
 have hk2 := hk.grow g2
 have hg2 := hg.grow g2
 (repeat (first | (apply G.h; constructor <;> (first | exact Zc | apply gI | ((repeat' (first | exact Y0 | apply Y1 | ((first | apply Y4 | apply Y5); simp only [evs, Nat.reduceEqDiff, reduceIte] <;> rfl))); done) | (apply Y6; (try simp only [evs]); first | exact hk2.load1 rfl rfl rfl | exact hg2.load1 rfl rfl rfl)))))
 ((first | apply g_run | apply g_run0) <;> (first | ((repeat' (first | exact Y0 | apply Y1 | exact Y2 | apply Y3 | ((first | apply Y4 | apply Y5); simp only [evs, Nat.reduceEqDiff, reduceIte] <;> rfl))); done) | exact Rn.mk ((by simp only [evs]; exact kidsNum A.b A.off A.cap A.n j hn hN2 hb2 hj)) | apply Cn.mk))
 rintro kv m3 ⟨k3, s3⟩
 try simp only [evs] at k3
 have r23 := r2.stay k3 (.inl r2.1)
 (repeat (first | (apply G.h; constructor <;> (first | exact Zc | apply gI | ((repeat' (first | exact Y0 | apply Y1 | ((first | apply Y4 | apply Y5); simp only [evs, Nat.reduceEqDiff, reduceIte] <;> rfl))); done) | (apply Y6; (try simp only [evs]); first | exact r23.load1 rfl rfl rfl)))))
 ((first | apply g_run | apply g_run0) <;> (first | ((repeat' (first | exact Y0 | apply Y1 | exact Y2 | apply Y3 | ((first | apply Y4 | apply Y5); simp only [evs, Nat.reduceEqDiff, reduceIte] <;> rfl))); done) | exact Rn.mk ((by simp only [evs]; exact put40 0 0 (h2.stay (X := fun _ => True) k3) hl)) | apply Cn.mk))
 rintro v m4 ⟨k4, h4⟩
 try simp only [evs] at k4
 (repeat (first | (apply G.h; constructor <;> (first | exact Zc | apply gI | ((repeat' (first | exact Y0 | apply Y1 | ((first | apply Y4 | apply Y5); simp only [evs, Nat.reduceEqDiff, reduceIte] <;> rfl))); done) | (apply Y6; (try simp only [evs]); first | rfl)))))
 (refine g_finN (by first | exact Rs.nil | skip) (by (simp only [evs, Nat.reduceEqDiff, reduceIte] <;> first | rfl | (congr 1; omega) | omega)) ?_)
 simp only [evs]
 exact ⟨(Keep.grow g2).trans (k3.all.trans k4), h4⟩
end
end Go.Proofs.YthhcnfgeacnfiaaGreatDoor

namespace Go.Proofs.YthhcnfgeacnfiaaGreatDoor
open Go Go.Ev
set_option maxRecDepth 100000
set_option linter.unusedVariables false
set_option linter.unusedSimpArgs false
set_option pp.maxSteps 1500
/-- the numbers' instructions. -/
def zerosI : Nat → List Value
 | 0 => []
 | k + 1 => zerosI k ++ [I 0, I 0, I 0]
theorem zerosI_len : ∀ k, (zerosI k).length = 3 * k
 | 0 => rfl
 | k + 1 => by rw [zerosI, List.length_append, zerosI_len]; show 3 * k + 3 = _; omega
attribute [local irreducible] quiet allocs effect wp ret wpO Runs Act.tmp Act.eval fin results Tree.set binOp loadAt storeAt target wanted cellsFrom

section
variable {m : Mem} {A : GA} {L : List Value}
set_option maxHeartbeats 2000000 in
theorem all113 {kb kc : Nat} {r : List Value} (hn : A.n ≤ 1000) (h : Cd m A L) (hl : L.length ≤ 10000) (hr : Row m kb r 3 0) (hrl : ∀ j, j < A.n → r[j]? = some (I (3 + j : Nat))) (hx : kb ≠ A.kb) :
  Runs evEnv 113 [ptr A.kb, .slice (some ⟨kb, 0, none⟩) A.n kc] m fun _ m' => KM A m m' ∧ Cd m' A (L ++ zerosI A.n) := by
 refine runs_start rfl rfl rfl rfl ?_
 (repeat (first | (apply G.h; constructor <;> (first | exact Zc | apply gI | ((repeat' (first | exact Y0 | apply Y1 | ((first | apply Y4 | apply Y5); simp only [evs, Nat.reduceEqDiff, reduceIte] <;> rfl))); done) | (apply Y6; (try simp only [evs]); first | rfl)))))
 refine ewp_loop (ι := Nat) (fun j a => (a.n = 16 ∧ a.defers = [] ∧ a.tmp 0 = ptr A.kb ∧ a.tmp 6 = .slice (some ⟨kb, 0, none⟩) A.n kc ∧ a.tmp 7 = I A.n ∧ a.tmp 8 = I j) ∧ j ≤ A.n ∧ KM A m a.m ∧ Cd a.m A (L ++ zerosI j)) (fun j => A.n - j) 0 ?_ ?_
 ·exact ⟨(by refine ⟨?_, ?_, ?_, ?_, ?_, ?_⟩ <;> (simp only [evs, Nat.reduceEqDiff, reduceIte] <;> first | rfl | (congr 1; omega) | omega)), Nat.zero_le _, by simp only [evs]; exact Keep.refl, by simp only [evs]; rw [zerosI, List.append_nil]; exact h⟩
 rintro j a ⟨⟨qn, qd, q0, q6, q7, q8⟩, hj, qk, qc⟩ ih
 rcases Nat.lt_or_ge j A.n with hlt | hge
 ·have hra : Row a.m kb r 3 0 := hr.stay qk (.inr (by decide))
  have hri : r[0 + j * 1]? = some (I (3 + j : Nat)) := by rw [show 0 + j * 1 = j by omega]; exact hrl j hlt
  have hll : (L ++ zerosI j).length ≤ 100000 := by rw [List.length_append, zerosI_len]; omega
  (repeat (first | (apply G.h; constructor <;> (first | exact Zc | apply gI | ((repeat' (first | exact Y0 | apply Y1 | ((first | apply Y4 | apply Y5); simp only [evs, Nat.reduceEqDiff, reduceIte, qn, qd, q0, q6, q7, q8] <;> rfl))); done) | (apply Y6; (try simp only [evs, qn, qd, q0, q6, q7, q8]); first | exact hra.load1 rfl rfl hri)))))
  ((first | apply g_run | apply g_run0) <;> (first | ((repeat' (first | exact Y0 | apply Y1 | exact Y2 | apply Y3 | ((first | apply Y4 | apply Y5); simp only [evs, Nat.reduceEqDiff, reduceIte, qn, qd, q0, q6, q7, q8] <;> rfl))); done) | exact Rn.mk ((by simp only [evs, qn, qd, q0, q6, q7, q8]; exact exprNum hn hlt qc hll)) | apply Cn.mk))
  rintro v m2 ⟨k2, c2⟩
  try simp only [evs, qn, qd, q0, q6, q7, q8] at k2
  (repeat (first | (apply G.h; constructor <;> (first | exact Zc | apply gI | ((repeat' (first | exact Y0 | apply Y1 | ((first | apply Y4 | apply Y5); simp only [evs, Nat.reduceEqDiff, reduceIte, qn, qd, q0, q6, q7, q8] <;> rfl))); done) | (apply Y6; (try simp only [evs, qn, qd, q0, q6, q7, q8]); first | rfl)))))
  refine ih (j + 1) _ ⟨(by refine ⟨?_, ?_, ?_, ?_, ?_, ?_⟩ <;> (simp only [evs, Nat.reduceEqDiff, reduceIte, qn, qd, q0, q6, q7, q8] <;> first | rfl | (congr 1; omega) | omega)), hlt, by simp only [evs]; exact qk.trans k2, ?_⟩ (by omega)
  simp only [evs]
  rw [zerosI, ← List.append_assoc]; exact c2
 ·obtain rfl : j = A.n := by omega
  (repeat (first | (apply G.h; constructor <;> (first | exact Zc | apply gI | ((repeat' (first | exact Y0 | apply Y1 | ((first | apply Y4 | apply Y5); simp only [evs, Nat.reduceEqDiff, reduceIte, qn, qd, q0, q6, q7, q8] <;> rfl))); done) | (apply Y6; (try simp only [evs, qn, qd, q0, q6, q7, q8]); first | rfl)))))
  (refine g_finN (by first | exact Rs.nil | skip) (by (simp only [evs, Nat.reduceEqDiff, reduceIte, qn, qd, q0, q6, q7, q8] <;> first | rfl | (congr 1; omega) | omega)) ?_)
  simp only [evs]
  exact ⟨qk, qc⟩
set_option maxHeartbeats 2000000 in
theorem made112 {kb kc : Nat} {r : List Value} (hn : A.n ≤ 1000) (h : Cd m A L) (hl : L.length ≤ 10000) (hr : Row m kb r 3 0) (hrl : ∀ j, j < A.n → r[j]? = some (I (3 + j : Nat))) (hx : kb ≠ A.kb) :
  Runs evEnv 112 [ptr A.kb, .agg ⟨[I 20, I A.n, encS [], I 0, I 8]⟩, .slice (some ⟨kb, 0, none⟩) A.n kc] m fun _ m' => KM A m m' ∧ Cd m' A (L ++ zerosI A.n ++ [I 14, I A.n, I 0]) := by
 have z := row_new m [I 20, I A.n, encS [], I 0, I 8] 58 0
 have g1 : Grow m (m.new (rowObj [I 20, I A.n, encS [], I 0, I 8] 58 0)) := (Grow.refl m).new _
 have hll : (L ++ zerosI A.n).length ≤ 100000 := by rw [List.length_append, zerosI_len]; omega
 refine runs_start rfl rfl rfl rfl ?_
 (repeat (first | (apply G.h; constructor <;> (first | exact Zc | apply gI | ((repeat' (first | exact Y0 | apply Y1 | ((first | apply Y4 | apply Y5); simp only [evs, Nat.reduceEqDiff, reduceIte] <;> rfl))); done) | (apply Y6; (try simp only [evs]); first | exact z.load1 rfl rfl rfl)))))
 ((first | apply g_run | apply g_run0) <;> (first | ((repeat' (first | exact Y0 | apply Y1 | exact Y2 | apply Y3 | ((first | apply Y4 | apply Y5); simp only [evs, Nat.reduceEqDiff, reduceIte] <;> rfl))); done) | exact Rn.mk ((by simp only [evs]; exact all113 hn (h.grow g1) hl (hr.grow g1) hrl hx)) | apply Cn.mk))
 rintro v m2 ⟨k2, c2⟩
 try simp only [evs] at k2
 have z2 := z.stay k2 (.inr (by decide))
 (repeat (first | (apply G.h; constructor <;> (first | exact Zc | apply gI | ((repeat' (first | exact Y0 | apply Y1 | ((first | apply Y4 | apply Y5); simp only [evs, Nat.reduceEqDiff, reduceIte] <;> rfl))); done) | (apply Y6; (try simp only [evs]); first | exact z2.load1 rfl rfl rfl)))))
 ((first | apply g_run | apply g_run0) <;> (first | ((repeat' (first | exact Y0 | apply Y1 | exact Y2 | apply Y3 | ((first | apply Y4 | apply Y5); simp only [evs, Nat.reduceEqDiff, reduceIte] <;> rfl))); done) | exact Rn.mk ((by simp only [evs]; exact put40 14 A.n c2 hll)) | apply Cn.mk))
 rintro v m3 ⟨k3, c3⟩
 try simp only [evs] at k3
 (repeat (first | (apply G.h; constructor <;> (first | exact Zc | apply gI | ((repeat' (first | exact Y0 | apply Y1 | ((first | apply Y4 | apply Y5); simp only [evs, Nat.reduceEqDiff, reduceIte] <;> rfl))); done) | (apply Y6; (try simp only [evs]); first | rfl)))))
 (refine g_finN (by first | exact Rs.nil | skip) (by (simp only [evs, Nat.reduceEqDiff, reduceIte] <;> first | rfl | (congr 1; omega) | omega)) ?_)
 simp only [evs]
 exact ⟨(Keep.grow g1).trans (k2.trans k3), c3⟩
set_option maxHeartbeats 2000000 in
/-- the list's value. -/
theorem exprList90 (hn0 : 0 < A.n) (hn : A.n ≤ 1000) (h : Cd m A L) (hl : L.length ≤ 10000) : Runs evEnv 90 [ptr A.kb, I (2 : Nat)] m fun _ m' => KM A m m' ∧ Cd m' A (L ++ zerosI A.n ++ [I 14, I A.n, I 0]) := by
 obtain ⟨cv, hM, hs⟩ := h
 have hk := hM.k
 have hg := hM.g
 have hld := hM.nodes.get (i := 2) (x := ⟨20, A.n, [], 0, 8⟩) rfl
 have h23 : 2 < 3 + A.n := by omega
 have z := row_new m [I 0, I 0, encS [], I 0, I 0] 58 0
 refine runs_start rfl rfl rfl rfl ?_
 (repeat (first | (apply G.h; constructor <;> (first | exact Zc | apply gI | ((repeat' (first | exact Y0 | apply Y1 | ((first | apply Y4 | apply Y5); simp only [evs, Nat.reduceEqDiff, reduceIte] <;> rfl))); done) | (apply Y6; (try simp only [evs]); first | exact hk.load1 rfl rfl rfl | exact hg.load1 rfl rfl rfl | exact hld)))))
 (apply g_stR <;> (first | exact Zc | apply gI | ((repeat' (first | exact Y0 | apply Y1 | exact Y2 | apply Y3 | ((first | apply Y4 | apply Y5); simp only [evs, Nat.reduceEqDiff, reduceIte] <;> rfl))); done) | (apply Hy.mk; (try simp only [evs]); first | exact z | assumption) | (apply Om.mk; first | exact z) | (apply Y6; (try simp only [evs]); first | rfl) | apply Cn.mk))
 intro m2 r2 o2 n2; simp only [evs] at r2 o2 n2
 replace r2 : Row m2 m.next [I 20, I A.n, encS [], I 0, I 8] 58 0 := r2
 have g2 : Grow m m2 := ((Grow.refl m).new _).wrote (Nat.le_refl _) o2 n2
 have h2 : Cd m2 A L := Cd.grow ⟨cv, hM, hs⟩ g2
 have hN2 := hM.nodes.grow hM.nb g2
 have hb2 : A.b < m2.next := Nat.lt_of_lt_of_le hM.nb g2.1
 have hk2 := hk.grow g2
 have hg2 := hg.grow g2
 (repeat (first | (apply G.h; constructor <;> (first | exact Zc | apply gI | ((repeat' (first | exact Y0 | apply Y1 | ((first | apply Y4 | apply Y5); simp only [evs, Nat.reduceEqDiff, reduceIte] <;> rfl))); done) | (apply Y6; (try simp only [evs]); first | exact hk2.load1 rfl rfl rfl | exact hg2.load1 rfl rfl rfl)))))
 ((first | apply g_run | apply g_run0) <;> (first | ((repeat' (first | exact Y0 | apply Y1 | exact Y2 | apply Y3 | ((first | apply Y4 | apply Y5); simp only [evs, Nat.reduceEqDiff, reduceIte] <;> rfl))); done) | exact Rn.mk ((by simp only [evs]; exact kidsList A.b A.off A.cap A.n hn hN2 hb2)) | apply Cn.mk))
 rintro kv m3 ⟨k3, s3⟩
 try simp only [evs] at k3 s3
 have r23 := r2.stay k3 (.inl r2.1)
 have h3 : Cd m3 A L := h2.stay (X := fun _ => True) k3
 obtain ⟨kb, kc, kr, kn, rfl, y2, y3, y4, y5, y6, -⟩ := s3.at (i := 0) (by rw [List.length_map, List.length_range]; exact hn0)
 have hkn : kn = A.n := by
  have := congrArg List.length y6
  rw [List.length_map, List.length_range, List.length_take] at this
  omega
 subst hkn
 have hrl : ∀ j, j < A.n → kr[j]? = some (I (3 + j : Nat)) := fun j hj => by
  have : ((List.range A.n).map fun j => I (3 + j : Nat))[j]? = some (I (3 + j : Nat)) := by
   rw [List.getElem?_map, List.getElem?_range hj]; rfl
  rw [y6, List.getElem?_take_of_lt (by omega)] at this
  exact this
 have hkx : kb ≠ A.kb := fun hh => y2 (by rw [hh]; exact Nat.lt_of_lt_of_le hk.1 g2.1)
 (repeat (first | (apply G.h; constructor <;> (first | exact Zc | apply gI | ((repeat' (first | exact Y0 | apply Y1 | ((first | apply Y4 | apply Y5); simp only [evs, Nat.reduceEqDiff, reduceIte] <;> rfl))); done) | (apply Y6; (try simp only [evs]); first | exact r23.load1 rfl rfl rfl | exact r23.loadA (k := 5) rfl rfl rfl (Nat.le_refl 5) rfl)))))
 ((first | apply g_run | apply g_run0) <;> (first | ((repeat' (first | exact Y0 | apply Y1 | exact Y2 | apply Y3 | ((first | apply Y4 | apply Y5); simp only [evs, Nat.reduceEqDiff, reduceIte] <;> rfl))); done) | exact Rn.mk ((by simp only [evs]; exact made112 hn h3 hl y3 hrl hkx)) | apply Cn.mk))
 rintro v m4 ⟨k4, h4⟩
 try simp only [evs] at k4
 (repeat (first | (apply G.h; constructor <;> (first | exact Zc | apply gI | ((repeat' (first | exact Y0 | apply Y1 | ((first | apply Y4 | apply Y5); simp only [evs, Nat.reduceEqDiff, reduceIte] <;> rfl))); done) | (apply Y6; (try simp only [evs]); first | rfl)))))
 (refine g_finN (by first | exact Rs.nil | skip) (by (simp only [evs, Nat.reduceEqDiff, reduceIte] <;> first | rfl | (congr 1; omega) | omega)) ?_)
 simp only [evs]
 exact ⟨(Keep.grow g2).trans (k3.all.trans k4), h4⟩
/-- the whole code ahead of the end. -/
abbrev varI (n : Nat) : List Value := zerosI n ++ [I 14, I n, I 0] ++ [I 13, I 0, I 0]
set_option maxHeartbeats 2000000 in
theorem statement68 (hn0 : 0 < A.n) (hn : A.n ≤ 1000) (h : Cd m A []) : Runs evEnv 68 [ptr A.kb, I (1 : Nat)] m fun _ m' => KM A m m' ∧ Cd m' A (varI A.n) := by
 obtain ⟨cv, hM, hs⟩ := h
 have hk := hM.k
 have hg := hM.g
 have hld := hM.nodes.get (i := 1) (x := ⟨3, 1, [120], 0, 0⟩) rfl
 have h13 : 1 < 3 + A.n := by omega
 have z := row_new m [I 0, I 0, encS [], I 0, I 0] 58 0
 have hlz : (zerosI A.n ++ [I 14, I A.n, I 0]).length ≤ 100000 := by
  rw [List.length_append, zerosI_len]
  show 3 * A.n + 3 ≤ _; omega
 refine runs_start rfl rfl rfl rfl ?_
 (repeat (first | (apply G.h; constructor <;> (first | exact Zc | apply gI | ((repeat' (first | exact Y0 | apply Y1 | ((first | apply Y4 | apply Y5); simp only [evs, Nat.reduceEqDiff, reduceIte] <;> rfl))); done) | (apply Y6; (try simp only [evs]); first | exact hk.load1 rfl rfl rfl | exact hg.load1 rfl rfl rfl | exact hld)))))
 (apply g_stR <;> (first | exact Zc | apply gI | ((repeat' (first | exact Y0 | apply Y1 | exact Y2 | apply Y3 | ((first | apply Y4 | apply Y5); simp only [evs, Nat.reduceEqDiff, reduceIte] <;> rfl))); done) | (apply Hy.mk; (try simp only [evs]); first | exact z | assumption) | (apply Om.mk; first | exact z) | (apply Y6; (try simp only [evs]); first | rfl) | apply Cn.mk))
 intro m2 r2 o2 n2; simp only [evs] at r2 o2 n2
 replace r2 : Row m2 m.next [I 3, I 1, encS [120], I 0, I 0] 58 0 := r2
 have g2 : Grow m m2 := ((Grow.refl m).new _).wrote (Nat.le_refl _) o2 n2
 have h2 : Cd m2 A [] := Cd.grow ⟨cv, hM, hs⟩ g2
 have hN2 := hM.nodes.grow hM.nb g2
 have hb2 : A.b < m2.next := Nat.lt_of_lt_of_le hM.nb g2.1
 have hk2 := hk.grow g2
 have hg2 := hg.grow g2
 (repeat (first | (apply G.h; constructor <;> (first | exact Zc | apply gI | ((repeat' (first | exact Y0 | apply Y1 | ((first | apply Y4 | apply Y5); simp only [evs, Nat.reduceEqDiff, reduceIte] <;> rfl))); done) | (apply Y6; (try simp only [evs]); first | exact hk2.load1 rfl rfl rfl | exact hg2.load1 rfl rfl rfl)))))
 ((first | apply g_run | apply g_run0) <;> (first | ((repeat' (first | exact Y0 | apply Y1 | exact Y2 | apply Y3 | ((first | apply Y4 | apply Y5); simp only [evs, Nat.reduceEqDiff, reduceIte] <;> rfl))); done) | exact Rn.mk ((by simp only [evs]; exact kidsVar A.b A.off A.cap A.n hn hN2 hb2)) | apply Cn.mk))
 rintro kv m3 ⟨k3, s3⟩
 try simp only [evs] at k3 s3
 have r23 := r2.stay k3 (.inl r2.1)
 have h3 : Cd m3 A [] := h2.stay (X := fun _ => True) k3
 obtain ⟨kb, kc, kr, kn, rfl, y2, y3, y4, y5, y6, y7⟩ := s3.at (i := 0) (by decide)
 have hkn : kn = 1 := by
  have := congrArg List.length y6
  rw [List.length_take] at this
  have h1 : [I ((2 : Nat) : Int)].length = 1 := rfl
  omega
 subst hkn
 replace y7 : kr[0]? = some (I 2) := y7
 have hk3 := hk2.stay k3 (.inl hk2.1)
 have hg3 := hg2.stay k3 (.inl hg2.1)
 have hu2 := ((hM.uses.grow g2).stay (X := fun c => c < m2.next) (hM.uses.grow g2).lt k3).load
 have zu := row_new m3 [I 0, I 0] 116 0
 (repeat (first | (apply G.h; constructor <;> (first | exact Zc | apply gI | ((repeat' (first | exact Y0 | apply Y1 | ((first | apply Y4 | apply Y5); simp only [evs, Nat.reduceEqDiff, reduceIte] <;> rfl))); done) | (apply Y6; (try simp only [evs]); first | exact hk3.load1 rfl rfl rfl | exact hg3.load1 rfl rfl rfl | exact hu2)))))
 (apply g_stR <;> (first | exact Zc | apply gI | ((repeat' (first | exact Y0 | apply Y1 | exact Y2 | apply Y3 | ((first | apply Y4 | apply Y5); simp only [evs, Nat.reduceEqDiff, reduceIte] <;> rfl))); done) | (apply Hy.mk; (try simp only [evs]); first | exact zu | assumption) | (apply Om.mk; first | exact zu) | (apply Y6; (try simp only [evs]); first | rfl) | apply Cn.mk))
 intro m4 r4 o4 n4; simp only [evs] at r4 o4 n4
 replace r4 : Row m4 m3.next [I 4, I 0] 116 0 := r4
 have g4 : Grow m3 m4 := ((Grow.refl m3).new _).wrote (Nat.le_refl _) o4 n4
 have h4 := h3.grow g4
 have r24 := r23.grow g4
 have y34 := y3.grow g4
 (repeat (first | (apply G.h; constructor <;> (first | exact Zc | apply gI | ((repeat' (first | exact Y0 | apply Y1 | ((first | apply Y4 | apply Y5); simp only [evs, Nat.reduceEqDiff, reduceIte] <;> rfl))); done) | (apply Y6; (try simp only [evs]); first | exact r24.load1 rfl rfl rfl | exact y34.load1 rfl rfl y7)))))
 ((first | apply g_run | apply g_run0) <;> (first | ((repeat' (first | exact Y0 | apply Y1 | exact Y2 | apply Y3 | ((first | apply Y4 | apply Y5); simp only [evs, Nat.reduceEqDiff, reduceIte] <;> rfl))); done) | exact Rn.mk ((by simp only [evs]; exact exprList90 hn0 hn h4 (by decide))) | apply Cn.mk))
 rintro v m5 ⟨k5, h5⟩
 try simp only [evs] at k5
 have r45 := r4.stay k5 (.inr (by decide))
 (repeat (first | (apply G.h; constructor <;> (first | exact Zc | apply gI | ((repeat' (first | exact Y0 | apply Y1 | ((first | apply Y4 | apply Y5); simp only [evs, Nat.reduceEqDiff, reduceIte] <;> rfl))); done) | (apply Y6; (try simp only [evs]); first | exact r45.loadA (k := 2) rfl rfl rfl (Nat.le_refl 2) rfl)))))
 ((first | apply g_run | apply g_run0) <;> (first | ((repeat' (first | exact Y0 | apply Y1 | exact Y2 | apply Y3 | ((first | apply Y4 | apply Y5); simp only [evs, Nat.reduceEqDiff, reduceIte] <;> rfl))); done) | exact Rn.mk ((by simp only [evs]; exact declare91 h5 hlz)) | apply Cn.mk))
 rintro v m6 ⟨k6, h6⟩
 try simp only [evs] at k6
 (repeat (first | (apply G.h; constructor <;> (first | exact Zc | apply gI | ((repeat' (first | exact Y0 | apply Y1 | ((first | apply Y4 | apply Y5); simp only [evs, Nat.reduceEqDiff, reduceIte] <;> rfl))); done) | (apply Y6; (try simp only [evs]); first | rfl)))))
 (refine g_finN (by first | exact Rs.nil | skip) (by (simp only [evs, Nat.reduceEqDiff, reduceIte] <;> first | rfl | (congr 1; omega) | omega)) ?_)
 simp only [evs]
 exact ⟨(Keep.grow g2).trans (k3.all.trans ((Keep.grow g4).trans (k5.trans k6))), h6⟩
end
end Go.Proofs.YthhcnfgeacnfiaaGreatDoor

namespace Go.Ev
open Go
theorem g_fin1c {E : Env} {a : Act} {rs : List ResultVar} {Q : Value → Mem → Prop} {t0 ty b o : Nat} (v0 : Value) (hrs : rs = [.cell t0 ty]) (hd : a.defers = []) (h0 : a.tmp t0 = .pointer (some ⟨b, o, none⟩)) (hl : loadAt E a.m ty b o = some v0) (h : Q (one [v0]) a.m) : ret E [] .ret a (fin E rs Q) := by
 subst hrs
 exact eret_nil (fin_ret hd (res_cell h0 hl res_nil) h)
section
variable {E : Env} {all l : List Oper} {k : List Kont} {a : Act} {Q : Ex → Act → Prop} {d : Nat} {t : TypeId} {pos : String} {af : Array Edge}
/-- a slice of greater elements is made longer. -/
theorem g_appB {X : Nat → Prop} {t1 t2 e : TypeId} {x y : Operand} {vx vy : Value} {i : TypeInfo} {z : Value} {du : TypeDesc} {kk : Nat} {l0 new : List Value}
  (hu : Rf (E.under t1) (some (.slice e))) (hu2 : Rf (E.under t2) (some du)) (hdu : Rf (rowD du) true) (hi : Rf (E.ti e) (some i)) (hz : Rf i.zero (some z)) (hzl : Rf (Nat.beq (cellsOf z).length i.size) true)
  (hx : Ev a x vx) (hy : Ev a y vy) (hd : Dn a d) (hin : Hy (effect.cellsIn a.m i.size vy = some (kk, new))) (hsl : Hy (Sl X a.m vx e i.size l0)) (hX : Hy (∀ b, X b → b < a.m.next)) (hsz : Rf (Nat.blt 0 i.size) true) (hk0 : Rf (Nat.blt 0 kk) true) (hk : Rf new.length (kk * i.size)) (h1 : Rf (new.all oneCell) true)
  (hb : Om (l0.length + kk ≤ 1000000)) (hb2 : Rf (Nat.ble i.bytes 1000) true) (hb3 : Rf (Nat.ble i.size 1000) true)
  (h : Cn (∀ v' m', Sl X m' v' e i.size (l0 ++ new) → Keep X [e] a.m m' → (∀ b, b < a.m.next → (∀ n c, vx ≠ .slice (some ⟨b, 0, none⟩) n c) → m'.get b = a.m.get b) → (∀ b n c, v' = .slice (some ⟨b, 0, none⟩) n c → (∃ n' c', vx = .slice (some ⟨b, 0, none⟩) n' c') ∨ b = a.m.next) → (∃ b n c, v' = .slice (some ⟨b, 0, none⟩) n c ∧ b < m'.next) →
   wpO E all l k ((a.mem m').upd d v') Q)) : wpO E all (⟨some d, .call ⟨.builtin .append, #[x, y], #[t1, t2]⟩, t, pos, af, none⟩ :: l) k a Q := by
 obtain ⟨v', m', e1, e2, e3, e4, e5, e6⟩ := hsl.h.app hX.h (bytes := i.bytes) (by simpa [Nat.blt_eq] using hsz.h) (by simpa [Nat.blt_eq] using hk0.h) hk.h h1.h (Nat.mul_le_mul hb.h (Nat.le_of_ble_eq_true hb2.h)) (Nat.le_trans hb.h (by decide)) (Nat.mul_le_mul hb.h (Nat.le_of_ble_eq_true hb3.h))
 exact ewpO_append rfl rfl rfl rfl hu.h hu2.h hdu.h hi.h hz.h hzl.h hx.h hy.h hin.h e1 hd.h (h.h v' m' e2 e3 e4 e5 e6)
end
end Go.Ev
namespace Go.Proofs.YthhcnfgeacnfiaaGreatDoor
open Go Go.Ev
set_option maxRecDepth 100000
set_option linter.unusedVariables false
set_option linter.unusedSimpArgs false
set_option pp.maxSteps 1500
/-- the function's code. -/
abbrev codeL (n : Nat) : List Value := varI n ++ [I 1, I 0, I 0] ++ [I 27, I 0, I 0]
theorem varI_len (n : Nat) : (varI n).length = 3 * n + 6 := by
 rw [List.length_append, List.length_append, zerosI_len]; rfl
theorem codeL_len (n : Nat) : (codeL n).length = 3 * n + 12 := by
 rw [List.length_append, List.length_append, varI_len]; rfl
attribute [local irreducible] quiet allocs effect wp ret wpO Runs Act.tmp Act.eval fin results Tree.set binOp loadAt storeAt target wanted cellsFrom

section
variable {m : Mem} {A : GA}
set_option maxHeartbeats 2000000 in
theorem block39 (hn0 : 0 < A.n) (hn : A.n ≤ 1000) (h : Cd m A []) : Runs evEnv 39 [ptr A.kb, .int .i64 0] m fun _ m' => KM A m m' ∧ Cd m' A (varI A.n) := by
 obtain ⟨cv, hM, hs⟩ := h
 have hk := hM.k
 have hg := hM.g
 refine runs_start rfl rfl rfl rfl ?_
 (repeat (first | (apply G.h; constructor <;> (first | exact Zc | apply gI | ((repeat' (first | exact Y0 | apply Y1 | ((first | apply Y4 | apply Y5); simp only [evs, Nat.reduceEqDiff, reduceIte] <;> rfl))); done) | (apply Y6; (try simp only [evs]); first | exact hk.load1 rfl rfl rfl | exact hg.load1 rfl rfl rfl)))))
 ((first | apply g_run | apply g_run0) <;> (first | ((repeat' (first | exact Y0 | apply Y1 | exact Y2 | apply Y3 | ((first | apply Y4 | apply Y5); simp only [evs, Nat.reduceEqDiff, reduceIte] <;> rfl))); done) | exact Rn.mk ((by simp only [evs]; exact kidsProg A.b A.off A.cap A.n hn hM.nodes hM.nb)) | apply Cn.mk))
 rintro kv m3 ⟨k3, s3⟩
 try simp only [evs] at k3 s3
 have h3 : Cd m3 A [] := Cd.stay (X := fun _ => True) ⟨cv, hM, hs⟩ k3
 obtain ⟨kb, kc, kr, kn, rfl, y2, y3, y4, y5, y6, y7⟩ := s3.at (i := 0) (by decide)
 have hkn : kn = 1 := by
  have := congrArg List.length y6
  rw [List.length_take] at this
  have h1 : [I ((1 : Nat) : Int)].length = 1 := rfl
  omega
 subst hkn
 replace y7 : kr[0]? = some (I 1) := y7
 (repeat (first | (apply G.h; constructor <;> (first | exact Zc | apply gI | ((repeat' (first | exact Y0 | apply Y1 | ((first | apply Y4 | apply Y5); simp only [evs, Nat.reduceEqDiff, reduceIte] <;> rfl))); done) | (apply Y6; (try simp only [evs]); first | rfl)))))
 refine ewp_loop (ι := Bool) (fun s a => (a.n = 24 ∧ a.defers = [] ∧ a.tmp 0 = ptr A.kb ∧ a.tmp 14 = .slice (some ⟨kb, 0, none⟩) 1 kc ∧ a.tmp 15 = I 1 ∧ a.tmp 16 = I (if s then 0 else 1 : Nat)) ∧ (if s then a.m = m3 else KM A m3 a.m ∧ Cd a.m A (varI A.n))) (fun s => if s then 1 else 0) true ?_ ?_
 ·exact ⟨(by refine ⟨?_, ?_, ?_, ?_, ?_, ?_⟩ <;> (simp only [evs, Nat.reduceEqDiff, reduceIte] <;> first | rfl | (congr 1; omega) | omega)), by rw [if_pos rfl]; (simp only [evs, Nat.reduceEqDiff, reduceIte] <;> first | rfl | (congr 1; omega) | omega)⟩
 rintro s a ⟨⟨qn, qd, q0, q14, q15, q16⟩, hs⟩ ih
 cases s with
 | true =>
  rw [if_pos rfl] at hs q16
  subst hs
  (repeat (first | (apply G.h; constructor <;> (first | exact Zc | apply gI | ((repeat' (first | exact Y0 | apply Y1 | ((first | apply Y4 | apply Y5); simp only [evs, Nat.reduceEqDiff, reduceIte, qn, qd, q0, q14, q15, q16] <;> rfl))); done) | (apply Y6; (try simp only [evs, qn, qd, q0, q14, q15, q16]); first | exact y3.load1 rfl rfl y7)))))
  ((first | apply g_run | apply g_run0) <;> (first | ((repeat' (first | exact Y0 | apply Y1 | exact Y2 | apply Y3 | ((first | apply Y4 | apply Y5); simp only [evs, Nat.reduceEqDiff, reduceIte, qn, qd, q0, q14, q15, q16] <;> rfl))); done) | exact Rn.mk ((by simp only [evs, qn, qd, q0, q14, q15, q16]; exact statement68 hn0 hn h3)) | apply Cn.mk))
  rintro v m4 ⟨k4, h4⟩
  try simp only [evs, qn, qd, q0, q14, q15, q16] at k4
  (repeat (first | (apply G.h; constructor <;> (first | exact Zc | apply gI | ((repeat' (first | exact Y0 | apply Y1 | ((first | apply Y4 | apply Y5); simp only [evs, Nat.reduceEqDiff, reduceIte, qn, qd, q0, q14, q15, q16] <;> rfl))); done) | (apply Y6; (try simp only [evs, qn, qd, q0, q14, q15, q16]); first | rfl)))))
  refine ih false _ ⟨(by refine ⟨?_, ?_, ?_, ?_, ?_, ?_⟩ <;> (simp only [evs, Nat.reduceEqDiff, reduceIte, qn, qd, q0, q14, q15, q16] <;> first | rfl | (congr 1; omega) | omega)), ?_⟩ (by decide)
  rw [if_neg (by decide)]
  simp only [evs]
  exact ⟨k4, h4⟩
 | false =>
  clear ih
  rw [if_neg (by decide)] at hs q16
  (repeat (first | (apply G.h; constructor <;> (first | exact Zc | apply gI | ((repeat' (first | exact Y0 | apply Y1 | ((first | apply Y4 | apply Y5); simp only [evs, Nat.reduceEqDiff, reduceIte, qn, qd, q0, q14, q15, q16] <;> rfl))); done) | (apply Y6; (try simp only [evs, qn, qd, q0, q14, q15, q16]); first | rfl)))))
  (refine g_finN (by first | exact Rs.nil | skip) (by (simp only [evs, Nat.reduceEqDiff, reduceIte, qn, qd, q0, q14, q15, q16] <;> first | rfl | (congr 1; omega) | omega)) ?_)
  simp only [evs]
  exact ⟨k3.all.trans hs.1, hs.2⟩
end
set_option maxHeartbeats 4000000 in
/-- the program's function. -/
theorem function20 {m : Mem} (b off cap n gb ub uc sb fb xb xc : Nat) (gv : Value) (hn0 : 0 < n) (hn : n ≤ 1000)
  (hG : Row m gb [.slice (some ⟨b, off, none⟩) (3 + n) cap, .slice (some ⟨xb, 0, none⟩) 1 xc, .slice (some ⟨ub, 0, none⟩) (3 + n) uc, gv, nilS, nilS, nilS, I 1, .map (some sb), .map (some fb)] 71 0)
  {xr : List Value} (hF : Row m xb xr 73 0) (hF4 : 0 + 4 ≤ xr.length) (hFt : (xr.drop 0).take 4 = [I 0, I 0, I 0, nilS]) (hU : Ul m ub) (hN : Nodes m b off (listN n)) (hb : b < m.next) :
  Runs evEnv 20 [ptr gb, I (0 : Nat)] m fun v m' => Keep (fun c => c < m.next) [121, 46, 44] m m' ∧ ∃ cv, v = .agg ⟨[I 0, I 0, nilS, nilS, cv, nilS]⟩ ∧ Sl (fun c => c < m.next) m' cv 46 3 (codeL n) := by
 have z1 := row_new m [I 0, I 0, nilS, nilS, nilS, nilS] 44 0
 have g1 : Grow m (m.new (rowObj [I 0, I 0, nilS, nilS, nilS, nilS] 44 0)) := (Grow.refl m).new _
 have hG1 := hG.grow g1
 have hF1 := hF.grow g1
 have zf := row_new (m.new (rowObj [I 0, I 0, nilS, nilS, nilS, nilS] 44 0)) [I 0, I 0, I 0, nilS] 73 0
 refine runs_start rfl rfl rfl rfl ?_
 (repeat (first | (apply G.h; constructor <;> (first | exact Zc | apply gI | ((repeat' (first | exact Y0 | apply Y1 | ((first | apply Y4 | apply Y5); simp only [evs, Nat.reduceEqDiff, reduceIte] <;> rfl))); done) | (apply Y6; (try simp only [evs]); first | exact hG1.load1 rfl rfl rfl | exact hF1.loadA (k := 4) rfl rfl rfl hF4 hFt)))))
 (apply g_stR <;> (first | exact Zc | apply gI | ((repeat' (first | exact Y0 | apply Y1 | exact Y2 | apply Y3 | ((first | apply Y4 | apply Y5); simp only [evs, Nat.reduceEqDiff, reduceIte] <;> rfl))); done) | (apply Hy.mk; (try simp only [evs]); first | exact zf | assumption) | (apply Om.mk; first | exact zf) | (apply Y6; (try simp only [evs]); first | rfl) | apply Cn.mk))
 intro m2 r2 o2 n2; simp only [evs] at r2 o2 n2
 replace r2 : Row m2 (m.next + 1) [I 0, I 0, I 0, nilS] 73 0 := r2
 have g2 : Grow (m.new (rowObj [I 0, I 0, nilS, nilS, nilS, nilS] 44 0)) m2 := ((Grow.refl _).new _).wrote (Nat.le_refl _) o2 n2
 have g02 : Grow m m2 := g1.trans g2
 have nx2 : m2.next = m.next + 2 := n2
 have hk := row_new m2 [ptr gb, I 0, I 0, nilS, nilS, nilS, nilS, nilS] 121 0
 have g3 : Grow m (m2.new (rowObj [ptr gb, I 0, I 0, nilS, nilS, nilS, nilS, nilS] 121 0)) := g02.new _
 have hM : Mk (m2.new (rowObj [ptr gb, I 0, I 0, nilS, nilS, nilS, nilS, nilS] 121 0)) ⟨b, off, cap, n, gb, m2.next, m.next, ub, uc, sb, fb, .slice (some ⟨xb, 0, none⟩) 1 xc, gv⟩ nilS :=
  ⟨hG.grow g3, hk, hN.grow hb g3, hU.grow g3, hb, hG.1, hU.lt, by show m.next ≤ m2.next; omega⟩
 have hC : Cd (m2.new (rowObj [ptr gb, I 0, I 0, nilS, nilS, nilS, nilS, nilS] 121 0)) ⟨b, off, cap, n, gb, m2.next, m.next, ub, uc, sb, fb, .slice (some ⟨xb, 0, none⟩) 1 xc, gv⟩ [] := ⟨nilS, hM, .inl ⟨rfl, rfl⟩⟩
 (repeat (first | (apply G.h; constructor <;> (first | exact Zc | apply gI | ((repeat' (first | exact Y0 | apply Y1 | ((first | apply Y4 | apply Y5); simp only [evs, Nat.reduceEqDiff, reduceIte] <;> rfl))); done) | (apply Y6; (try simp only [evs]); first | exact r2.load1 rfl rfl rfl)))))
 ((first | apply g_run | apply g_run0) <;> (first | ((repeat' (first | exact Y0 | apply Y1 | exact Y2 | apply Y3 | ((first | apply Y4 | apply Y5); simp only [evs, Nat.reduceEqDiff, reduceIte] <;> rfl))); done) | exact Rn.mk ((by simp only [evs]; exact block39 hn0 hn hC)) | apply Cn.mk))
 rintro v m4 ⟨k4, h4⟩
 try simp only [evs] at k4
 simp only at h4
 (repeat (first | (apply G.h; constructor <;> (first | exact Zc | apply gI | ((repeat' (first | exact Y0 | apply Y1 | ((first | apply Y4 | apply Y5); simp only [evs, Nat.reduceEqDiff, reduceIte] <;> rfl))); done) | (apply Y6; (try simp only [evs]); first | rfl)))))
 ((first | apply g_run | apply g_run0) <;> (first | ((repeat' (first | exact Y0 | apply Y1 | exact Y2 | apply Y3 | ((first | apply Y4 | apply Y5); simp only [evs, Nat.reduceEqDiff, reduceIte] <;> rfl))); done) | exact Rn.mk ((by simp only [evs]; exact put40 1 0 h4 (by rw [varI_len]; omega))) | apply Cn.mk))
 rintro v m5 ⟨k5, h5⟩
 try simp only [evs] at k5
 (repeat (first | (apply G.h; constructor <;> (first | exact Zc | apply gI | ((repeat' (first | exact Y0 | apply Y1 | ((first | apply Y4 | apply Y5); simp only [evs, Nat.reduceEqDiff, reduceIte] <;> rfl))); done) | (apply Y6; (try simp only [evs]); first | rfl)))))
 ((first | apply g_run | apply g_run0) <;> (first | ((repeat' (first | exact Y0 | apply Y1 | exact Y2 | apply Y3 | ((first | apply Y4 | apply Y5); simp only [evs, Nat.reduceEqDiff, reduceIte] <;> rfl))); done) | exact Rn.mk ((by simp only [evs]; exact put40 27 0 h5 (by rw [List.length_append, varI_len]; show 3 * n + 6 + 3 ≤ _; omega))) | apply Cn.mk))
 rintro v m6 ⟨k6, cv, hM6, s6⟩
 try simp only [evs] at k6
 have k36 : Keep (fun c => c < m.next) [121, 46] (m2.new (rowObj [ptr gb, I 0, I 0, nilS, nilS, nilS, nilS, nilS] 121 0)) m6 := k4.trans (k5.trans k6)
 have hk6 : Row m6 m2.next [ptr gb, I 0, I 0, nilS, nilS, cv, nilS, nilS] 121 0 := hM6.k
 have z6 : Row m6 m.next [I 0, I 0, nilS, nilS, nilS, nilS] 44 0 := ((z1.grow g2).keep_new _).stay k36 (.inr (by decide))
 obtain ⟨ca, cn, cc, rfl, -⟩ := s6.form (by decide)
 (repeat (first | (apply G.h; constructor <;> (first | exact Zc | apply gI | ((repeat' (first | exact Y0 | apply Y1 | ((first | apply Y4 | apply Y5); simp only [evs, Nat.reduceEqDiff, reduceIte] <;> rfl))); done) | (apply Y6; (try simp only [evs]); first | exact hk6.loadA (k := 6) rfl rfl rfl (show 0 + 1 + 6 ≤ 8 by decide) rfl)))))
 (apply g_stR <;> (first | exact Zc | apply gI | ((repeat' (first | exact Y0 | apply Y1 | exact Y2 | apply Y3 | ((first | apply Y4 | apply Y5); simp only [evs, Nat.reduceEqDiff, reduceIte] <;> rfl))); done) | (apply Hy.mk; (try simp only [evs]); first | exact z6 | assumption) | (apply Om.mk; first | exact z6) | (apply Y6; (try simp only [evs]); first | rfl) | apply Cn.mk))
 intro m7 r7 o7 n7; simp only [evs] at r7 o7 n7
 replace r7 : Row m7 m.next [I 0, I 0, nilS, nilS, .slice ca cn cc, nilS] 44 0 := r7
 (repeat (first | (apply G.h; constructor <;> (first | exact Zc | apply gI | ((repeat' (first | exact Y0 | apply Y1 | ((first | apply Y4 | apply Y5); simp only [evs, Nat.reduceEqDiff, reduceIte] <;> rfl))); done) | (apply Y6; (try simp only [evs]); first | rfl)))))
 refine g_fin1c (b := m.next) (o := 0) (.agg ⟨[I 0, I 0, nilS, nilS, .slice ca cn cc, nilS]⟩) rfl ?_ ?_ ?_ ?_
 ·(simp only [evs, Nat.reduceEqDiff, reduceIte] <;> first | rfl | (congr 1; omega) | omega)
 ·(simp only [evs, Nat.reduceEqDiff, reduceIte] <;> first | rfl | (congr 1; omega) | omega)
 ·simp only [evs]; exact r7.loadA (k := 6) rfl rfl rfl (Nat.le_refl 6) rfl
 ·simp only [evs]
  have k07 : Keep (fun c => c < m.next) [121, 46, 44] m6 m7 := Keep.row z6 (fun hh => Nat.lt_irrefl _ hh) (by decide) o7 n7
  refine ⟨(Keep.grow g3).trans ((k36.mono (by simp)).trans k07), _, rfl, ?_⟩
  exact s6.keep (Nat.le_of_eq n7.symm) fun b n c hh => by
   cases hh
   refine o7 _ ?_
   rcases s6 with ⟨hh, -⟩ | ⟨b9, c9, r9, n9, hh, -, q9, -⟩
   ·cases hh
   ·cases hh; exact q9.ne z6 (by decide)
end Go.Proofs.YthhcnfgeacnfiaaGreatDoor

namespace Go.Proofs.YthhcnfgeacnfiaaGreatDoor
open Go Go.Ev
set_option maxRecDepth 100000
set_option linter.unusedVariables false
set_option linter.unusedSimpArgs false
set_option pp.maxSteps 1500

/-! Which nodes fit. -/
theorem find_i (m : Mem) (j : Nat) : quiet.find evEnv m 3 (I j) [] = some none := by
 have hu : evEnv.under 3 = some (.int .i64) := by rfl
 simp only [quiet.find, quiet.keyOk, hu, cond_true]
attribute [local irreducible] quiet allocs effect wp ret wpO Runs Act.tmp Act.eval fin results Tree.set binOp loadAt storeAt target wanted cellsFrom

section
variable {m : Mem} {b off cap n : Nat}
set_option maxHeartbeats 2000000 in
theorem fitOther {at_ : Nat} {x : Nd} {ks : List Value} (hn : n ≤ 1000) (hN : Nodes m b off (listN n)) (hb : b < m.next) (hx : (listN n)[at_]? = some x) (hk : x.kind = 1 ∨ x.kind = 14)
  (hkids : ∀ m1 : Mem, Nodes m1 b off (listN n) → b < m1.next → Runs evEnv 37 [.slice (some ⟨b, off, none⟩) (3 + n) cap, I at_] m1 fun v m' => Keep (fun c => c < m1.next) [3] m1 m' ∧ Sl (fun c => c < m1.next) m' v 3 1 ks) :
  Runs evEnv 38 [.slice (some ⟨b, off, none⟩) (3 + n) cap, I at_] m fun v m' => v = I 0 ∧ Keep (fun c => c < m.next) [3] m m' := by
 have hat : at_ < 3 + n := by have := (List.getElem?_eq_some_iff.1 hx).1; rw [listN_len] at this; exact this
 have hld := hN.get hx
 have z := row_new m [I 0, I 0, encS [], I 0, I 0] 58 0
 refine runs_start rfl rfl rfl rfl ?_
 (repeat (first | (apply G.h; constructor <;> (first | exact Zc | apply gI | ((repeat' (first | exact Y0 | apply Y1 | ((first | apply Y4 | apply Y5); simp only [evs, Nat.reduceEqDiff, reduceIte] <;> rfl))); done) | (apply Y6; (try simp only [evs]); first | exact hld)))))
 (apply g_stR <;> (first | exact Zc | apply gI | ((repeat' (first | exact Y0 | apply Y1 | exact Y2 | apply Y3 | ((first | apply Y4 | apply Y5); simp only [evs, Nat.reduceEqDiff, reduceIte] <;> rfl))); done) | (apply Hy.mk; (try simp only [evs]); first | exact z | assumption) | (apply Om.mk; first | exact z) | (apply Y6; (try simp only [evs]); first | rfl) | apply Cn.mk))
 intro m2 r2 o2 n2; simp only [evs] at r2 o2 n2
 replace r2 : Row m2 m.next x.val 58 0 := r2
 have g2 : Grow m m2 := ((Grow.refl m).new _).wrote (Nat.le_refl _) o2 n2
 have hk2 := hkids m2 (hN.grow hb g2) (Nat.lt_of_lt_of_le hb g2.1)
 obtain ⟨kd, nn, tx, nm, ps⟩ := x
 simp only at hk
 (repeat (first | (apply G.h; constructor <;> (first | exact Zc | apply gI | ((repeat' (first | exact Y0 | apply Y1 | ((first | apply Y4 | apply Y5); simp only [evs, Nat.reduceEqDiff, reduceIte] <;> rfl))); done) | (apply Y6; (try simp only [evs]); first | rfl)))))
 ((first | apply g_run | apply g_run0) <;> (first | ((repeat' (first | exact Y0 | apply Y1 | exact Y2 | apply Y3 | ((first | apply Y4 | apply Y5); simp only [evs, Nat.reduceEqDiff, reduceIte] <;> rfl))); done) | exact Rn.mk ((by simp only [evs]; exact hk2)) | apply Cn.mk))
 rintro kv m3 ⟨k3, s3⟩
 try simp only [evs] at k3
 have r23 := r2.stay k3 (.inl r2.1)
 rcases hk with rfl | rfl
 all_goals
  (repeat (first | (apply G.h; constructor <;> (first | exact Zc | apply gI | ((repeat' (first | exact Y0 | apply Y1 | ((first | apply Y4 | apply Y5); simp only [evs, Nat.reduceEqDiff, reduceIte] <;> rfl))); done) | (apply Y6; (try simp only [evs]); first | exact r23.load1 rfl rfl rfl)))))
  (refine g_fin (by repeat' first | exact Rs.nil | apply Rs.cons | (apply Y4; simp only [evs, Nat.reduceEqDiff, reduceIte] <;> rfl)) (by (simp only [evs, Nat.reduceEqDiff, reduceIte] <;> first | rfl | (congr 1; omega) | omega)) ?_)
  exact ⟨rfl, by simp only [evs]; exact (Keep.grow g2).trans k3.all⟩
set_option maxHeartbeats 2000000 in
theorem fitList (hn : n ≤ 1000) (hN : Nodes m b off (listN n)) (hb : b < m.next) :
  Runs evEnv 38 [.slice (some ⟨b, off, none⟩) (3 + n) cap, I (2 : Nat)] m fun v m' => v = I (if 255 < n then 3 else 0 : Nat) ∧ Keep (fun c => c < m.next) [3] m m' := by
 have hld := hN.get (i := 2) (x := ⟨20, n, [], 0, 8⟩) rfl
 have h23 : 2 < 3 + n := by omega
 have z := row_new m [I 0, I 0, encS [], I 0, I 0] 58 0
 refine runs_start rfl rfl rfl rfl ?_
 (repeat (first | (apply G.h; constructor <;> (first | exact Zc | apply gI | ((repeat' (first | exact Y0 | apply Y1 | ((first | apply Y4 | apply Y5); simp only [evs, Nat.reduceEqDiff, reduceIte] <;> rfl))); done) | (apply Y6; (try simp only [evs]); first | exact hld)))))
 (apply g_stR <;> (first | exact Zc | apply gI | ((repeat' (first | exact Y0 | apply Y1 | exact Y2 | apply Y3 | ((first | apply Y4 | apply Y5); simp only [evs, Nat.reduceEqDiff, reduceIte] <;> rfl))); done) | (apply Hy.mk; (try simp only [evs]); first | exact z | assumption) | (apply Om.mk; first | exact z) | (apply Y6; (try simp only [evs]); first | rfl) | apply Cn.mk))
 intro m2 r2 o2 n2; simp only [evs] at r2 o2 n2
 replace r2 : Row m2 m.next [I 20, I n, encS [], I 0, I 8] 58 0 := r2
 have g2 : Grow m m2 := ((Grow.refl m).new _).wrote (Nat.le_refl _) o2 n2
 (repeat (first | (apply G.h; constructor <;> (first | exact Zc | apply gI | ((repeat' (first | exact Y0 | apply Y1 | ((first | apply Y4 | apply Y5); simp only [evs, Nat.reduceEqDiff, reduceIte] <;> rfl))); done) | (apply Y6; (try simp only [evs]); first | rfl)))))
 ((first | apply g_run | apply g_run0) <;> (first | ((repeat' (first | exact Y0 | apply Y1 | exact Y2 | apply Y3 | ((first | apply Y4 | apply Y5); simp only [evs, Nat.reduceEqDiff, reduceIte] <;> rfl))); done) | exact Rn.mk ((by simp only [evs]; exact kidsList b off cap n hn (hN.grow hb g2) (Nat.lt_of_lt_of_le hb g2.1))) | apply Cn.mk))
 rintro kv m3 ⟨k3, s3⟩
 try simp only [evs] at k3
 have r23 := r2.stay k3 (.inl r2.1)
 by_cases h255 : 255 < n
 ·rw [if_pos h255]
  (repeat (first | (apply G.h; constructor <;> (first | exact Zc | apply gI | ((repeat' (first | exact Y0 | apply Y1 | ((first | apply Y4 | apply Y5); simp only [evs, Nat.reduceEqDiff, reduceIte] <;> rfl))); done) | (apply Y6; (try simp only [evs]); first | exact r23.load1 rfl rfl rfl)))))
  (refine g_fin (by repeat' first | exact Rs.nil | apply Rs.cons | (apply Y4; simp only [evs, Nat.reduceEqDiff, reduceIte] <;> rfl)) (by (simp only [evs, Nat.reduceEqDiff, reduceIte] <;> first | rfl | (congr 1; omega) | omega)) ?_)
  exact ⟨rfl, by simp only [evs]; exact (Keep.grow g2).trans k3.all⟩
 ·rw [if_neg h255]
  (repeat (first | (apply G.h; constructor <;> (first | exact Zc | apply gI | ((repeat' (first | exact Y0 | apply Y1 | ((first | apply Y4 | apply Y5); simp only [evs, Nat.reduceEqDiff, reduceIte] <;> rfl))); done) | (apply Y6; (try simp only [evs]); first | exact r23.load1 rfl rfl rfl)))))
  (refine g_fin (by repeat' first | exact Rs.nil | apply Rs.cons | (apply Y4; simp only [evs, Nat.reduceEqDiff, reduceIte] <;> rfl)) (by (simp only [evs, Nat.reduceEqDiff, reduceIte] <;> first | rfl | (congr 1; omega) | omega)) ?_)
  exact ⟨rfl, by simp only [evs]; exact (Keep.grow g2).trans k3.all⟩
set_option maxHeartbeats 4000000 in
theorem fitVar (hn0 : 0 < n) (hn : n ≤ 1000) (hN : Nodes m b off (listN n)) (hb : b < m.next) :
  Runs evEnv 38 [.slice (some ⟨b, off, none⟩) (3 + n) cap, I (1 : Nat)] m fun v m' => v = I (if 256 < n then 3 else 0 : Nat) ∧ Keep (fun c => c < m.next) [3] m m' := by
 have hld := hN.get (i := 1) (x := ⟨3, 1, [120], 0, 0⟩) rfl
 have h13 : 1 < 3 + n := by omega
 have z := row_new m [I 0, I 0, encS [], I 0, I 0] 58 0
 refine runs_start rfl rfl rfl rfl ?_
 (repeat (first | (apply G.h; constructor <;> (first | exact Zc | apply gI | ((repeat' (first | exact Y0 | apply Y1 | ((first | apply Y4 | apply Y5); simp only [evs, Nat.reduceEqDiff, reduceIte] <;> rfl))); done) | (apply Y6; (try simp only [evs]); first | exact hld)))))
 (apply g_stR <;> (first | exact Zc | apply gI | ((repeat' (first | exact Y0 | apply Y1 | exact Y2 | apply Y3 | ((first | apply Y4 | apply Y5); simp only [evs, Nat.reduceEqDiff, reduceIte] <;> rfl))); done) | (apply Hy.mk; (try simp only [evs]); first | exact z | assumption) | (apply Om.mk; first | exact z) | (apply Y6; (try simp only [evs]); first | rfl) | apply Cn.mk))
 intro m2 r2 o2 n2; simp only [evs] at r2 o2 n2
 replace r2 : Row m2 m.next [I 3, I 1, encS [120], I 0, I 0] 58 0 := r2
 have g2 : Grow m m2 := ((Grow.refl m).new _).wrote (Nat.le_refl _) o2 n2
 have hN2 := hN.grow hb g2
 have hb2 : b < m2.next := Nat.lt_of_lt_of_le hb g2.1
 (repeat (first | (apply G.h; constructor <;> (first | exact Zc | apply gI | ((repeat' (first | exact Y0 | apply Y1 | ((first | apply Y4 | apply Y5); simp only [evs, Nat.reduceEqDiff, reduceIte] <;> rfl))); done) | (apply Y6; (try simp only [evs]); first | rfl)))))
 ((first | apply g_run | apply g_run0) <;> (first | ((repeat' (first | exact Y0 | apply Y1 | exact Y2 | apply Y3 | ((first | apply Y4 | apply Y5); simp only [evs, Nat.reduceEqDiff, reduceIte] <;> rfl))); done) | exact Rn.mk ((by simp only [evs]; exact kidsVar b off cap n hn hN2 hb2)) | apply Cn.mk))
 rintro kv m3 ⟨k3, s3⟩
 try simp only [evs] at k3 s3
 have r23 := r2.stay k3 (.inl r2.1)
 have hN3 : Nodes m3 b off (listN n) := hN2.stay (X := fun c => c < m2.next) hb2 hb2 k3
 have hb3 : b < m3.next := Nat.lt_of_lt_of_le hb2 k3.1
 obtain ⟨kb, kc, kr, kn, rfl, y2, y3, y4, y5, y6, y7⟩ := s3.at (i := 0) (by decide)
 have hkn : kn = 1 := by
  have := congrArg List.length y6
  rw [List.length_take] at this
  have h1 : [I ((2 : Nat) : Int)].length = 1 := rfl
  omega
 subst hkn
 replace y7 : kr[0]? = some (I 2) := y7
 (repeat (first | (apply G.h; constructor <;> (first | exact Zc | apply gI | ((repeat' (first | exact Y0 | apply Y1 | ((first | apply Y4 | apply Y5); simp only [evs, Nat.reduceEqDiff, reduceIte] <;> rfl))); done) | (apply Y6; (try simp only [evs]); first | exact r23.load1 rfl rfl rfl)))))
 refine ewp_loop (ι := Bool) (fun s a => (a.n = 95 ∧ a.defers = [] ∧ a.tmp 0 = .slice (some ⟨b, off, none⟩) (3 + n) cap ∧ a.tmp 7 = I 0 ∧ a.tmp 78 = .slice (some ⟨kb, 0, none⟩) 1 kc ∧ a.tmp 79 = I 1 ∧ a.tmp 80 = I (if s then 0 else 1 : Nat)) ∧ (if s then a.m = m3 else Grow m3 a.m ∧ ¬ 256 < n)) (fun s => if s then 1 else 0) true ?_ ?_
 ·exact ⟨(by refine ⟨?_, ?_, ?_, ?_, ?_, ?_, ?_⟩ <;> (simp only [evs, Nat.reduceEqDiff, reduceIte] <;> first | rfl | (congr 1; omega) | omega)), by rw [if_pos rfl]; (simp only [evs, Nat.reduceEqDiff, reduceIte] <;> first | rfl | (congr 1; omega) | omega)⟩
 rintro s a ⟨⟨qn, qd, q0, q7, q78, q79, q80⟩, hs⟩ ih
 cases s with
 | true =>
  rw [if_pos rfl] at hs q80
  subst hs
  (repeat (first | (apply G.h; constructor <;> (first | exact Zc | apply gI | ((repeat' (first | exact Y0 | apply Y1 | ((first | apply Y4 | apply Y5); simp only [evs, Nat.reduceEqDiff, reduceIte, qn, qd, q0, q7, q78, q79, q80] <;> rfl))); done) | (apply Y6; (try simp only [evs, qn, qd, q0, q7, q78, q79, q80]); first | exact y3.load1 rfl rfl y7)))))
  ((first | apply g_run | apply g_run0) <;> (first | ((repeat' (first | exact Y0 | apply Y1 | exact Y2 | apply Y3 | ((first | apply Y4 | apply Y5); simp only [evs, Nat.reduceEqDiff, reduceIte, qn, qd, q0, q7, q78, q79, q80] <;> rfl))); done) | exact Rn.mk ((by simp only [evs, qn, qd, q0, q7, q78, q79, q80]; exact needList b off cap n hn0 hn hN3 hb3)) | apply Cn.mk))
  rintro v m4 ⟨rfl, g4⟩
  try simp only [evs, qn, qd, q0, q7, q78, q79, q80] at g4
  by_cases h256 : 256 < n
  ·rw [if_pos h256]
   (repeat (first | (apply G.h; constructor <;> (first | exact Zc | apply gI | ((repeat' (first | exact Y0 | apply Y1 | ((first | apply Y4 | apply Y5); simp only [evs, Nat.reduceEqDiff, reduceIte, qn, qd, q0, q7, q78, q79, q80] <;> rfl))); done) | (apply Y6; (try simp only [evs, qn, qd, q0, q7, q78, q79, q80]); first | rfl)))))
   (refine g_fin (by repeat' first | exact Rs.nil | apply Rs.cons | (apply Y4; simp only [evs, Nat.reduceEqDiff, reduceIte, qn, qd, q0, q7, q78, q79, q80] <;> rfl)) (by (simp only [evs, Nat.reduceEqDiff, reduceIte, qn, qd, q0, q7, q78, q79, q80] <;> first | rfl | (congr 1; omega) | omega)) ?_)
   exact ⟨rfl, by simp only [evs]; exact (Keep.grow g2).trans (k3.all.trans (Keep.grow g4))⟩
  ·(repeat (first | (apply G.h; constructor <;> (first | exact Zc | apply gI | ((repeat' (first | exact Y0 | apply Y1 | ((first | apply Y4 | apply Y5); simp only [evs, Nat.reduceEqDiff, reduceIte, qn, qd, q0, q7, q78, q79, q80] <;> rfl))); done) | (apply Y6; (try simp only [evs, qn, qd, q0, q7, q78, q79, q80]); first | rfl)))))
   refine ih false _ ⟨(by refine ⟨?_, ?_, ?_, ?_, ?_, ?_, ?_⟩ <;> (simp only [evs, Nat.reduceEqDiff, reduceIte, qn, qd, q0, q7, q78, q79, q80] <;> first | rfl | (congr 1; omega) | omega)), ?_⟩ (by decide)
   rw [if_neg (by decide)]
   simp only [evs]
   exact ⟨g4, h256⟩
 | false =>
  clear ih
  rw [if_neg (by decide)] at hs q80
  rw [if_neg hs.2]
  (repeat (first | (apply G.h; constructor <;> (first | exact Zc | apply gI | ((repeat' (first | exact Y0 | apply Y1 | ((first | apply Y4 | apply Y5); simp only [evs, Nat.reduceEqDiff, reduceIte, qn, qd, q0, q7, q78, q79, q80] <;> rfl))); done) | (apply Y6; (try simp only [evs, qn, qd, q0, q7, q78, q79, q80]); first | rfl)))))
  (refine g_fin (by repeat' first | exact Rs.nil | apply Rs.cons | (apply Y4; simp only [evs, Nat.reduceEqDiff, reduceIte, qn, qd, q0, q7, q78, q79, q80] <;> rfl)) (by (simp only [evs, Nat.reduceEqDiff, reduceIte, qn, qd, q0, q7, q78, q79, q80] <;> first | rfl | (congr 1; omega) | omega)) ?_)
  exact ⟨rfl, by simp only [evs]; exact (Keep.grow g2).trans (k3.all.trans (Keep.grow hs.1))⟩
/-- the first node that does not fit. -/
def badAt (n : Nat) : Nat := if 256 < n then 1 else if 255 < n then 2 else 0
set_option maxHeartbeats 4000000 in
theorem fits19 (hn0 : 0 < n) (hn : n ≤ 1000) (hN : Nodes m b off (listN n)) (hb : b < m.next) :
  Runs evEnv 19 [.slice (some ⟨b, off, none⟩) (3 + n) cap] m fun v m' => v = .tuple ⟨[I (badAt n), I (if 255 < n then 3 else 0 : Nat)]⟩ ∧ Keep (fun c => c < m.next) [3] m m' := by
 have hfit : ∀ j, j < 3 + n → ∀ m1 : Mem, Nodes m1 b off (listN n) → b < m1.next → Runs evEnv 38 [.slice (some ⟨b, off, none⟩) (3 + n) cap, I j] m1 fun v m' => v = I (if j = 1 ∧ 256 < n ∨ j = 2 ∧ 255 < n then 3 else 0 : Nat) ∧ Keep (fun c => c < m1.next) [3] m1 m' := by
  intro j hj m1 h1 h2
  rcases (show j = 0 ∨ j = 1 ∨ j = 2 ∨ 3 ≤ j by omega) with rfl | rfl | rfl | h3
  ·rw [if_neg (by omega)]
   exact fitOther hn h1 h2 (x := ⟨1, 1, [], 0, 0⟩) rfl (.inl rfl) fun m2 e1 e2 => kidsProg b off cap n hn e1 e2
  ·have := fitVar (cap := cap) hn0 hn h1 h2
   rw [show (if (1 : Nat) = 1 ∧ 256 < n ∨ (1 : Nat) = 2 ∧ 255 < n then 3 else 0 : Nat) = (if 256 < n then 3 else 0) by simp]
   exact this
  ·have := fitList (cap := cap) hn h1 h2
   rw [show (if (2 : Nat) = 1 ∧ 256 < n ∨ (2 : Nat) = 2 ∧ 255 < n then 3 else 0 : Nat) = (if 255 < n then 3 else 0) by simp]
   exact this
  ·obtain ⟨i, rfl⟩ : ∃ i, j = 3 + i := ⟨j - 3, by omega⟩
   rw [if_neg (by omega)]
   exact fitOther hn h1 h2 (listN_at (by omega)) (.inr rfl) fun m2 e1 e2 => kidsNum b off cap n i hn e1 e2 (by omega)
 have hkd : ∀ j, j < 3 + n → ∃ x, (listN n)[j]? = some x ∧ ¬ x.kind = 21 := by
  intro j hj
  rcases (show j = 0 ∨ j = 1 ∨ j = 2 ∨ 3 ≤ j by omega) with rfl | rfl | rfl | h3
  ·exact ⟨_, rfl, by decide⟩
  ·exact ⟨_, rfl, by decide⟩
  ·exact ⟨_, rfl, by show ¬ (20 : Int) = 21; decide⟩
  ·obtain ⟨i, rfl⟩ : ∃ i, j = 3 + i := ⟨j - 3, by omega⟩
   exact ⟨_, listN_at (by omega), by show ¬ (14 : Int) = 21; decide⟩
 refine runs_start rfl rfl rfl rfl ?_
 (repeat (first | (apply G.h; constructor <;> (first | exact Zc | apply gI | ((repeat' (first | exact Y0 | apply Y1 | ((first | apply Y4 | apply Y5); simp only [evs, Nat.reduceEqDiff, reduceIte] <;> rfl))); done) | (apply Y6; (try simp only [evs]); first | rfl)))))
 refine ewp_loop (ι := Nat) (fun j a => (a.n = 67 ∧ a.defers = [] ∧ a.tmp 0 = .slice (some ⟨b, off, none⟩) (3 + n) cap ∧ a.tmp 4 = .map (some m.next) ∧ a.tmp 12 = .slice (some ⟨b, off, none⟩) (3 + n) cap ∧ a.tmp 13 = I (3 + n : Nat) ∧ a.tmp 14 = I j) ∧ j ≤ 3 + n ∧ Keep (fun c => c < m.next) [3] m a.m ∧ Mp a.m m.next [] ∧ (2 ≤ j → ¬ 256 < n) ∧ (3 ≤ j → ¬ 255 < n)) (fun j => 3 + n - j) 0 ?_ ?_
 ·exact ⟨(by refine ⟨?_, ?_, ?_, ?_, ?_, ?_, ?_⟩ <;> (simp only [evs, Nat.reduceEqDiff, reduceIte] <;> first | rfl | (congr 1; omega) | omega)), Nat.zero_le _, by simp only [evs]; exact Keep.new _, by simp only [evs]; exact mp_new m, by omega, by omega⟩
 rintro j a ⟨⟨wn, wd, w0, w4, w12, w13, w14⟩, hj, wk, wm, wa, wb⟩ ih
 rcases Nat.lt_or_ge j (3 + n) with hlt | hge
 ·obtain ⟨x, hx, hx21⟩ := hkd j hlt
  have hNa : Nodes a.m b off (listN n) := hN.stay (X := fun c => c < m.next) hb hb wk
  have hba : b < a.m.next := Nat.lt_of_lt_of_le hb wk.1
  have hld := hNa.get hx
  have z := row_new a.m [I 0, I 0, encS [], I 0, I 0] 58 0
  (repeat (first | (apply G.h; constructor <;> (first | exact Zc | apply gI | ((repeat' (first | exact Y0 | apply Y1 | ((first | apply Y4 | apply Y5); simp only [evs, Nat.reduceEqDiff, reduceIte, wn, wd, w0, w4, w12, w13, w14] <;> rfl))); done) | (apply Y6; (try simp only [evs, wn, wd, w0, w4, w12, w13, w14]); first | exact hld)))))
  (apply g_stR <;> (first | exact Zc | apply gI | ((repeat' (first | exact Y0 | apply Y1 | exact Y2 | apply Y3 | ((first | apply Y4 | apply Y5); simp only [evs, Nat.reduceEqDiff, reduceIte, wn, wd, w0, w4, w12, w13, w14] <;> rfl))); done) | (apply Hy.mk; (try simp only [evs, wn, wd, w0, w4, w12, w13, w14]); first | exact z | assumption) | (apply Om.mk; first | exact z) | (apply Y6; (try simp only [evs, wn, wd, w0, w4, w12, w13, w14]); first | rfl) | apply Cn.mk))
  intro m2 r2 o2 n2; simp only [evs, wn, wd, w0, w4, w12, w13, w14] at r2 o2 n2
  replace r2 : Row m2 a.m.next x.val 58 0 := r2
  have g2 : Grow a.m m2 := ((Grow.refl a.m).new _).wrote (Nat.le_refl _) o2 n2
  have hM2 : Mp m2 m.next [] := wm.stay (Keep.grow (X := fun c => c < a.m.next) (T := []) g2) (.inl wm.1)
  have hgm := hM2.2
  have hfnd := find_i m2 j
  have hN2 := hNa.grow hba g2
  have hb2 : b < m2.next := Nat.lt_of_lt_of_le hba g2.1
  obtain ⟨kd, nn, tx, nm, ps⟩ := x
  replace hx21 : ¬ kd = 21 := hx21
  (repeat (first | (apply G.h; constructor <;> (first | exact Zc | apply gI | ((repeat' (first | exact Y0 | apply Y1 | ((first | apply Y4 | apply Y5); simp only [evs, Nat.reduceEqDiff, reduceIte, wn, wd, w0, w4, w12, w13, w14] <;> rfl))); done) | (apply Y6; (try simp only [evs, wn, wd, w0, w4, w12, w13, w14]); first | exact r2.load1 rfl rfl rfl)))))
  (apply g_lookup (f := none) <;> (first | exact Zc | apply gI | ((repeat' (first | exact Y0 | apply Y1 | exact Y2 | apply Y3 | ((first | apply Y4 | apply Y5); simp only [evs, Nat.reduceEqDiff, reduceIte, wn, wd, w0, w4, w12, w13, w14] <;> rfl))); done) | (apply Hy.mk; (try simp only [evs, wn, wd, w0, w4, w12, w13, w14]); first | exact hgm | exact hfnd | assumption) | (apply Om.mk; first | exact hgm | exact hfnd) | (apply Y6; (try simp only [evs, wn, wd, w0, w4, w12, w13, w14]); first | rfl) | apply Cn.mk))
  (repeat (first | (apply G.h; constructor <;> (first | exact Zc | apply gI | ((repeat' (first | exact Y0 | apply Y1 | ((first | apply Y4 | apply Y5); simp only [evs, Nat.reduceEqDiff, reduceIte, wn, wd, w0, w4, w12, w13, w14] <;> rfl))); done) | (apply Y6; (try simp only [evs, wn, wd, w0, w4, w12, w13, w14]); first | rfl)))))
  ((first | apply g_run | apply g_run0) <;> (first | ((repeat' (first | exact Y0 | apply Y1 | exact Y2 | apply Y3 | ((first | apply Y4 | apply Y5); simp only [evs, Nat.reduceEqDiff, reduceIte, wn, wd, w0, w4, w12, w13, w14] <;> rfl))); done) | exact Rn.mk ((by simp only [evs, wn, wd, w0, w4, w12, w13, w14]; exact hfit j hlt m2 hN2 hb2)) | apply Cn.mk))
  rintro v m3 ⟨rfl, k3⟩
  try simp only [evs, wn, wd, w0, w4, w12, w13, w14] at k3
  have hk3 : Keep (fun c => c < m.next) [3] m m3 := wk.trans ((Keep.grow g2).trans k3.all)
  by_cases hbad : j = 1 ∧ 256 < n ∨ j = 2 ∧ 255 < n
  ·rw [if_pos hbad]
   have hj2 : badAt n = j ∧ 255 < n := by
    unfold badAt
    rcases hbad with ⟨h1, h2⟩ | ⟨h1, h2⟩
    ·rw [if_pos h2]; omega
    ·have := wa (by omega)
     rw [if_neg this, if_pos h2]; omega
   rw [hj2.1, if_pos hj2.2]
   (repeat (first | (apply G.h; constructor <;> (first | exact Zc | apply gI | ((repeat' (first | exact Y0 | apply Y1 | ((first | apply Y4 | apply Y5); simp only [evs, Nat.reduceEqDiff, reduceIte, wn, wd, w0, w4, w12, w13, w14] <;> rfl))); done) | (apply Y6; (try simp only [evs, wn, wd, w0, w4, w12, w13, w14]); first | rfl)))))
   (refine g_fin (by repeat' first | exact Rs.nil | apply Rs.cons | (apply Y4; simp only [evs, Nat.reduceEqDiff, reduceIte, wn, wd, w0, w4, w12, w13, w14] <;> rfl)) (by (simp only [evs, Nat.reduceEqDiff, reduceIte, wn, wd, w0, w4, w12, w13, w14] <;> first | rfl | (congr 1; omega) | omega)) ?_)
   exact ⟨rfl, by simp only [evs]; exact hk3⟩
  ·rw [if_neg hbad]
   (repeat (first | (apply G.h; constructor <;> (first | exact Zc | apply gI | ((repeat' (first | exact Y0 | apply Y1 | ((first | apply Y4 | apply Y5); simp only [evs, Nat.reduceEqDiff, reduceIte, wn, wd, w0, w4, w12, w13, w14] <;> rfl))); done) | (apply Y6; (try simp only [evs, wn, wd, w0, w4, w12, w13, w14]); first | rfl)))))
   refine ih (j + 1) _ ⟨(by refine ⟨?_, ?_, ?_, ?_, ?_, ?_, ?_⟩ <;> (simp only [evs, Nat.reduceEqDiff, reduceIte, wn, wd, w0, w4, w12, w13, w14] <;> first | rfl | (congr 1; omega) | omega)), hlt, by simp only [evs]; exact hk3, by simp only [evs]; exact hM2.stay k3 (.inl hM2.1), ?_, ?_⟩ (by omega)
   ·intro h h2
    rcases (show j = 1 ∨ 2 ≤ j by omega) with h3 | h3
    ·exact hbad (.inl ⟨h3, h2⟩)
    ·exact wa h3 h2
   ·intro h h2
    rcases (show j = 2 ∨ 3 ≤ j by omega) with h3 | h3
    ·exact hbad (.inr ⟨h3, h2⟩)
    ·exact wb h3 h2
 ·obtain rfl : j = 3 + n := by omega
  clear ih
  have h1 := wa (by omega)
  have h2 := wb (by omega)
  rw [show badAt n = 0 by unfold badAt; rw [if_neg h1, if_neg h2], if_neg h2]
  (repeat (first | (apply G.h; constructor <;> (first | exact Zc | apply gI | ((repeat' (first | exact Y0 | apply Y1 | ((first | apply Y4 | apply Y5); simp only [evs, Nat.reduceEqDiff, reduceIte, wn, wd, w0, w4, w12, w13, w14] <;> rfl))); done) | (apply Y6; (try simp only [evs, wn, wd, w0, w4, w12, w13, w14]); first | rfl)))))
  (refine g_fin (by repeat' first | exact Rs.nil | apply Rs.cons | (apply Y4; simp only [evs, Nat.reduceEqDiff, reduceIte, wn, wd, w0, w4, w12, w13, w14] <;> rfl)) (by (simp only [evs, Nat.reduceEqDiff, reduceIte, wn, wd, w0, w4, w12, w13, w14] <;> first | rfl | (congr 1; omega) | omega)) ?_)
  exact ⟨rfl, by simp only [evs]; exact wk⟩
end
end Go.Proofs.YthhcnfgeacnfiaaGreatDoor
