/- Part of a verified evaluator of the model's programs and of runs by it: LD SL4. -/
import Derived.Test.YthhcnfgeacnfiaaGreatDoorXAB
import Derived.Test.YthhcnfgeacnfiaaGreatDoorXAA
namespace Go.Proofs.YthhcnfgeacnfiaaGreatDoor
open Go Go.Ev
set_option maxRecDepth 100000
set_option linter.unusedVariables false
set_option linter.unusedSimpArgs false
set_option pp.maxSteps 1500
theorem i64mul {m : Mem} {t : TypeId} : Bn evEnv m .mul t (I 0) (I 10) (I 0) := .mk rfl

theorem u8sub48 {m : Mem} {t : TypeId} : Bn evEnv m .sub t (.int .u8 ((48 : Nat) : Int)) (.int .u8 48) (.int .u8 0) := .mk rfl
theorem i64sub48 {m : Mem} {t : TypeId} : Bn evEnv m .sub t (I 2305843009213693951) (I 0) (I (2305843009213693951 - 0)) := .mk rfl
theorem i64quo48 {m : Mem} {t : TypeId} : Bn evEnv m .quo t (I (2305843009213693951 - 0)) (I 10) (I 230584300921369395) := .mk rfl

theorem u8sub49 {m : Mem} {t : TypeId} : Bn evEnv m .sub t (.int .u8 ((49 : Nat) : Int)) (.int .u8 48) (.int .u8 1) := .mk rfl
theorem i64sub49 {m : Mem} {t : TypeId} : Bn evEnv m .sub t (I 2305843009213693951) (I 1) (I (2305843009213693951 - 1)) := .mk rfl
theorem i64quo49 {m : Mem} {t : TypeId} : Bn evEnv m .quo t (I (2305843009213693951 - 1)) (I 10) (I 230584300921369395) := .mk rfl
attribute [local irreducible] quiet allocs effect wp ret wpO Runs Act.tmp Act.eval fin results Tree.set binOp loadAt storeAt target wanted cellsFrom


set_option maxHeartbeats 2000000 in
/-- one digit alone. -/
theorem number40_48 (b off cap : Nat) (bs : List UInt8) (hl : bs.length ≤ 1000000) (at_ : Nat) (c x : UInt8) (hcv : c.toNat = 48) (m : Mem) (hB : Bts m b off bs) (hc : bs[at_]? = some c) (hx : bs[at_ + 1]? = some x) (hxd : digitN x.toNat = false) (hxl : letterN x.toNat = false) :
  Runs evEnv 47 [.slice (some ⟨b, off, none⟩) bs.length cap, I at_] m fun v m' => Grow m m' ∧ v = .tuple ⟨[.agg ⟨[I 3, encS [], I 0, I at_]⟩, I (at_ + 1 : Nat), I 0]⟩ := by
 have hat := (List.getElem?_eq_some_iff.1 hx).1
 have r4 : Row (m.new (rowObj [I 0, encS [], I 0, I 0] 87 0)) m.next [I 0, encS [], I 0, I 0] 87 0 := row_new m [I 0, encS [], I 0, I 0] 87 0
 have g1 : Grow m (m.new (rowObj [I 0, encS [], I 0, I 0] 87 0)) := (Grow.refl m).new _
 refine runs_start rfl rfl rfl rfl ?_
 (repeat (first | (apply G.h; constructor <;> (first | exact Zc | apply gI | ((repeat' (first | exact Y0 | apply Y1 | ((first | apply Y4 | apply Y5); simp only [evs, Nat.reduceEqDiff, reduceIte] <;> rfl))); done) | (apply Y6; (try simp only [evs]); first | rfl)))))
 have z7 := row_new (m.new (rowObj [I 0, encS [], I 0, I 0] 87 0)) [I 0, encS [], I 0, I 0] 87 0
 (apply g_stR <;> (first | exact Zc | apply gI | ((repeat' (first | exact Y0 | apply Y1 | exact Y2 | apply Y3 | ((first | apply Y4 | apply Y5); simp only [evs, Nat.reduceEqDiff, reduceIte] <;> rfl))); done) | (apply Hy.mk; (try simp only [evs]); first | exact z7 | assumption) | (apply Om.mk; first | exact z7) | (apply Y6; (try simp only [evs]); first | rfl) | apply Cn.mk))
 intro m3 r7 o3 n3; simp only [evs] at r7 o3 n3
 replace r7 : Row m3 (m.next + 1) [I 3, encS [], I 0, I at_] 87 0 := r7
 have g3 : Grow m m3 := g1.trans (((Grow.refl _).new _).wrote (Nat.le_refl _) o3 n3)
 have r43 : Row m3 m.next [I 0, encS [], I 0, I 0] 87 0 := r4.grow (((Grow.refl _).new _).wrote (Nat.le_refl _) o3 n3)
 have hld := (hB.grow g3).load hc
 rw [hcv] at hld
 have hlx := (hB.grow g3).load hx
 (repeat (first | (apply G.h; constructor <;> (first | exact Zc | apply gI | ((repeat' (first | exact Y0 | apply Y1 | ((first | apply Y4 | apply Y5); simp only [evs, Nat.reduceEqDiff, reduceIte] <;> rfl))); done) | (apply Y6; (try simp only [evs]); first | rfl)))))
 refine ewp_loop (ι := Bool) (fun s a => (a.n = 82 ∧ a.defers = [] ∧ a.tmp 0 = .slice (some ⟨b, off, none⟩) bs.length cap ∧ a.tmp 1 = I at_ ∧ a.tmp 4 = ptr m.next ∧ a.tmp 7 = ptr (m.next + 1) ∧ a.tmp 8 = I (if s then at_ else at_ + 1 : Nat)) ∧ a.m = m3) (fun s => if s then 1 else 0) true ?_ ?_
 ·exact ⟨(by refine ⟨?_, ?_, ?_, ?_, ?_, ?_, ?_⟩ <;> (simp only [evs, Nat.reduceEqDiff, reduceIte] <;> first | rfl | (congr 1; omega) | omega)), by (simp only [evs, Nat.reduceEqDiff, reduceIte] <;> first | rfl | (congr 1; omega) | omega)⟩
 rintro s a ⟨⟨qn, qd, q0, q1, q4, q7, q8⟩, qm⟩ ih
 cases s with
 | true =>
  rw [if_pos rfl] at q8
  (repeat (first | (apply G.h; constructor <;> (first | exact Zc | apply gI | ((repeat' (first | exact Y0 | apply Y1 | ((first | apply Y4 | apply Y5); simp only [evs, Nat.reduceEqDiff, reduceIte, qn, qd, q0, q1, q4, q7, q8, qm] <;> rfl))); done) | (apply Y6; (try simp only [evs, qn, qd, q0, q1, q4, q7, q8, qm]); first | exact hld)))))
  ((first | apply g_run | apply g_run0) <;> (first | ((repeat' (first | exact Y0 | apply Y1 | exact Y2 | apply Y3 | ((first | apply Y4 | apply Y5); simp only [evs, Nat.reduceEqDiff, reduceIte, qn, qd, q0, q1, q4, q7, q8, qm] <;> rfl))); done) | exact Rn.mk (digit45 48 _) | apply Cn.mk))
  rintro v m4 ⟨rfl, rfl⟩
  rw [show digitN 48 = true from rfl]
  (repeat (first | (apply G.h; constructor <;> (first | exact Zc | apply gI | ((repeat' (first | exact Y0 | apply Y1 | ((first | apply Y4 | apply Y5); simp only [evs, Nat.reduceEqDiff, reduceIte, qn, qd, q0, q1, q4, q7, q8, qm] <;> rfl))); done) | (apply Y6; (try simp only [evs, qn, qd, q0, q1, q4, q7, q8, qm]); first | rfl)))))
  exact ih false _ ⟨(by refine ⟨?_, ?_, ?_, ?_, ?_, ?_, ?_⟩ <;> (simp only [evs, Nat.reduceEqDiff, reduceIte, qn, qd, q0, q1, q4, q7, q8] <;> first | rfl | (congr 1; omega) | omega)), by (simp only [evs, Nat.reduceEqDiff, reduceIte, qm] <;> first | rfl | (congr 1; omega) | omega)⟩ (by decide)
 | false =>
  rw [if_neg (by decide)] at q8
  (repeat (first | (apply G.h; constructor <;> (first | exact Zc | apply gI | ((repeat' (first | exact Y0 | apply Y1 | ((first | apply Y4 | apply Y5); simp only [evs, Nat.reduceEqDiff, reduceIte, qn, qd, q0, q1, q4, q7, q8, qm] <;> rfl))); done) | (apply Y6; (try simp only [evs, qn, qd, q0, q1, q4, q7, q8, qm]); first | exact hlx)))))
  ((first | apply g_run | apply g_run0) <;> (first | ((repeat' (first | exact Y0 | apply Y1 | exact Y2 | apply Y3 | ((first | apply Y4 | apply Y5); simp only [evs, Nat.reduceEqDiff, reduceIte, qn, qd, q0, q1, q4, q7, q8, qm] <;> rfl))); done) | exact Rn.mk (digit45 x.toNat _) | apply Cn.mk))
  rintro v m4 ⟨rfl, rfl⟩
  rw [hxd]
  (repeat (first | (apply G.h; constructor <;> (first | exact Zc | apply gI | ((repeat' (first | exact Y0 | apply Y1 | ((first | apply Y4 | apply Y5); simp only [evs, Nat.reduceEqDiff, reduceIte, qn, qd, q0, q1, q4, q7, q8, qm] <;> rfl))); done) | (apply Y6; (try simp only [evs, qn, qd, q0, q1, q4, q7, q8, qm]); first | exact hld | exact hlx)))))
  ((first | apply g_run | apply g_run0) <;> (first | ((repeat' (first | exact Y0 | apply Y1 | exact Y2 | apply Y3 | ((first | apply Y4 | apply Y5); simp only [evs, Nat.reduceEqDiff, reduceIte, qn, qd, q0, q1, q4, q7, q8, qm] <;> rfl))); done) | exact Rn.mk (letter44 x.toNat _) | apply Cn.mk))
  rintro v m4 ⟨rfl, rfl⟩
  rw [hxl]
  (repeat (first | (apply G.h; constructor <;> (first | exact Zc | apply gI | ((repeat' (first | exact Y0 | apply Y1 | ((first | apply Y4 | apply Y5); simp only [evs, Nat.reduceEqDiff, reduceIte, qn, qd, q0, q1, q4, q7, q8, qm] <;> rfl))); done) | (apply Y6; (try simp only [evs, qn, qd, q0, q1, q4, q7, q8, qm]); first | rfl)))))
  clear ih
  refine ewp_loop (ι := Bool) (fun s a => (a.n = 82 ∧ a.defers = [] ∧ a.tmp 0 = .slice (some ⟨b, off, none⟩) bs.length cap ∧ a.tmp 1 = I at_ ∧ a.tmp 4 = ptr m.next ∧ a.tmp 7 = ptr (m.next + 1) ∧ a.tmp 8 = I (at_ + 1 : Nat)) ∧ (if s then a.tmp 9 = I at_ ∧ a.m = m3 else a.tmp 9 = I (at_ + 1 : Nat) ∧ Grow m a.m ∧ Row a.m (m.next + 1) [I 3, encS [], I 0, I at_] 87 0 ∧ Row a.m m.next [I 0, encS [], I 0, I 0] 87 0)) (fun s => if s then 1 else 0) true ?_ ?_
  ·exact ⟨(by refine ⟨?_, ?_, ?_, ?_, ?_, ?_, ?_⟩ <;> (simp only [evs, Nat.reduceEqDiff, reduceIte, qn, qd, q0, q1, q4, q7, q8] <;> first | rfl | (congr 1; omega) | omega)), by rw [if_pos rfl]; exact ⟨by (simp only [evs, Nat.reduceEqDiff, reduceIte, qn, qd, q0, q1, q4, q7, q8] <;> first | rfl | (congr 1; omega) | omega), by (simp only [evs, Nat.reduceEqDiff, reduceIte, qm] <;> first | rfl | (congr 1; omega) | omega)⟩⟩
  clear qn qd q0 q1 q4 q7 q8 qm
  rintro s a ⟨⟨wn, wd, w0, w1, w4, w7, w8⟩, hs⟩ ih
  cases s with
  | true =>
   rw [if_pos rfl] at hs
   obtain ⟨w9, wm⟩ := hs
   (repeat (first | (apply G.h; constructor <;> (first | exact Zc | apply gI | ((repeat' (first | exact Y0 | apply Y1 | ((first | apply Y4 | apply Y5); simp only [evs, Nat.reduceEqDiff, reduceIte, wn, wd, w0, w1, w4, w7, w8, w9, wm] <;> rfl))); done) | (apply Y6; (try simp only [evs, wn, wd, w0, w1, w4, w7, w8, w9, wm]); first | exact hld)))))
   apply g_bin
   focus (apply Ev.mk; (simp only [evs, Nat.reduceEqDiff, reduceIte, wn, wd, w0, w1, w4, w7, w8, w9] <;> rfl))
   focus (apply Ev.mk; (simp only [evs, Nat.reduceEqDiff, reduceIte, wn, wd, w0, w1, w4, w7, w8, w9] <;> rfl))
   focus exact u8sub48
   focus (apply Dn.mk; (simp only [evs, Nat.reduceEqDiff, reduceIte, wn, wd, w0, w1, w4, w7, w8] <;> rfl))
   apply g_convI (w := 0)
   focus exact Rf.mk
   focus exact Rf.mk
   focus (apply Ev.mk; (simp only [evs, Nat.reduceEqDiff, reduceIte, wn, wd, w0, w1, w4, w7, w8, w9] <;> rfl))
   focus exact Om.mk rfl
   focus (apply Dn.mk; (simp only [evs, Nat.reduceEqDiff, reduceIte, wn, wd, w0, w1, w4, w7, w8] <;> rfl))
   (repeat (first | (apply G.h; constructor <;> (first | exact Zc | apply gI | ((repeat' (first | exact Y0 | apply Y1 | ((first | apply Y4 | apply Y5); simp only [evs, Nat.reduceEqDiff, reduceIte, wn, wd, w0, w1, w4, w7, w8, w9, wm] <;> rfl))); done) | (apply Y6; (try simp only [evs, wn, wd, w0, w1, w4, w7, w8, w9, wm]); first | exact r7.load1 rfl rfl rfl)))))
   apply g_bin
   focus (apply Ev.mk; (simp only [evs, Nat.reduceEqDiff, reduceIte, wn, wd, w0, w1, w4, w7, w8, w9] <;> rfl))
   focus (apply Ev.mk; (simp only [evs, Nat.reduceEqDiff, reduceIte, wn, wd, w0, w1, w4, w7, w8, w9] <;> rfl))
   focus exact i64quo48
   focus (apply Dn.mk; (simp only [evs, Nat.reduceEqDiff, reduceIte, wn, wd, w0, w1, w4, w7, w8] <;> rfl))
   (repeat (first | (apply G.h; constructor <;> (first | exact Zc | apply gI | ((repeat' (first | exact Y0 | apply Y1 | ((first | apply Y4 | apply Y5); simp only [evs, Nat.reduceEqDiff, reduceIte, wn, wd, w0, w1, w4, w7, w8, w9, wm] <;> rfl))); done) | (apply Y6; (try simp only [evs, wn, wd, w0, w1, w4, w7, w8, w9, wm]); first | exact r7.load1 rfl rfl rfl)))))
   apply g_bin
   focus (apply Ev.mk; (simp only [evs, Nat.reduceEqDiff, reduceIte, wn, wd, w0, w1, w4, w7, w8, w9] <;> rfl))
   focus (apply Ev.mk; (simp only [evs, Nat.reduceEqDiff, reduceIte, wn, wd, w0, w1, w4, w7, w8, w9] <;> rfl))
   focus exact i64mul
   focus (apply Dn.mk; (simp only [evs, Nat.reduceEqDiff, reduceIte, wn, wd, w0, w1, w4, w7, w8] <;> rfl))
   (repeat (first | (apply G.h; constructor <;> (first | exact Zc | apply gI | ((repeat' (first | exact Y0 | apply Y1 | ((first | apply Y4 | apply Y5); simp only [evs, Nat.reduceEqDiff, reduceIte, wn, wd, w0, w1, w4, w7, w8, w9, wm] <;> rfl))); done) | (apply Y6; (try simp only [evs, wn, wd, w0, w1, w4, w7, w8, w9, wm]); first | rfl)))))
   (apply g_stR <;> (first | exact Zc | apply gI | ((repeat' (first | exact Y0 | apply Y1 | exact Y2 | apply Y3 | ((first | apply Y4 | apply Y5); simp only [evs, Nat.reduceEqDiff, reduceIte, wn, wd, w0, w1, w4, w7, w8, w9, wm] <;> rfl))); done) | (apply Hy.mk; (try simp only [evs, wn, wd, w0, w1, w4, w7, w8, w9, wm]); first | exact r7 | assumption) | (apply Om.mk; first | exact r7) | (apply Y6; (try simp only [evs, wn, wd, w0, w1, w4, w7, w8, w9, wm]); first | rfl) | apply Cn.mk))
   intro m4 r8 o4 n4; simp only [evs, wn, wd, w0, w1, w4, w7, w8, w9, wm] at r8 o4 n4
   replace r8 : Row m4 (m.next + 1) [I 3, encS [], I 0, I at_] 87 0 := r8
   have r44 := r43.keep (m' := m4) (by rw [n4]; exact Nat.le_refl _) (o4 _ (by omega))
   (repeat (first | (apply G.h; constructor <;> (first | exact Zc | apply gI | ((repeat' (first | exact Y0 | apply Y1 | ((first | apply Y4 | apply Y5); simp only [evs, Nat.reduceEqDiff, reduceIte, wn, wd, w0, w1, w4, w7, w8, w9] <;> rfl))); done) | (apply Y6; (try simp only [evs, wn, wd, w0, w1, w4, w7, w8, w9]); first | rfl)))))
   refine ih false _ ⟨(by refine ⟨?_, ?_, ?_, ?_, ?_, ?_, ?_⟩ <;> (simp only [evs, Nat.reduceEqDiff, reduceIte, wn, wd, w0, w1, w4, w7, w8] <;> first | rfl | (congr 1; omega) | omega)), ?_⟩ (by decide)
   rw [if_neg (by decide)]
   exact ⟨by (simp only [evs, Nat.reduceEqDiff, reduceIte, wn, wd, w0, w1, w4, w7, w8, w9] <;> first | rfl | (congr 1; omega) | omega), by simp only [evs]; exact g3.wrote (b := m.next + 1) (by omega) o4 n4, by simp only [evs]; exact r8, by simp only [evs]; exact r44⟩
  | false =>
   rw [if_neg (by decide)] at hs
   obtain ⟨w9, hg, hr7, hr4⟩ := hs
   (repeat (first | (apply G.h; constructor <;> (first | exact Zc | apply gI | ((repeat' (first | exact Y0 | apply Y1 | ((first | apply Y4 | apply Y5); simp only [evs, Nat.reduceEqDiff, reduceIte, wn, wd, w0, w1, w4, w7, w8, w9] <;> rfl))); done) | (apply Y6; (try simp only [evs, wn, wd, w0, w1, w4, w7, w8, w9]); first | exact hr7.loadA rfl rfl rfl (Nat.le_refl 4) rfl)))))
   (apply g_stR <;> (first | exact Zc | apply gI | ((repeat' (first | exact Y0 | apply Y1 | exact Y2 | apply Y3 | ((first | apply Y4 | apply Y5); simp only [evs, Nat.reduceEqDiff, reduceIte, wn, wd, w0, w1, w4, w7, w8] <;> rfl))); done) | (apply Hy.mk; (try simp only [evs, wn, wd, w0, w1, w4, w7, w8]); first | exact hr4 | assumption) | (apply Om.mk; first | exact hr4) | (apply Y6; (try simp only [evs, wn, wd, w0, w1, w4, w7, w8]); first | rfl) | apply Cn.mk))
   intro m5 r9 o5 n5; simp only [evs, wn, wd, w0, w1, w4, w7, w8] at r9 o5 n5
   (repeat (first | (apply G.h; constructor <;> (first | exact Zc | apply gI | ((repeat' (first | exact Y0 | apply Y1 | ((first | apply Y4 | apply Y5); simp only [evs, Nat.reduceEqDiff, reduceIte, wn, wd, w0, w1, w4, w7, w8] <;> rfl))); done) | (apply Y6; (try simp only [evs, wn, wd, w0, w1, w4, w7, w8]); first | rfl)))))
   refine g_fin3c (b := m.next) (o := 0) _ (I (at_ + 1 : Nat)) (I 0) rfl ?_ ?_ (by simp only [evs]; exact r9.loadA rfl rfl rfl (Nat.le_refl 4) rfl) ?_ ?_ ?_
   ·(simp only [evs, Nat.reduceEqDiff, reduceIte, wn, wd, w0, w1, w4, w7, w8] <;> first | rfl | (congr 1; omega) | omega)
   ·(simp only [evs, Nat.reduceEqDiff, reduceIte, wn, wd, w0, w1, w4, w7, w8] <;> first | rfl | (congr 1; omega) | omega)
   ·(simp only [evs, Nat.reduceEqDiff, reduceIte, wn, wd, w0, w1, w4, w7, w8] <;> first | rfl | (congr 1; omega) | omega)
   ·(simp only [evs, Nat.reduceEqDiff, reduceIte, wn, wd, w0, w1, w4, w7, w8] <;> first | rfl | (congr 1; omega) | omega)
   ·refine ⟨?_, rfl⟩
    simp only [evs]
    exact hg.wrote (b := m.next) (Nat.le_refl _) o5 n5

set_option maxHeartbeats 2000000 in
/-- one digit alone. -/
theorem number40_49 (b off cap : Nat) (bs : List UInt8) (hl : bs.length ≤ 1000000) (at_ : Nat) (c x : UInt8) (hcv : c.toNat = 49) (m : Mem) (hB : Bts m b off bs) (hc : bs[at_]? = some c) (hx : bs[at_ + 1]? = some x) (hxd : digitN x.toNat = false) (hxl : letterN x.toNat = false) :
  Runs evEnv 47 [.slice (some ⟨b, off, none⟩) bs.length cap, I at_] m fun v m' => Grow m m' ∧ v = .tuple ⟨[.agg ⟨[I 3, encS [], I 1, I at_]⟩, I (at_ + 1 : Nat), I 0]⟩ := by
 have hat := (List.getElem?_eq_some_iff.1 hx).1
 have r4 : Row (m.new (rowObj [I 0, encS [], I 0, I 0] 87 0)) m.next [I 0, encS [], I 0, I 0] 87 0 := row_new m [I 0, encS [], I 0, I 0] 87 0
 have g1 : Grow m (m.new (rowObj [I 0, encS [], I 0, I 0] 87 0)) := (Grow.refl m).new _
 refine runs_start rfl rfl rfl rfl ?_
 (repeat (first | (apply G.h; constructor <;> (first | exact Zc | apply gI | ((repeat' (first | exact Y0 | apply Y1 | ((first | apply Y4 | apply Y5); simp only [evs, Nat.reduceEqDiff, reduceIte] <;> rfl))); done) | (apply Y6; (try simp only [evs]); first | rfl)))))
 have z7 := row_new (m.new (rowObj [I 0, encS [], I 0, I 0] 87 0)) [I 0, encS [], I 0, I 0] 87 0
 (apply g_stR <;> (first | exact Zc | apply gI | ((repeat' (first | exact Y0 | apply Y1 | exact Y2 | apply Y3 | ((first | apply Y4 | apply Y5); simp only [evs, Nat.reduceEqDiff, reduceIte] <;> rfl))); done) | (apply Hy.mk; (try simp only [evs]); first | exact z7 | assumption) | (apply Om.mk; first | exact z7) | (apply Y6; (try simp only [evs]); first | rfl) | apply Cn.mk))
 intro m3 r7 o3 n3; simp only [evs] at r7 o3 n3
 replace r7 : Row m3 (m.next + 1) [I 3, encS [], I 0, I at_] 87 0 := r7
 have g3 : Grow m m3 := g1.trans (((Grow.refl _).new _).wrote (Nat.le_refl _) o3 n3)
 have r43 : Row m3 m.next [I 0, encS [], I 0, I 0] 87 0 := r4.grow (((Grow.refl _).new _).wrote (Nat.le_refl _) o3 n3)
 have hld := (hB.grow g3).load hc
 rw [hcv] at hld
 have hlx := (hB.grow g3).load hx
 (repeat (first | (apply G.h; constructor <;> (first | exact Zc | apply gI | ((repeat' (first | exact Y0 | apply Y1 | ((first | apply Y4 | apply Y5); simp only [evs, Nat.reduceEqDiff, reduceIte] <;> rfl))); done) | (apply Y6; (try simp only [evs]); first | rfl)))))
 refine ewp_loop (ι := Bool) (fun s a => (a.n = 82 ∧ a.defers = [] ∧ a.tmp 0 = .slice (some ⟨b, off, none⟩) bs.length cap ∧ a.tmp 1 = I at_ ∧ a.tmp 4 = ptr m.next ∧ a.tmp 7 = ptr (m.next + 1) ∧ a.tmp 8 = I (if s then at_ else at_ + 1 : Nat)) ∧ a.m = m3) (fun s => if s then 1 else 0) true ?_ ?_
 ·exact ⟨(by refine ⟨?_, ?_, ?_, ?_, ?_, ?_, ?_⟩ <;> (simp only [evs, Nat.reduceEqDiff, reduceIte] <;> first | rfl | (congr 1; omega) | omega)), by (simp only [evs, Nat.reduceEqDiff, reduceIte] <;> first | rfl | (congr 1; omega) | omega)⟩
 rintro s a ⟨⟨qn, qd, q0, q1, q4, q7, q8⟩, qm⟩ ih
 cases s with
 | true =>
  rw [if_pos rfl] at q8
  (repeat (first | (apply G.h; constructor <;> (first | exact Zc | apply gI | ((repeat' (first | exact Y0 | apply Y1 | ((first | apply Y4 | apply Y5); simp only [evs, Nat.reduceEqDiff, reduceIte, qn, qd, q0, q1, q4, q7, q8, qm] <;> rfl))); done) | (apply Y6; (try simp only [evs, qn, qd, q0, q1, q4, q7, q8, qm]); first | exact hld)))))
  ((first | apply g_run | apply g_run0) <;> (first | ((repeat' (first | exact Y0 | apply Y1 | exact Y2 | apply Y3 | ((first | apply Y4 | apply Y5); simp only [evs, Nat.reduceEqDiff, reduceIte, qn, qd, q0, q1, q4, q7, q8, qm] <;> rfl))); done) | exact Rn.mk (digit45 49 _) | apply Cn.mk))
  rintro v m4 ⟨rfl, rfl⟩
  rw [show digitN 49 = true from rfl]
  (repeat (first | (apply G.h; constructor <;> (first | exact Zc | apply gI | ((repeat' (first | exact Y0 | apply Y1 | ((first | apply Y4 | apply Y5); simp only [evs, Nat.reduceEqDiff, reduceIte, qn, qd, q0, q1, q4, q7, q8, qm] <;> rfl))); done) | (apply Y6; (try simp only [evs, qn, qd, q0, q1, q4, q7, q8, qm]); first | rfl)))))
  exact ih false _ ⟨(by refine ⟨?_, ?_, ?_, ?_, ?_, ?_, ?_⟩ <;> (simp only [evs, Nat.reduceEqDiff, reduceIte, qn, qd, q0, q1, q4, q7, q8] <;> first | rfl | (congr 1; omega) | omega)), by (simp only [evs, Nat.reduceEqDiff, reduceIte, qm] <;> first | rfl | (congr 1; omega) | omega)⟩ (by decide)
 | false =>
  rw [if_neg (by decide)] at q8
  (repeat (first | (apply G.h; constructor <;> (first | exact Zc | apply gI | ((repeat' (first | exact Y0 | apply Y1 | ((first | apply Y4 | apply Y5); simp only [evs, Nat.reduceEqDiff, reduceIte, qn, qd, q0, q1, q4, q7, q8, qm] <;> rfl))); done) | (apply Y6; (try simp only [evs, qn, qd, q0, q1, q4, q7, q8, qm]); first | exact hlx)))))
  ((first | apply g_run | apply g_run0) <;> (first | ((repeat' (first | exact Y0 | apply Y1 | exact Y2 | apply Y3 | ((first | apply Y4 | apply Y5); simp only [evs, Nat.reduceEqDiff, reduceIte, qn, qd, q0, q1, q4, q7, q8, qm] <;> rfl))); done) | exact Rn.mk (digit45 x.toNat _) | apply Cn.mk))
  rintro v m4 ⟨rfl, rfl⟩
  rw [hxd]
  (repeat (first | (apply G.h; constructor <;> (first | exact Zc | apply gI | ((repeat' (first | exact Y0 | apply Y1 | ((first | apply Y4 | apply Y5); simp only [evs, Nat.reduceEqDiff, reduceIte, qn, qd, q0, q1, q4, q7, q8, qm] <;> rfl))); done) | (apply Y6; (try simp only [evs, qn, qd, q0, q1, q4, q7, q8, qm]); first | exact hld | exact hlx)))))
  ((first | apply g_run | apply g_run0) <;> (first | ((repeat' (first | exact Y0 | apply Y1 | exact Y2 | apply Y3 | ((first | apply Y4 | apply Y5); simp only [evs, Nat.reduceEqDiff, reduceIte, qn, qd, q0, q1, q4, q7, q8, qm] <;> rfl))); done) | exact Rn.mk (letter44 x.toNat _) | apply Cn.mk))
  rintro v m4 ⟨rfl, rfl⟩
  rw [hxl]
  (repeat (first | (apply G.h; constructor <;> (first | exact Zc | apply gI | ((repeat' (first | exact Y0 | apply Y1 | ((first | apply Y4 | apply Y5); simp only [evs, Nat.reduceEqDiff, reduceIte, qn, qd, q0, q1, q4, q7, q8, qm] <;> rfl))); done) | (apply Y6; (try simp only [evs, qn, qd, q0, q1, q4, q7, q8, qm]); first | rfl)))))
  clear ih
  refine ewp_loop (ι := Bool) (fun s a => (a.n = 82 ∧ a.defers = [] ∧ a.tmp 0 = .slice (some ⟨b, off, none⟩) bs.length cap ∧ a.tmp 1 = I at_ ∧ a.tmp 4 = ptr m.next ∧ a.tmp 7 = ptr (m.next + 1) ∧ a.tmp 8 = I (at_ + 1 : Nat)) ∧ (if s then a.tmp 9 = I at_ ∧ a.m = m3 else a.tmp 9 = I (at_ + 1 : Nat) ∧ Grow m a.m ∧ Row a.m (m.next + 1) [I 3, encS [], I 1, I at_] 87 0 ∧ Row a.m m.next [I 0, encS [], I 0, I 0] 87 0)) (fun s => if s then 1 else 0) true ?_ ?_
  ·exact ⟨(by refine ⟨?_, ?_, ?_, ?_, ?_, ?_, ?_⟩ <;> (simp only [evs, Nat.reduceEqDiff, reduceIte, qn, qd, q0, q1, q4, q7, q8] <;> first | rfl | (congr 1; omega) | omega)), by rw [if_pos rfl]; exact ⟨by (simp only [evs, Nat.reduceEqDiff, reduceIte, qn, qd, q0, q1, q4, q7, q8] <;> first | rfl | (congr 1; omega) | omega), by (simp only [evs, Nat.reduceEqDiff, reduceIte, qm] <;> first | rfl | (congr 1; omega) | omega)⟩⟩
  clear qn qd q0 q1 q4 q7 q8 qm
  rintro s a ⟨⟨wn, wd, w0, w1, w4, w7, w8⟩, hs⟩ ih
  cases s with
  | true =>
   rw [if_pos rfl] at hs
   obtain ⟨w9, wm⟩ := hs
   (repeat (first | (apply G.h; constructor <;> (first | exact Zc | apply gI | ((repeat' (first | exact Y0 | apply Y1 | ((first | apply Y4 | apply Y5); simp only [evs, Nat.reduceEqDiff, reduceIte, wn, wd, w0, w1, w4, w7, w8, w9, wm] <;> rfl))); done) | (apply Y6; (try simp only [evs, wn, wd, w0, w1, w4, w7, w8, w9, wm]); first | exact hld)))))
   apply g_bin
   focus (apply Ev.mk; (simp only [evs, Nat.reduceEqDiff, reduceIte, wn, wd, w0, w1, w4, w7, w8, w9] <;> rfl))
   focus (apply Ev.mk; (simp only [evs, Nat.reduceEqDiff, reduceIte, wn, wd, w0, w1, w4, w7, w8, w9] <;> rfl))
   focus exact u8sub49
   focus (apply Dn.mk; (simp only [evs, Nat.reduceEqDiff, reduceIte, wn, wd, w0, w1, w4, w7, w8] <;> rfl))
   apply g_convI (w := 1)
   focus exact Rf.mk
   focus exact Rf.mk
   focus (apply Ev.mk; (simp only [evs, Nat.reduceEqDiff, reduceIte, wn, wd, w0, w1, w4, w7, w8, w9] <;> rfl))
   focus exact Om.mk rfl
   focus (apply Dn.mk; (simp only [evs, Nat.reduceEqDiff, reduceIte, wn, wd, w0, w1, w4, w7, w8] <;> rfl))
   (repeat (first | (apply G.h; constructor <;> (first | exact Zc | apply gI | ((repeat' (first | exact Y0 | apply Y1 | ((first | apply Y4 | apply Y5); simp only [evs, Nat.reduceEqDiff, reduceIte, wn, wd, w0, w1, w4, w7, w8, w9, wm] <;> rfl))); done) | (apply Y6; (try simp only [evs, wn, wd, w0, w1, w4, w7, w8, w9, wm]); first | exact r7.load1 rfl rfl rfl)))))
   apply g_bin
   focus (apply Ev.mk; (simp only [evs, Nat.reduceEqDiff, reduceIte, wn, wd, w0, w1, w4, w7, w8, w9] <;> rfl))
   focus (apply Ev.mk; (simp only [evs, Nat.reduceEqDiff, reduceIte, wn, wd, w0, w1, w4, w7, w8, w9] <;> rfl))
   focus exact i64quo49
   focus (apply Dn.mk; (simp only [evs, Nat.reduceEqDiff, reduceIte, wn, wd, w0, w1, w4, w7, w8] <;> rfl))
   (repeat (first | (apply G.h; constructor <;> (first | exact Zc | apply gI | ((repeat' (first | exact Y0 | apply Y1 | ((first | apply Y4 | apply Y5); simp only [evs, Nat.reduceEqDiff, reduceIte, wn, wd, w0, w1, w4, w7, w8, w9, wm] <;> rfl))); done) | (apply Y6; (try simp only [evs, wn, wd, w0, w1, w4, w7, w8, w9, wm]); first | exact r7.load1 rfl rfl rfl)))))
   apply g_bin
   focus (apply Ev.mk; (simp only [evs, Nat.reduceEqDiff, reduceIte, wn, wd, w0, w1, w4, w7, w8, w9] <;> rfl))
   focus (apply Ev.mk; (simp only [evs, Nat.reduceEqDiff, reduceIte, wn, wd, w0, w1, w4, w7, w8, w9] <;> rfl))
   focus exact i64mul
   focus (apply Dn.mk; (simp only [evs, Nat.reduceEqDiff, reduceIte, wn, wd, w0, w1, w4, w7, w8] <;> rfl))
   (repeat (first | (apply G.h; constructor <;> (first | exact Zc | apply gI | ((repeat' (first | exact Y0 | apply Y1 | ((first | apply Y4 | apply Y5); simp only [evs, Nat.reduceEqDiff, reduceIte, wn, wd, w0, w1, w4, w7, w8, w9, wm] <;> rfl))); done) | (apply Y6; (try simp only [evs, wn, wd, w0, w1, w4, w7, w8, w9, wm]); first | rfl)))))
   (apply g_stR <;> (first | exact Zc | apply gI | ((repeat' (first | exact Y0 | apply Y1 | exact Y2 | apply Y3 | ((first | apply Y4 | apply Y5); simp only [evs, Nat.reduceEqDiff, reduceIte, wn, wd, w0, w1, w4, w7, w8, w9, wm] <;> rfl))); done) | (apply Hy.mk; (try simp only [evs, wn, wd, w0, w1, w4, w7, w8, w9, wm]); first | exact r7 | assumption) | (apply Om.mk; first | exact r7) | (apply Y6; (try simp only [evs, wn, wd, w0, w1, w4, w7, w8, w9, wm]); first | rfl) | apply Cn.mk))
   intro m4 r8 o4 n4; simp only [evs, wn, wd, w0, w1, w4, w7, w8, w9, wm] at r8 o4 n4
   replace r8 : Row m4 (m.next + 1) [I 3, encS [], I 1, I at_] 87 0 := r8
   have r44 := r43.keep (m' := m4) (by rw [n4]; exact Nat.le_refl _) (o4 _ (by omega))
   (repeat (first | (apply G.h; constructor <;> (first | exact Zc | apply gI | ((repeat' (first | exact Y0 | apply Y1 | ((first | apply Y4 | apply Y5); simp only [evs, Nat.reduceEqDiff, reduceIte, wn, wd, w0, w1, w4, w7, w8, w9] <;> rfl))); done) | (apply Y6; (try simp only [evs, wn, wd, w0, w1, w4, w7, w8, w9]); first | rfl)))))
   refine ih false _ ⟨(by refine ⟨?_, ?_, ?_, ?_, ?_, ?_, ?_⟩ <;> (simp only [evs, Nat.reduceEqDiff, reduceIte, wn, wd, w0, w1, w4, w7, w8] <;> first | rfl | (congr 1; omega) | omega)), ?_⟩ (by decide)
   rw [if_neg (by decide)]
   exact ⟨by (simp only [evs, Nat.reduceEqDiff, reduceIte, wn, wd, w0, w1, w4, w7, w8, w9] <;> first | rfl | (congr 1; omega) | omega), by simp only [evs]; exact g3.wrote (b := m.next + 1) (by omega) o4 n4, by simp only [evs]; exact r8, by simp only [evs]; exact r44⟩
  | false =>
   rw [if_neg (by decide)] at hs
   obtain ⟨w9, hg, hr7, hr4⟩ := hs
   (repeat (first | (apply G.h; constructor <;> (first | exact Zc | apply gI | ((repeat' (first | exact Y0 | apply Y1 | ((first | apply Y4 | apply Y5); simp only [evs, Nat.reduceEqDiff, reduceIte, wn, wd, w0, w1, w4, w7, w8, w9] <;> rfl))); done) | (apply Y6; (try simp only [evs, wn, wd, w0, w1, w4, w7, w8, w9]); first | exact hr7.loadA rfl rfl rfl (Nat.le_refl 4) rfl)))))
   (apply g_stR <;> (first | exact Zc | apply gI | ((repeat' (first | exact Y0 | apply Y1 | exact Y2 | apply Y3 | ((first | apply Y4 | apply Y5); simp only [evs, Nat.reduceEqDiff, reduceIte, wn, wd, w0, w1, w4, w7, w8] <;> rfl))); done) | (apply Hy.mk; (try simp only [evs, wn, wd, w0, w1, w4, w7, w8]); first | exact hr4 | assumption) | (apply Om.mk; first | exact hr4) | (apply Y6; (try simp only [evs, wn, wd, w0, w1, w4, w7, w8]); first | rfl) | apply Cn.mk))
   intro m5 r9 o5 n5; simp only [evs, wn, wd, w0, w1, w4, w7, w8] at r9 o5 n5
   (repeat (first | (apply G.h; constructor <;> (first | exact Zc | apply gI | ((repeat' (first | exact Y0 | apply Y1 | ((first | apply Y4 | apply Y5); simp only [evs, Nat.reduceEqDiff, reduceIte, wn, wd, w0, w1, w4, w7, w8] <;> rfl))); done) | (apply Y6; (try simp only [evs, wn, wd, w0, w1, w4, w7, w8]); first | rfl)))))
   refine g_fin3c (b := m.next) (o := 0) _ (I (at_ + 1 : Nat)) (I 0) rfl ?_ ?_ (by simp only [evs]; exact r9.loadA rfl rfl rfl (Nat.le_refl 4) rfl) ?_ ?_ ?_
   ·(simp only [evs, Nat.reduceEqDiff, reduceIte, wn, wd, w0, w1, w4, w7, w8] <;> first | rfl | (congr 1; omega) | omega)
   ·(simp only [evs, Nat.reduceEqDiff, reduceIte, wn, wd, w0, w1, w4, w7, w8] <;> first | rfl | (congr 1; omega) | omega)
   ·(simp only [evs, Nat.reduceEqDiff, reduceIte, wn, wd, w0, w1, w4, w7, w8] <;> first | rfl | (congr 1; omega) | omega)
   ·(simp only [evs, Nat.reduceEqDiff, reduceIte, wn, wd, w0, w1, w4, w7, w8] <;> first | rfl | (congr 1; omega) | omega)
   ·refine ⟨?_, rfl⟩
    simp only [evs]
    exact hg.wrote (b := m.next) (Nat.le_refl _) o5 n5
end Go.Proofs.YthhcnfgeacnfiaaGreatDoor

namespace Go.Proofs.YthhcnfgeacnfiaaGreatDoor
open Go Go.Ev
set_option maxRecDepth 100000
set_option linter.unusedVariables false
set_option linter.unusedSimpArgs false
set_option pp.maxSteps 1500
attribute [local irreducible] quiet allocs effect wp ret wpO Runs Act.tmp Act.eval fin results Tree.set binOp loadAt storeAt target wanted cellsFrom

theorem words_len : words.length = 18 := rfl

set_option maxHeartbeats 2000000 in
theorem word46 (s : List UInt8) (m : Mem) : Runs evEnv 46 [.string ⟨⟨s⟩⟩] m fun v m' => v = .bool (wordB s) ∧ Grow m m' := by
 refine runs_start rfl rfl rfl rfl ?_
 (repeat (first | (apply G.h; constructor <;> (first | exact Zc | apply gI | ((repeat' (first | exact Y0 | apply Y1 | ((first | apply Y4 | apply Y5); simp only [evs, Nat.reduceEqDiff, reduceIte] <;> rfl))); done) | (apply Y6; (try simp only [evs]); first | rfl)))))
 obtain ⟨m2, hst, hrow, hoth, hnx⟩ := (row_new m (List.replicate 18 (.string ⟨⟨[]⟩⟩)) 144 0).fill (E := evEnv) (t := 144) (k := 18) (v := .agg ⟨words.map fun w => .string ⟨⟨w⟩⟩⟩) (by decide) rfl rfl rfl rfl rfl
 have hg : Grow m m2 := ((Grow.refl m).new _).wrote (Nat.le_refl _) hoth hnx
 apply ewpO_store
 focus exact want_none
 focus (simp only [evs, Nat.reduceEqDiff, reduceIte] <;> rfl)
 focus (simp only [evs, Nat.reduceEqDiff, reduceIte] <;> rfl)
 focus (simp only [m_upd, m_mem, m_start]; exact hst)
 (repeat (first | (apply G.h; constructor <;> (first | exact Zc | apply gI | ((repeat' (first | exact Y0 | apply Y1 | ((first | apply Y4 | apply Y5); simp only [evs, Nat.reduceEqDiff, reduceIte] <;> rfl))); done) | (apply Y6; (try simp only [evs]); first | rfl)))))
 refine ewp_loop (ι := Nat) (fun i a => a.n = 15 ∧ a.defers = [] ∧ a.m = m2 ∧ a.tmp 0 = .string ⟨⟨s⟩⟩ ∧ a.tmp 3 = .pointer (some ⟨m.next, 0, none⟩) ∧ a.tmp 4 = .int .i64 i ∧ i ≤ 18 ∧ ∀ j, j < i → words[j]? ≠ some s) (fun i => 18 - i) 0 ?_ ?_
 ·exact ⟨by (simp only [evs, Nat.reduceEqDiff, reduceIte] <;> first | rfl | (congr 1; omega) | omega), by (simp only [evs, Nat.reduceEqDiff, reduceIte] <;> first | rfl | (congr 1; omega) | omega), by (simp only [evs, Nat.reduceEqDiff, reduceIte] <;> first | rfl | (congr 1; omega) | omega), by (simp only [evs, Nat.reduceEqDiff, reduceIte] <;> first | rfl | (congr 1; omega) | omega), by (simp only [evs, Nat.reduceEqDiff, reduceIte] <;> first | rfl | (congr 1; omega) | omega), by (simp only [evs, Nat.reduceEqDiff, reduceIte] <;> first | rfl | (congr 1; omega) | omega), by omega, fun j hj => by omega⟩
 rintro p a ⟨hn, hd, hm, h0, h3, h4, hp, hj⟩ ih
 rcases Nat.lt_or_ge p 18 with hlt | hge
 ·have hw : words[p]? = some words[p] := List.getElem?_eq_getElem hlt
  generalize words[p] = w at hw
  have hx : (words.map fun w => Value.string ⟨⟨w⟩⟩)[0 + p * 1]? = some (.string ⟨⟨w⟩⟩) := by
   rw [show 0 + p * 1 = p by omega, List.getElem?_map, hw]; rfl
  (repeat' (first | (apply G.h; constructor <;> (first | exact Zc | apply gI | ((repeat' (first | exact Y0 | apply Y1 | ((first | apply Y4 | apply Y5); simp only [evs, Nat.reduceEqDiff, reduceIte, hn, hd, hm, h0, h3, h4] <;> rfl))); done) | (apply Y6; (try simp only [evs, hn, hd, hm, h0, h3, h4]); first | exact hrow.load1 rfl rfl hx))) | (apply g_split <;> (first | (apply Ev.mk; (simp only [evs, Nat.reduceEqDiff, reduceIte, hn, hd, hm, h0, h3, h4] <;> rfl)) | (apply Dn.mk; (simp only [evs, Nat.reduceEqDiff, reduceIte, hn, hd, hm, h0, h3, h4] <;> rfl)) | (apply g_wpO) | intro h | constructor | fail))))
  ·(refine g_fin (by repeat' first | exact Rs.nil | apply Rs.cons | (apply Y4; simp only [evs, Nat.reduceEqDiff, reduceIte, hn, hd, hm, h0, h3, h4] <;> rfl)) (by (simp only [evs, Nat.reduceEqDiff, reduceIte, hn, hd, hm, h0, h3, h4] <;> first | rfl | (congr 1; omega) | omega)) ?_)
   refine ⟨congrArg Value.bool ?_, by simp only [m_upd, hm]; exact hg⟩
   exact (decide_eq_true (List.mem_of_getElem? (by rw [hw, ‹w = s›]))).symm
  ·refine ih (p + 1) _ ?_ (by omega)
   refine ⟨by (simp only [evs, Nat.reduceEqDiff, reduceIte, hn] <;> first | rfl | (congr 1; omega) | omega), by (simp only [evs, Nat.reduceEqDiff, reduceIte, hd] <;> first | rfl | (congr 1; omega) | omega), by (simp only [evs, Nat.reduceEqDiff, reduceIte, hm] <;> first | rfl | (congr 1; omega) | omega), by (simp only [evs, Nat.reduceEqDiff, reduceIte, h0] <;> first | rfl | (congr 1; omega) | omega), by (simp only [evs, Nat.reduceEqDiff, reduceIte, h3] <;> first | rfl | (congr 1; omega) | omega), by (simp only [evs, Nat.reduceEqDiff, reduceIte, h4] <;> first | rfl | (congr 1; omega) | omega), hlt, fun j hjp => ?_⟩
   rcases Nat.lt_or_ge j p with h | h
   ·exact hj j h
   ·obtain rfl : j = p := by omega
    rw [hw]
    intro he
    exact absurd (Option.some.inj he) ‹_›
 ·(repeat (first | (apply G.h; constructor <;> (first | exact Zc | apply gI | ((repeat' (first | exact Y0 | apply Y1 | ((first | apply Y4 | apply Y5); simp only [evs, Nat.reduceEqDiff, reduceIte, hn, hd, hm, h0, h3, h4] <;> rfl))); done) | (apply Y6; (try simp only [evs, hn, hd, hm, h0, h3, h4]); first | rfl)))))
  (refine g_fin (by repeat' first | exact Rs.nil | apply Rs.cons | (apply Y4; simp only [evs, Nat.reduceEqDiff, reduceIte, hn, hd, hm, h0, h3, h4] <;> rfl)) (by (simp only [evs, Nat.reduceEqDiff, reduceIte, hn, hd, hm, h0, h3, h4] <;> first | rfl | (congr 1; omega) | omega)) ?_)
  refine ⟨congrArg Value.bool ?_, by simp only [m_upd, hm]; exact hg⟩
  refine (decide_eq_false fun hmem => ?_).symm
  obtain ⟨j, hj1, hj2⟩ := List.getElem_of_mem hmem
  have : j < 18 := hj1
  exact hj j (by omega) (by rw [List.getElem?_eq_getElem hj1, hj2])

set_option maxHeartbeats 2000000 in
theorem name80 (s : List UInt8) (m : Mem) (hs : s.length ≤ 9223372036854775807) : Runs evEnv 80 [.string ⟨⟨s⟩⟩] m fun v m' => v = .bool (nameB s) ∧ Grow m m' := by
 refine runs_start rfl rfl rfl rfl ?_
 cases s with
 | nil =>
  have hz : ([] : List UInt8).length = 0 := rfl
  (repeat (first | (apply G.h; constructor <;> (first | exact Zc | apply gI | ((repeat' (first | exact Y0 | apply Y1 | ((first | apply Y4 | apply Y5); simp only [evs, Nat.reduceEqDiff, reduceIte] <;> rfl))); done) | (apply Y6; (try simp only [evs]); first | rfl)))))
  (refine g_fin (by repeat' first | exact Rs.nil | apply Rs.cons | (apply Y4; simp only [evs, Nat.reduceEqDiff, reduceIte] <;> rfl)) (by (simp only [evs, Nat.reduceEqDiff, reduceIte] <;> first | rfl | (congr 1; omega) | omega)) ?_)
  exact ⟨rfl, by simp only [m_upd, m_start]; exact Grow.refl m⟩
 | cons c r =>
  have hl : (c :: r).length = r.length + 1 := List.length_cons
  have hc : nth (c :: r) 0 = some c := rfl
  generalize hsr : c :: r = s at hs hl hc
  have hemp : s.isEmpty = false := by rw [← hsr]; rfl
  have hg0 : goodAt s 0 = letterN c.toNat := by
   unfold goodAt
   rw [← nth_get, hc]
   simp
  have bad : ∀ p, p < s.length → goodAt s p = false → nameB s = false := by
   intro p hlt hb
   unfold nameB
   rw [Bool.and_eq_false_iff]
   right
   rw [List.all_eq_false]
   exact ⟨p, List.mem_range.2 hlt, by simp [hb]⟩
  cases hD : digitN c.toNat with
  | true =>
   have hL : letterN c.toNat = false := by
    unfold digitN at hD
    have := of_decide_eq_true hD
    exact decide_eq_false (by omega)
   have hb := bad 0 (by omega) (by rw [hg0, hL])
   (repeat (first | (apply G.h; constructor <;> (first | exact Zc | apply gI | ((repeat' (first | exact Y0 | apply Y1 | ((first | apply Y4 | apply Y5); simp only [evs, Nat.reduceEqDiff, reduceIte] <;> rfl))); done) | (apply Y6; (try simp only [evs]); first | rfl)))))
   ((first | apply g_run | apply g_run0) <;> (first | ((repeat' (first | exact Y0 | apply Y1 | exact Y2 | apply Y3 | ((first | apply Y4 | apply Y5); simp only [evs, Nat.reduceEqDiff, reduceIte] <;> rfl))); done) | exact Rn.mk (digit45 _ _) | apply Cn.mk))
   rintro v m' ⟨rfl, rfl⟩
   (repeat (first | (apply G.h; constructor <;> (first | exact Zc | apply gI | ((repeat' (first | exact Y0 | apply Y1 | ((first | apply Y4 | apply Y5); simp only [evs, Nat.reduceEqDiff, reduceIte, hD] <;> rfl))); done) | (apply Y6; (try simp only [evs, hD]); first | rfl)))))
   (refine g_fin (by repeat' first | exact Rs.nil | apply Rs.cons | (apply Y4; simp only [evs, Nat.reduceEqDiff, reduceIte, hD] <;> rfl)) (by (simp only [evs, Nat.reduceEqDiff, reduceIte, hD] <;> first | rfl | (congr 1; omega) | omega)) ?_)
   exact ⟨by rw [hb]; rfl, by simp only [m_upd, m_mem, m_start]; exact Grow.refl m⟩
  | false =>
   (repeat (first | (apply G.h; constructor <;> (first | exact Zc | apply gI | ((repeat' (first | exact Y0 | apply Y1 | ((first | apply Y4 | apply Y5); simp only [evs, Nat.reduceEqDiff, reduceIte] <;> rfl))); done) | (apply Y6; (try simp only [evs]); first | rfl)))))
   ((first | apply g_run | apply g_run0) <;> (first | ((repeat' (first | exact Y0 | apply Y1 | exact Y2 | apply Y3 | ((first | apply Y4 | apply Y5); simp only [evs, Nat.reduceEqDiff, reduceIte] <;> rfl))); done) | exact Rn.mk (digit45 _ _) | apply Cn.mk))
   rintro v m' ⟨rfl, rfl⟩
   (repeat (first | (apply G.h; constructor <;> (first | exact Zc | apply gI | ((repeat' (first | exact Y0 | apply Y1 | ((first | apply Y4 | apply Y5); simp only [evs, Nat.reduceEqDiff, reduceIte, hD] <;> rfl))); done) | (apply Y6; (try simp only [evs, hD]); first | rfl)))))
   ((first | apply g_run | apply g_run0) <;> (first | ((repeat' (first | exact Y0 | apply Y1 | exact Y2 | apply Y3 | ((first | apply Y4 | apply Y5); simp only [evs, Nat.reduceEqDiff, reduceIte, hD] <;> rfl))); done) | exact Rn.mk (word46 _ _) | apply Cn.mk))
   rintro v m2 ⟨rfl, hg⟩
   simp only [m_upd, m_mem, m_start] at hg
   cases hw : wordB s with
   | true =>
    have hb : nameB s = false := by unfold nameB; rw [hw]; simp
    (repeat (first | (apply G.h; constructor <;> (first | exact Zc | apply gI | ((repeat' (first | exact Y0 | apply Y1 | ((first | apply Y4 | apply Y5); simp only [evs, Nat.reduceEqDiff, reduceIte, hD, hw] <;> rfl))); done) | (apply Y6; (try simp only [evs, hD, hw]); first | rfl)))))
    (refine g_fin (by repeat' first | exact Rs.nil | apply Rs.cons | (apply Y4; simp only [evs, Nat.reduceEqDiff, reduceIte, hD, hw] <;> rfl)) (by (simp only [evs, Nat.reduceEqDiff, reduceIte, hD, hw] <;> first | rfl | (congr 1; omega) | omega)) ?_)
    exact ⟨by rw [hb]; rfl, by simp only [m_upd, m_mem, m_start]; exact hg⟩
   | false =>
    have hnb : nameB s = (List.range s.length).all (goodAt s) := by unfold nameB; rw [hemp, hw]; simp
    (repeat (first | (apply G.h; constructor <;> (first | exact Zc | apply gI | ((repeat' (first | exact Y0 | apply Y1 | ((first | apply Y4 | apply Y5); simp only [evs, Nat.reduceEqDiff, reduceIte, hD, hw] <;> rfl))); done) | (apply Y6; (try simp only [evs, hD, hw]); first | rfl)))))
    refine ewp_loop (ι := Nat) (fun i a => a.n = 34 ∧ a.defers = [] ∧ a.m = m2 ∧ a.tmp 0 = .string ⟨⟨s⟩⟩ ∧ a.tmp 3 = .int .i64 i ∧ i ≤ s.length ∧ ∀ j, j < i → goodAt s j = true) (fun i => s.length - i) 0 ?_ ?_
    ·exact ⟨by (simp only [evs, Nat.reduceEqDiff, reduceIte] <;> first | rfl | (congr 1; omega) | omega), by (simp only [evs, Nat.reduceEqDiff, reduceIte] <;> first | rfl | (congr 1; omega) | omega), by (simp only [evs, Nat.reduceEqDiff, reduceIte] <;> first | rfl | (congr 1; omega) | omega), by (simp only [evs, Nat.reduceEqDiff, reduceIte] <;> first | rfl | (congr 1; omega) | omega), by (simp only [evs, Nat.reduceEqDiff, reduceIte] <;> first | rfl | (congr 1; omega) | omega), by omega, fun j hj => by omega⟩
    rintro p a ⟨hn, hd, hm, h0, h3, hp, hgd⟩ ih
    rcases Nat.lt_or_ge p s.length with hlt | hge
    ·have hc2 : nth s p = some s[p] := by rw [nth_get, List.getElem?_eq_getElem hlt]
     have hga : goodAt s p = (letterN s[p].toNat || (decide (p ≠ 0) && digitN s[p].toNat)) := by
      unfold goodAt; rw [List.getElem?_eq_getElem hlt]
     have h00 : p = 0 → s[p] = c := by
      intro h
      subst h
      rw [nth_get, List.getElem?_eq_getElem hlt] at hc
      exact Option.some.inj hc
     generalize s[p] = c2 at hc2 hga h00
     have next : goodAt s p = true → ∀ j, j < p + 1 → goodAt s j = true := by
      intro hb j hj
      rcases Nat.lt_or_ge j p with h | h
      ·exact hgd j h
      ·obtain rfl : j = p := by omega
       exact hb
     cases hL2 : letterN c2.toNat with
     | true =>
      (repeat (first | (apply G.h; constructor <;> (first | exact Zc | apply gI | ((repeat' (first | exact Y0 | apply Y1 | ((first | apply Y4 | apply Y5); simp only [evs, Nat.reduceEqDiff, reduceIte, hn, hd, hm, h0, h3] <;> rfl))); done) | (apply Y6; (try simp only [evs, hn, hd, hm, h0, h3]); first | rfl)))))
      ((first | apply g_run | apply g_run0) <;> (first | ((repeat' (first | exact Y0 | apply Y1 | exact Y2 | apply Y3 | ((first | apply Y4 | apply Y5); simp only [evs, Nat.reduceEqDiff, reduceIte, hn, hd, hm, h0, h3] <;> rfl))); done) | exact Rn.mk (letter44 _ _) | apply Cn.mk))
      rintro v m' ⟨rfl, rfl⟩
      (repeat (first | (apply G.h; constructor <;> (first | exact Zc | apply gI | ((repeat' (first | exact Y0 | apply Y1 | ((first | apply Y4 | apply Y5); simp only [evs, Nat.reduceEqDiff, reduceIte, hn, hd, hm, h0, h3, hL2] <;> rfl))); done) | (apply Y6; (try simp only [evs, hn, hd, hm, h0, h3, hL2]); first | rfl)))))
      refine ih (p + 1) _ ?_ (by omega)
      exact ⟨by (simp only [evs, Nat.reduceEqDiff, reduceIte, hn] <;> first | rfl | (congr 1; omega) | omega), by (simp only [evs, Nat.reduceEqDiff, reduceIte, hd] <;> first | rfl | (congr 1; omega) | omega), by (simp only [evs, Nat.reduceEqDiff, reduceIte, hm] <;> first | rfl | (congr 1; omega) | omega), by (simp only [evs, Nat.reduceEqDiff, reduceIte, h0] <;> first | rfl | (congr 1; omega) | omega), by (simp only [evs, Nat.reduceEqDiff, reduceIte, h3] <;> first | rfl | (congr 1; omega) | omega), hlt, next (by rw [hga, hL2]; rfl)⟩
     | false =>
      cases hD2 : digitN c2.toNat with
      | true =>
       have hp0 : p ≠ 0 := by
        intro h
        rw [h00 h, hD] at hD2
        cases hD2
       have hpd : decide (p ≠ 0) = true := decide_eq_true hp0
       (repeat (first | (apply G.h; constructor <;> (first | exact Zc | apply gI | ((repeat' (first | exact Y0 | apply Y1 | ((first | apply Y4 | apply Y5); simp only [evs, Nat.reduceEqDiff, reduceIte, hn, hd, hm, h0, h3] <;> rfl))); done) | (apply Y6; (try simp only [evs, hn, hd, hm, h0, h3]); first | rfl)))))
       ((first | apply g_run | apply g_run0) <;> (first | ((repeat' (first | exact Y0 | apply Y1 | exact Y2 | apply Y3 | ((first | apply Y4 | apply Y5); simp only [evs, Nat.reduceEqDiff, reduceIte, hn, hd, hm, h0, h3] <;> rfl))); done) | exact Rn.mk (letter44 _ _) | apply Cn.mk))
       rintro v m' ⟨rfl, rfl⟩
       (repeat (first | (apply G.h; constructor <;> (first | exact Zc | apply gI | ((repeat' (first | exact Y0 | apply Y1 | ((first | apply Y4 | apply Y5); simp only [evs, Nat.reduceEqDiff, reduceIte, hn, hd, hm, h0, h3, hL2] <;> rfl))); done) | (apply Y6; (try simp only [evs, hn, hd, hm, h0, h3, hL2]); first | rfl)))))
       ((first | apply g_run | apply g_run0) <;> (first | ((repeat' (first | exact Y0 | apply Y1 | exact Y2 | apply Y3 | ((first | apply Y4 | apply Y5); simp only [evs, Nat.reduceEqDiff, reduceIte, hn, hd, hm, h0, h3, hL2] <;> rfl))); done) | exact Rn.mk (digit45 _ _) | apply Cn.mk))
       rintro v m' ⟨rfl, rfl⟩
       (repeat (first | (apply G.h; constructor <;> (first | exact Zc | apply gI | ((repeat' (first | exact Y0 | apply Y1 | ((first | apply Y4 | apply Y5); simp only [evs, Nat.reduceEqDiff, reduceIte, hn, hd, hm, h0, h3, hL2, hD2] <;> rfl))); done) | (apply Y6; (try simp only [evs, hn, hd, hm, h0, h3, hL2, hD2]); first | rfl)))))
       refine ih (p + 1) _ ?_ (by omega)
       exact ⟨by (simp only [evs, Nat.reduceEqDiff, reduceIte, hn] <;> first | rfl | (congr 1; omega) | omega), by (simp only [evs, Nat.reduceEqDiff, reduceIte, hd] <;> first | rfl | (congr 1; omega) | omega), by (simp only [evs, Nat.reduceEqDiff, reduceIte, hm] <;> first | rfl | (congr 1; omega) | omega), by (simp only [evs, Nat.reduceEqDiff, reduceIte, h0] <;> first | rfl | (congr 1; omega) | omega), by (simp only [evs, Nat.reduceEqDiff, reduceIte, h3] <;> first | rfl | (congr 1; omega) | omega), hlt, next (by rw [hga, hL2, hD2, hpd]; rfl)⟩
      | false =>
       have hb := bad p hlt (by rw [hga, hL2, hD2]; simp)
       (repeat (first | (apply G.h; constructor <;> (first | exact Zc | apply gI | ((repeat' (first | exact Y0 | apply Y1 | ((first | apply Y4 | apply Y5); simp only [evs, Nat.reduceEqDiff, reduceIte, hn, hd, hm, h0, h3] <;> rfl))); done) | (apply Y6; (try simp only [evs, hn, hd, hm, h0, h3]); first | rfl)))))
       ((first | apply g_run | apply g_run0) <;> (first | ((repeat' (first | exact Y0 | apply Y1 | exact Y2 | apply Y3 | ((first | apply Y4 | apply Y5); simp only [evs, Nat.reduceEqDiff, reduceIte, hn, hd, hm, h0, h3] <;> rfl))); done) | exact Rn.mk (letter44 _ _) | apply Cn.mk))
       rintro v m' ⟨rfl, rfl⟩
       (repeat (first | (apply G.h; constructor <;> (first | exact Zc | apply gI | ((repeat' (first | exact Y0 | apply Y1 | ((first | apply Y4 | apply Y5); simp only [evs, Nat.reduceEqDiff, reduceIte, hn, hd, hm, h0, h3, hL2] <;> rfl))); done) | (apply Y6; (try simp only [evs, hn, hd, hm, h0, h3, hL2]); first | rfl)))))
       ((first | apply g_run | apply g_run0) <;> (first | ((repeat' (first | exact Y0 | apply Y1 | exact Y2 | apply Y3 | ((first | apply Y4 | apply Y5); simp only [evs, Nat.reduceEqDiff, reduceIte, hn, hd, hm, h0, h3, hL2] <;> rfl))); done) | exact Rn.mk (digit45 _ _) | apply Cn.mk))
       rintro v m' ⟨rfl, rfl⟩
       (repeat (first | (apply G.h; constructor <;> (first | exact Zc | apply gI | ((repeat' (first | exact Y0 | apply Y1 | ((first | apply Y4 | apply Y5); simp only [evs, Nat.reduceEqDiff, reduceIte, hn, hd, hm, h0, h3, hL2, hD2] <;> rfl))); done) | (apply Y6; (try simp only [evs, hn, hd, hm, h0, h3, hL2, hD2]); first | rfl)))))
       (refine g_fin (by repeat' first | exact Rs.nil | apply Rs.cons | (apply Y4; simp only [evs, Nat.reduceEqDiff, reduceIte, hn, hd, hm, h0, h3, hL2, hD2] <;> rfl)) (by (simp only [evs, Nat.reduceEqDiff, reduceIte, hn, hd, hm, h0, h3, hL2, hD2] <;> first | rfl | (congr 1; omega) | omega)) ?_)
       exact ⟨by rw [hb]; rfl, by simp only [m_upd, m_mem, hm]; exact hg⟩
    ·have hall : (List.range s.length).all (goodAt s) = true := by
      rw [List.all_eq_true]
      intro j hj
      exact hgd j (by have := List.mem_range.1 hj; omega)
     (repeat (first | (apply G.h; constructor <;> (first | exact Zc | apply gI | ((repeat' (first | exact Y0 | apply Y1 | ((first | apply Y4 | apply Y5); simp only [evs, Nat.reduceEqDiff, reduceIte, hn, hd, hm, h0, h3] <;> rfl))); done) | (apply Y6; (try simp only [evs, hn, hd, hm, h0, h3]); first | rfl)))))
     (refine g_fin (by repeat' first | exact Rs.nil | apply Rs.cons | (apply Y4; simp only [evs, Nat.reduceEqDiff, reduceIte, hn, hd, hm, h0, h3] <;> rfl)) (by (simp only [evs, Nat.reduceEqDiff, reduceIte, hn, hd, hm, h0, h3] <;> first | rfl | (congr 1; omega) | omega)) ?_)
     exact ⟨by rw [hnb, hall]; rfl, by simp only [m_upd, m_mem, hm]; exact hg⟩
end Go.Proofs.YthhcnfgeacnfiaaGreatDoor
