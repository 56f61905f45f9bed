/- Part of a verified evaluator of the model's programs and of runs by it: SZ0 SZ1 SZ2 SNK. -/
import Derived.Test.YtihokakelnfdgaaDoorSP
import Derived.Test.YtihokakelnfdgaaDoorSO
namespace Go.Proofs.YtihokakelnfdgaaDoor
set_option linter.unusedSimpArgs false
open Go Go.Ev
set_option linter.unusedVariables false
theorem cntK {l : List Nd} (P : Prg l) {u : Nat} (hu : u < l.length) : l[u].kind = 12 ∨ l[u].kind = 31 → 1 ≤ l[u].n ∧ l[u].n ≤ 17 := fun h => by
 obtain ⟨c1, c2, c3⟩ := cntF (P.ok _ (List.getElem_mem hu)) h
 omega
theorem cntT {l : List Nd} (P : Prg l) {i : Nat} (hi : i < l.length) : l[i].kind = 11 → l[i].n = 2 := fun h => cnt2 (P.ok _ (List.getElem_mem hi)) (.inr (.inr h))
theorem Prg.pos' {l : List Nd} (P : Prg l) {x : Nd} (hx : x ∈ l) : 0 ≤ x.n := P.pos x hx
end Go.Proofs.YtihokakelnfdgaaDoor

namespace Go.Ev
open Go
theorem g_fin2c {E : Env} {a : Act} {rs : List ResultVar} {Q : Value → Mem → Prop} {t0 ty t1 b o : Nat} (v0 v1 : Value) (hrs : rs = [.cell t0 ty, .tmp t1]) (hd : a.defers = []) (h0 : a.tmp t0 = .pointer (some ⟨b, o, none⟩)) (hl : loadAt E a.m ty b o = some v0) (h1 : a.tmp t1 = v1) (h : Q (.tuple ⟨[v0, v1]⟩) a.m) : ret E [] .ret a (fin E rs Q) := by
 subst hrs
 exact eret_nil (fin_ret hd (res_cell h0 hl (res_tmp h1 res_nil)) h)
end Go.Ev
namespace Go.Proofs.YtihokakelnfdgaaDoor
open Go Go.Ev
set_option maxRecDepth 100000
set_option linter.unusedVariables false
set_option linter.unusedSimpArgs false
set_option pp.maxSteps 1500

def intsL (U : List Nat) : List Value := U.map fun x => I (x : Nat)
theorem intsL_get {U : List Nat} {j x : Nat} (h : U[j]? = some x) : (intsL U)[0 + j * 1]? = some (I (x : Nat)) := by
 rw [show 0 + j * 1 = j by omega, intsL, List.getElem?_map, h]; rfl
theorem intsL_len (U : List Nat) : (intsL U).length = U.length := by unfold intsL; simp
theorem row_int {m : Mem} {b : Nat} {U : List Nat} (h : Row m b (intsL U) 3 0) {j x : Nat} (hx : U[j]? = some x) : loadAt evEnv m 3 b (0 + j * 1) = some (I (x : Nat)) := h.load1 rfl rfl (intsL_get hx)
theorem Ints.last {m : Mem} {v : Value} {ps : List Nat} (h : Ints m v ps) {i : Nat} (hi : i < ps.length) : ∃ kb cap, v = .slice (some ⟨kb, 0, none⟩) ps.length cap ∧ loadAt evEnv m 3 kb (0 + i * 1) = some (I (ps[i] : Nat)) := by
 obtain ⟨kb, cap, r, e1, e2, e3⟩ := h.get hi
 exact ⟨kb, cap, e1, e2.load1 rfl rfl e3⟩
attribute [local irreducible] quiet allocs effect wp ret wpO Runs Act.tmp Act.eval fin results Tree.set binOp loadAt storeAt target wanted cellsFrom

set_option maxHeartbeats 2000000 in
theorem declared34 (b off cap : Nat) (l : List Nd) (hok : ∀ x ∈ l, x.ok ∧ x.text.length ≤ 9223372036854775807) (hl : l.length ≤ 400) (P : Prg l) (i : Nat) (hi : i < l.length) (ub fb uc fc : Nat) (U Fn : List Nat) (u f : Nat) (hu : U[i]? = some u) (hul : u < l.length) (hf : Fn[i]? = some f) (fsv abv dv : Value) (m : Mem) (hN : Nodes m b off l) (hbn : b < m.next) (hU : Row m ub (intsL U) 3 0) (hF : Row m fb (intsL Fn) 3 0) :
  Runs evEnv 34 [.agg ⟨[.slice (some ⟨b, off, none⟩) l.length cap, .slice (some ⟨ub, 0, none⟩) l.length uc, .slice (some ⟨fb, 0, none⟩) l.length fc, fsv, abv, dv]⟩, I i] m fun v m' => Grow m m' ∧ ∃ (x y z : Int) (s : Bs) (g ok : Bool), v = .tuple ⟨[.agg ⟨[I i, encS s, I x, I y, I f, I z, .bool g]⟩, .bool ok]⟩ := by
 have hn : ∀ x ∈ l, 0 ≤ x.n ∧ x.n ≤ 9223372036854775807 := fun x hx => ⟨P.pos x hx, (hok x hx).1.2.1.2⟩
 have r2 := (row_new m [.slice (some ⟨b, off, none⟩) l.length cap, .slice (some ⟨ub, 0, none⟩) l.length uc, .slice (some ⟨fb, 0, none⟩) l.length fc, fsv, abv, dv] 54 0).keep_new (rowObj [I 0, encS [], I 0, I 0, I 0, I 0, .bool false] 95 0)
 have r4 : Row ((m.new (rowObj [.slice (some ⟨b, off, none⟩) l.length cap, .slice (some ⟨ub, 0, none⟩) l.length uc, .slice (some ⟨fb, 0, none⟩) l.length fc, fsv, abv, dv] 54 0)).new (rowObj [I 0, encS [], I 0, I 0, I 0, I 0, .bool false] 95 0)) (m.next + 1) [I 0, encS [], I 0, I 0, I 0, I 0, .bool false] 95 0 := row_new (m.new (rowObj [.slice (some ⟨b, off, none⟩) l.length cap, .slice (some ⟨ub, 0, none⟩) l.length uc, .slice (some ⟨fb, 0, none⟩) l.length fc, fsv, abv, dv] 54 0)) [I 0, encS [], I 0, I 0, I 0, I 0, .bool false] 95 0
 have g1 : Grow m ((m.new (rowObj [.slice (some ⟨b, off, none⟩) l.length cap, .slice (some ⟨ub, 0, none⟩) l.length uc, .slice (some ⟨fb, 0, none⟩) l.length fc, fsv, abv, dv] 54 0)).new (rowObj [I 0, encS [], I 0, I 0, I 0, I 0, .bool false] 95 0)) := ((Grow.refl m).new _).new _
 have hN1 := hN.grow hbn g1
 have hAll := hN1.all i hi
 have nx1 : (((m.new (rowObj [.slice (some ⟨b, off, none⟩) l.length cap, .slice (some ⟨ub, 0, none⟩) l.length uc, .slice (some ⟨fb, 0, none⟩) l.length fc, fsv, abv, dv] 54 0)).new (rowObj [I 0, encS [], I 0, I 0, I 0, I 0, .bool false] 95 0))).next = m.next + 2 := rfl
 refine runs_start rfl rfl rfl rfl ?_
 (repeat (first | apply wpN_cons | apply g_next | (apply G.h; constructor <;> (first | exact Zc | apply gI | ((repeat' (first | exact Y0 | apply Y1 | ((first | apply Y4 | apply Y5); simp only [evs, Nat.reduceEqDiff, reduceIte] <;> rfl))); done) | (apply Y6; (try simp only [evs]); first | exact r2.load1 rfl rfl rfl | exact hAll)))))
 have z6 := row_new ((m.new (rowObj [.slice (some ⟨b, off, none⟩) l.length cap, .slice (some ⟨ub, 0, none⟩) l.length uc, .slice (some ⟨fb, 0, none⟩) l.length fc, fsv, abv, dv] 54 0)).new (rowObj [I 0, encS [], I 0, I 0, I 0, I 0, .bool false] 95 0)) [I 0, I 0, encS [], I 0, I 0] 43 0
 (apply g_stR <;> (first | exact Zc | apply gI | ((repeat' (first | exact Y0 | apply Y1 | exact Y2 | apply Y3 | ((first | apply Y4 | apply Y5); simp only [evs, Nat.reduceEqDiff, reduceIte] <;> rfl))); done) | (apply Hy.mk; (try simp only [evs]); first | exact z6 | assumption) | (apply Om.mk; first | exact z6) | (apply Y6; (try simp only [evs]); first | rfl) | apply Cn.mk))
 intro m3 r6 o6 n6; simp only [evs] at r6 o6 n6
 replace r6 : Row m3 (m.next + 2) l[i].val 43 0 := r6
 have g3 : Grow ((m.new (rowObj [.slice (some ⟨b, off, none⟩) l.length cap, .slice (some ⟨ub, 0, none⟩) l.length uc, .slice (some ⟨fb, 0, none⟩) l.length fc, fsv, abv, dv] 54 0)).new (rowObj [I 0, encS [], I 0, I 0, I 0, I 0, .bool false] 95 0)) m3 := ((Grow.refl _).new _).wrote (Nat.le_refl _) o6 n6
 have g03 := g1.trans g3
 have hU3 := row_int (hU.grow g03) hu
 have hF3 := row_int (hF.grow g03) hf
 have r23 := r2.grow g3
 have r43 := r4.grow g3
 have nx3 : m3.next = m.next + 3 := by rw [n6]
 rcases (show u = 0 ∨ (u ≠ 0) by omega) with hu0 | hu0
 all_goals
  (repeat (first | apply wpN_cons | apply g_next | (apply G.h; constructor <;> (first | exact Zc | apply gI | ((repeat' (first | exact Y0 | apply Y1 | ((first | apply Y4 | apply Y5); simp only [evs, Nat.reduceEqDiff, reduceIte] <;> rfl))); done) | (apply Y6; (try simp only [evs]); first | exact r23.load1 rfl rfl rfl | exact hU3)))))
  (apply g_regionN [12, 0, 1, 2, 3, 4, 5, 6, 7, 8, 9, 10, 11, 13] []; (focus exact Kr.mk (by kernel_rfl)); (focus exact Rf.mk))
  have r23' := r23.keep_new (rowObj [I 0, encS [], I 0, I 0, I 0, I 0, .bool false] 95 0)
  have r63' := r6.keep_new (rowObj [I 0, encS [], I 0, I 0, I 0, I 0, .bool false] 95 0)
  have hF3' := row_int ((hF.grow g03).keep_new (rowObj [I 0, encS [], I 0, I 0, I 0, I 0, .bool false] 95 0)) hf
  (repeat (first | apply wpN_cons | apply g_next | (apply G.h; constructor <;> (first | exact Zc | apply gI | ((repeat' (first | exact Y0 | apply Y1 | ((first | apply Y4 | apply Y5); simp only [evs, Nat.reduceEqDiff, reduceIte] <;> rfl))); done) | (apply Y6; (try simp only [evs]); first | exact r63'.load1 rfl rfl rfl | exact r23'.load1 rfl rfl rfl | exact hF3')))))
  have z8 := row_new m3 [I 0, encS [], I 0, I 0, I 0, I 0, .bool false] 95 0
  (apply g_stR <;> (first | exact Zc | apply gI | ((repeat' (first | exact Y0 | apply Y1 | exact Y2 | apply Y3 | ((first | apply Y4 | apply Y5); simp only [evs, Nat.reduceEqDiff, reduceIte] <;> rfl))); done) | (apply Hy.mk; (try simp only [evs]); first | exact z8 | assumption) | (apply Om.mk; first | exact z8) | (apply Y6; (try simp only [evs]); first | rfl) | apply Cn.mk))
  intro m4 r8 o8 n8; simp only [evs] at r8 o8 n8
  obtain ⟨gl, r8⟩ : ∃ gl : Bool, Row m4 m3.next [I i, encS l[i].text, I (u : Nat), I 0, I (f : Nat), I 0, .bool gl] 95 0 := ⟨_, r8⟩
  have g4 : Grow m3 m4 := ((Grow.refl _).new _).wrote (Nat.le_refl _) o8 n8
  have g04 := g03.trans g4
  have hN4 := hN.grow hbn g04
  have hb4 := Nat.lt_of_lt_of_le hbn g04.1
  have r24 := r23.grow g4
  have r44 := r43.grow g4
  have r64 := r6.grow g4
  have nx4 : m4.next = m.next + 4 := by rw [n8]; show m3.next + 1 = _; omega
  (repeat (first | apply wpN_cons | apply g_next | (apply G.h; constructor <;> (first | exact Zc | apply gI | ((repeat' (first | exact Y0 | apply Y1 | ((first | apply Y4 | apply Y5); simp only [evs, Nat.reduceEqDiff, reduceIte] <;> rfl))); done) | (apply Y6; (try simp only [evs]); first | rfl)))))
  refine g_last (.mk trivial) ?_
  have hkd : l[i].val[0]? = some (I l[i].kind) := rfl
  have hku := hN4.kind u hul
  have hnu := cntK P hul
  generalize hlu : l[u].kind = ku at hku hnu
  generalize hki : l[i].kind = kd at hkd
  have hcnt := cntT P hi
  rw [hki] at hcnt
  rcases (show kd = 3 ∨ (kd ≠ 3 ∧ kd = 12) ∨ (kd ≠ 3 ∧ kd ≠ 12 ∧ kd = 11) ∨ (kd ≠ 3 ∧ kd ≠ 12 ∧ kd ≠ 11 ∧ kd = 19) ∨ (kd ≠ 3 ∧ kd ≠ 12 ∧ kd ≠ 11 ∧ kd ≠ 19) by omega) with h3 | ⟨h3, h12⟩ | ⟨h3, h12, h11⟩ | ⟨h3, h12, h11, h19⟩ | ⟨h3, h12, h11, h19⟩
  ·obtain ⟨w, hw⟩ := P.at_ i hi
   have hB := behind66 b off cap l hn (by omega) (l.length - i) i w m4 (Nat.le_refl _) hi hN4 hw
   (repeat (first | apply wpN_cons | apply g_next | (apply G.h; constructor <;> (first | exact Zc | apply gI | ((repeat' (first | exact Y0 | apply Y1 | ((first | apply Y4 | apply Y5); simp only [evs, Nat.reduceEqDiff, reduceIte] <;> rfl))); done) | (apply Y6; (try simp only [evs]); first | exact r64.load1 rfl rfl hkd | exact r24.load1 rfl rfl rfl)))))
   ((first | apply g_run | apply g_run0) <;> (first | ((repeat' (first | exact Y0 | apply Y1 | exact Y2 | apply Y3 | ((first | apply Y4 | apply Y5); simp only [evs, Nat.reduceEqDiff, reduceIte] <;> rfl))); done) | exact Rn.mk ((by simp only [evs]; exact hB)) | apply Cn.mk))
   rintro v m5 ⟨rfl, rfl⟩
   (repeat (first | apply wpN_cons | apply g_next | (apply G.h; constructor <;> (first | exact Zc | apply gI | ((repeat' (first | exact Y0 | apply Y1 | ((first | apply Y4 | apply Y5); simp only [evs, Nat.reduceEqDiff, reduceIte] <;> rfl))); done) | (apply Y6; (try simp only [evs]); first | rfl)))))
   (apply g_stR <;> (first | exact Zc | apply gI | ((repeat' (first | exact Y0 | apply Y1 | exact Y2 | apply Y3 | ((first | apply Y4 | apply Y5); simp only [evs, Nat.reduceEqDiff, reduceIte] <;> rfl))); done) | (apply Hy.mk; (try simp only [evs]); first | exact r8 | assumption) | (apply Om.mk; first | exact r8) | (apply Y6; (try simp only [evs]); first | rfl) | apply Cn.mk))
   intro m6 r9 o9 n9; simp only [evs] at r9 o9 n9
   have g6 := g04.wrote (b := m3.next) (by omega) o9 n9
   have r46 := r44.keep (m' := m6) (by rw [n9]; exact Nat.le_refl _) (o9 _ (by omega))
   (repeat (first | apply wpN_cons | apply g_next | (apply G.h; constructor <;> (first | exact Zc | apply gI | ((repeat' (first | exact Y0 | apply Y1 | ((first | apply Y4 | apply Y5); simp only [evs, Nat.reduceEqDiff, reduceIte] <;> rfl))); done) | (apply Y6; (try simp only [evs]); first | exact r9.loadA rfl rfl rfl (Nat.le_refl 7) rfl)))))
   (apply g_stR <;> (first | exact Zc | apply gI | ((repeat' (first | exact Y0 | apply Y1 | exact Y2 | apply Y3 | ((first | apply Y4 | apply Y5); simp only [evs, Nat.reduceEqDiff, reduceIte] <;> rfl))); done) | (apply Hy.mk; (try simp only [evs]); first | exact r46 | assumption) | (apply Om.mk; first | exact r46) | (apply Y6; (try simp only [evs]); first | rfl) | apply Cn.mk))
   intro mz rz oz nz; simp only [evs] at rz oz nz
   (repeat (first | apply wpN_cons | apply g_next | (apply G.h; constructor <;> (first | exact Zc | apply gI | ((repeat' (first | exact Y0 | apply Y1 | ((first | apply Y4 | apply Y5); simp only [evs, Nat.reduceEqDiff, reduceIte] <;> rfl))); done) | (apply Y6; (try simp only [evs]); first | rfl)))))
   refine g_fin2c (b := m.next + 1) (o := 0) _ (.bool true) rfl ?_ ?_ (by simp only [evs]; exact rz.loadA rfl rfl rfl (Nat.le_refl 7) rfl) ?_ ?_
   ·(simp only [evs, Nat.reduceEqDiff, reduceIte] <;> first | rfl | (congr 1; omega) | omega)
   ·(simp only [evs, Nat.reduceEqDiff, reduceIte] <;> first | rfl | (congr 1; omega) | omega)
   ·(simp only [evs, Nat.reduceEqDiff, reduceIte] <;> first | rfl | (congr 1; omega) | omega)
   ·refine ⟨?_, _, _, _, _, _, _, rfl⟩
    simp only [evs]; exact g6.wrote (b := m.next + 1) (by omega) oz nz
  ·(repeat (first | apply wpN_cons | apply g_next | (apply G.h; constructor <;> (first | exact Zc | apply gI | ((repeat' (first | exact Y0 | apply Y1 | ((first | apply Y4 | apply Y5); simp only [evs, Nat.reduceEqDiff, reduceIte] <;> rfl))); done) | (apply Y6; (try simp only [evs]); first | exact r64.load1 rfl rfl hkd)))))
   (apply g_stR <;> (first | exact Zc | apply gI | ((repeat' (first | exact Y0 | apply Y1 | exact Y2 | apply Y3 | ((first | apply Y4 | apply Y5); simp only [evs, Nat.reduceEqDiff, reduceIte] <;> rfl))); done) | (apply Hy.mk; (try simp only [evs]); first | exact r8 | assumption) | (apply Om.mk; first | exact r8) | (apply Y6; (try simp only [evs]); first | rfl) | apply Cn.mk))
   intro m6 r9 o9 n9; simp only [evs] at r9 o9 n9
   have g6 := g04.wrote (b := m3.next) (by omega) o9 n9
   have r46 := r44.keep (m' := m6) (by rw [n9]; exact Nat.le_refl _) (o9 _ (by omega))
   (repeat (first | apply wpN_cons | apply g_next | (apply G.h; constructor <;> (first | exact Zc | apply gI | ((repeat' (first | exact Y0 | apply Y1 | ((first | apply Y4 | apply Y5); simp only [evs, Nat.reduceEqDiff, reduceIte] <;> rfl))); done) | (apply Y6; (try simp only [evs]); first | exact r9.loadA rfl rfl rfl (Nat.le_refl 7) rfl)))))
   (apply g_stR <;> (first | exact Zc | apply gI | ((repeat' (first | exact Y0 | apply Y1 | exact Y2 | apply Y3 | ((first | apply Y4 | apply Y5); simp only [evs, Nat.reduceEqDiff, reduceIte] <;> rfl))); done) | (apply Hy.mk; (try simp only [evs]); first | exact r46 | assumption) | (apply Om.mk; first | exact r46) | (apply Y6; (try simp only [evs]); first | rfl) | apply Cn.mk))
   intro mz rz oz nz; simp only [evs] at rz oz nz
   (repeat (first | apply wpN_cons | apply g_next | (apply G.h; constructor <;> (first | exact Zc | apply gI | ((repeat' (first | exact Y0 | apply Y1 | ((first | apply Y4 | apply Y5); simp only [evs, Nat.reduceEqDiff, reduceIte] <;> rfl))); done) | (apply Y6; (try simp only [evs]); first | rfl)))))
   refine g_fin2c (b := m.next + 1) (o := 0) _ (.bool true) rfl ?_ ?_ (by simp only [evs]; exact rz.loadA rfl rfl rfl (Nat.le_refl 7) rfl) ?_ ?_
   ·(simp only [evs, Nat.reduceEqDiff, reduceIte] <;> first | rfl | (congr 1; omega) | omega)
   ·(simp only [evs, Nat.reduceEqDiff, reduceIte] <;> first | rfl | (congr 1; omega) | omega)
   ·(simp only [evs, Nat.reduceEqDiff, reduceIte] <;> first | rfl | (congr 1; omega) | omega)
   ·refine ⟨?_, _, _, _, _, _, _, rfl⟩
    simp only [evs]; exact g6.wrote (b := m.next + 1) (by omega) oz nz
  ·obtain ⟨w, hw⟩ := P.at_ i hi
   have hK := kids34 b off cap l hn (by omega) i w m4 hi hN4 hb4 hw
   (repeat (first | apply wpN_cons | apply g_next | (apply G.h; constructor <;> (first | exact Zc | apply gI | ((repeat' (first | exact Y0 | apply Y1 | ((first | apply Y4 | apply Y5); simp only [evs, Nat.reduceEqDiff, reduceIte] <;> rfl))); done) | (apply Y6; (try simp only [evs]); first | exact r64.load1 rfl rfl hkd)))))
   (apply g_regionN [0, 1, 2, 3, 4, 5, 6, 7, 8, 9, 10, 11, 12] [(0, 8), (5, 10), (6, 10), (7, 4)]; (focus exact Kr.mk (by kernel_rfl)); (focus exact Rf.mk))
   (repeat (first | apply wpN_cons | apply g_next | (apply G.h; constructor <;> (first | exact Zc | apply gI | ((repeat' (first | exact Y0 | apply Y1 | ((first | apply Y4 | apply Y5); simp only [evs, Nat.reduceEqDiff, reduceIte] <;> rfl))); done) | (apply Y6; (try simp only [evs]); first | exact r24.load1 rfl rfl rfl)))))
   ((first | apply g_run | apply g_run0) <;> (first | ((repeat' (first | exact Y0 | apply Y1 | exact Y2 | apply Y3 | ((first | apply Y4 | apply Y5); simp only [evs, Nat.reduceEqDiff, reduceIte] <;> rfl))); done) | exact Rn.mk ((by simp only [evs]; exact hK)) | apply Cn.mk))
   rintro v m5 ⟨g5, hI⟩
   have hn2 : l[i].n.toNat = 2 := by rw [hcnt h11]; rfl
   rw [hn2] at hI
   obtain ⟨kb, kc, kr, hke, hkr, hkx⟩ := hI.get (i := 1) (by rw [kidsP_len]; decide)
   rw [kidsP_len] at hke
   subst hke
   generalize (kidsP l 2 (i + 1))[1]'(by rw [kidsP_len]; decide) = k1 at hkx
   (repeat (first | apply wpN_cons | apply g_next | (apply G.h; constructor <;> (first | exact Zc | apply gI | ((repeat' (first | exact Y0 | apply Y1 | ((first | apply Y4 | apply Y5); simp only [evs, Nat.reduceEqDiff, reduceIte] <;> rfl))); done) | (apply Y6; (try simp only [evs]); first | exact hkr.load1 rfl rfl hkx)))))
   have r85 := r8.grow g5
   (apply g_stR <;> (first | exact Zc | apply gI | ((repeat' (first | exact Y0 | apply Y1 | exact Y2 | apply Y3 | ((first | apply Y4 | apply Y5); simp only [evs, Nat.reduceEqDiff, reduceIte] <;> rfl))); done) | (apply Hy.mk; (try simp only [evs]); first | exact r85 | assumption) | (apply Om.mk; first | exact r85) | (apply Y6; (try simp only [evs]); first | rfl) | apply Cn.mk))
   intro m6 r9 o9 n9; simp only [evs] at r9 o9 n9
   have hkr6 := hkr.stay (Keep.row (X := fun _ => False) (T := [95]) r85 id (by simp) o9 n9) (.inr (by decide))
   (repeat (first | apply wpN_cons | apply g_next | (apply G.h; constructor <;> (first | exact Zc | apply gI | ((repeat' (first | exact Y0 | apply Y1 | ((first | apply Y4 | apply Y5); simp only [evs, Nat.reduceEqDiff, reduceIte] <;> rfl))); done) | (apply Y6; (try simp only [evs]); first | rfl)))))
   (apply g_stR <;> (first | exact Zc | apply gI | ((repeat' (first | exact Y0 | apply Y1 | exact Y2 | apply Y3 | ((first | apply Y4 | apply Y5); simp only [evs, Nat.reduceEqDiff, reduceIte] <;> rfl))); done) | (apply Hy.mk; (try simp only [evs]); first | exact r9 | assumption) | (apply Om.mk; first | exact r9) | (apply Y6; (try simp only [evs]); first | rfl) | apply Cn.mk))
   intro m7 r10 o10 n10; simp only [evs] at r10 o10 n10
   (repeat (first | apply wpN_cons | apply g_next | (apply G.h; constructor <;> (first | exact Zc | apply gI | ((repeat' (first | exact Y0 | apply Y1 | ((first | apply Y4 | apply Y5); simp only [evs, Nat.reduceEqDiff, reduceIte] <;> rfl))); done) | (apply Y6; (try simp only [evs]); first | rfl)))))
   (apply g_stR <;> (first | exact Zc | apply gI | ((repeat' (first | exact Y0 | apply Y1 | exact Y2 | apply Y3 | ((first | apply Y4 | apply Y5); simp only [evs, Nat.reduceEqDiff, reduceIte] <;> rfl))); done) | (apply Hy.mk; (try simp only [evs]); first | exact r10 | assumption) | (apply Om.mk; first | exact r10) | (apply Y6; (try simp only [evs]); first | rfl) | apply Cn.mk))
   intro m8 r11' o11 n11; simp only [evs] at r11' o11 n11
   (repeat (first | apply wpN_cons | apply g_next | (apply G.h; constructor <;> (first | exact Zc | apply gI | ((repeat' (first | exact Y0 | apply Y1 | ((first | apply Y4 | apply Y5); simp only [evs, Nat.reduceEqDiff, reduceIte] <;> rfl))); done) | (apply Y6; (try simp only [evs]); first | rfl)))))
   refine g_last (.mk ⟨.mk ?_, .mk ?_, .mk ?_, .mk ?_, trivial⟩) ?_
   ·(apply again_of; exact Rf.mk; exact Rf.mk; (apply Ev.mk; (simp only [evs, Nat.reduceEqDiff, reduceIte] <;> rfl)); exact Rf.mk; (repeat (first | apply wpN_cons | apply g_next | (apply G.h; constructor <;> (first | exact Zc | apply gI | ((repeat' (first | exact Y0 | apply Y1 | ((first | apply Y4 | apply Y5); simp only [evs, Nat.reduceEqDiff, reduceIte] <;> rfl))); done) | (apply Y6; (try simp only [evs]); first | rfl))))); refine eret_nil ?_; (simp only [evs, Nat.reduceEqDiff, reduceIte] <;> rfl))
   ·(apply again_of; exact Rf.mk; exact Rf.mk; (apply Ev.mk; (simp only [evs, Nat.reduceEqDiff, reduceIte] <;> rfl)); exact Rf.mk; (repeat (first | apply wpN_cons | apply g_next | (apply G.h; constructor <;> (first | exact Zc | apply gI | ((repeat' (first | exact Y0 | apply Y1 | ((first | apply Y4 | apply Y5); simp only [evs, Nat.reduceEqDiff, reduceIte] <;> rfl))); done) | (apply Y6; (try simp only [evs]); first | rfl))))); refine eret_nil ?_; (simp only [evs, Nat.reduceEqDiff, reduceIte] <;> rfl))
   ·(apply again_of; exact Rf.mk; exact Rf.mk; (apply Ev.mk; (simp only [evs, Nat.reduceEqDiff, reduceIte] <;> rfl)); exact Rf.mk; (repeat (first | apply wpN_cons | apply g_next | (apply G.h; constructor <;> (first | exact Zc | apply gI | ((repeat' (first | exact Y0 | apply Y1 | ((first | apply Y4 | apply Y5); simp only [evs, Nat.reduceEqDiff, reduceIte] <;> rfl))); done) | (apply Y6; (try simp only [evs]); first | exact hkr6.load1 rfl rfl hkx))))); refine eret_nil ?_; (simp only [evs, Nat.reduceEqDiff, reduceIte] <;> rfl))
   ·(apply again_of; exact Rf.mk; exact Rf.mk; (apply Ev.mk; (simp only [evs, Nat.reduceEqDiff, reduceIte] <;> rfl)); exact Rf.mk; (repeat (first | apply wpN_cons | apply g_next | (apply G.h; constructor <;> (first | exact Zc | apply gI | ((repeat' (first | exact Y0 | apply Y1 | ((first | apply Y4 | apply Y5); simp only [evs, Nat.reduceEqDiff, reduceIte] <;> rfl))); done) | (apply Y6; (try simp only [evs]); first | rfl))))); refine eret_nil ?_; (simp only [evs, Nat.reduceEqDiff, reduceIte] <;> rfl))
   have g5' := g04.trans g5
   have g6 := ((g5'.wrote (b := m3.next) (by omega) o9 n9).wrote (b := m3.next) (by omega) o10 n10).wrote (b := m3.next) (by omega) o11 n11
   have r45 := r44.grow g5
   have r46 := ((r45.keep (m' := m6) (by rw [n9]; exact Nat.le_refl _) (o9 _ (by omega))).keep (m' := m7) (by rw [n10]; exact Nat.le_refl _) (o10 _ (by omega))).keep (m' := m8) (by rw [n11]; exact Nat.le_refl _) (o11 _ (by omega))
   (repeat (first | apply wpN_cons | apply g_next | (apply G.h; constructor <;> (first | exact Zc | apply gI | ((repeat' (first | exact Y0 | apply Y1 | ((first | apply Y4 | apply Y5); simp only [evs, Nat.reduceEqDiff, reduceIte] <;> rfl))); done) | (apply Y6; (try simp only [evs]); first | exact r11'.loadA rfl rfl rfl (Nat.le_refl 7) rfl)))))
   (apply g_stR <;> (first | exact Zc | apply gI | ((repeat' (first | exact Y0 | apply Y1 | exact Y2 | apply Y3 | ((first | apply Y4 | apply Y5); simp only [evs, Nat.reduceEqDiff, reduceIte] <;> rfl))); done) | (apply Hy.mk; (try simp only [evs]); first | exact r46 | assumption) | (apply Om.mk; first | exact r46) | (apply Y6; (try simp only [evs]); first | rfl) | apply Cn.mk))
   intro mz rz oz nz; simp only [evs] at rz oz nz
   (repeat (first | apply wpN_cons | apply g_next | (apply G.h; constructor <;> (first | exact Zc | apply gI | ((repeat' (first | exact Y0 | apply Y1 | ((first | apply Y4 | apply Y5); simp only [evs, Nat.reduceEqDiff, reduceIte] <;> rfl))); done) | (apply Y6; (try simp only [evs]); first | rfl)))))
   refine g_fin2c (b := m.next + 1) (o := 0) _ (.bool true) rfl ?_ ?_ (by simp only [evs]; exact rz.loadA rfl rfl rfl (Nat.le_refl 7) rfl) ?_ ?_
   ·(simp only [evs, Nat.reduceEqDiff, reduceIte] <;> first | rfl | (congr 1; omega) | omega)
   ·(simp only [evs, Nat.reduceEqDiff, reduceIte] <;> first | rfl | (congr 1; omega) | omega)
   ·(simp only [evs, Nat.reduceEqDiff, reduceIte] <;> first | rfl | (congr 1; omega) | omega)
   ·refine ⟨?_, _, _, _, _, _, _, rfl⟩
    simp only [evs]; exact g6.wrote (b := m.next + 1) (by omega) oz nz
  ·rcases (show (ku ≠ 12 ∧ ku ≠ 31) ∨ ku = 12 ∨ (ku ≠ 12 ∧ ku = 31) by omega) with ⟨hk1, hk2⟩ | hk1 | ⟨hk1, hk2⟩
   ·(repeat (first | apply wpN_cons | apply g_next | (apply G.h; constructor <;> (first | exact Zc | apply gI | ((repeat' (first | exact Y0 | apply Y1 | ((first | apply Y4 | apply Y5); simp only [evs, Nat.reduceEqDiff, reduceIte] <;> rfl))); done) | (apply Y6; (try simp only [evs]); first | exact r64.load1 rfl rfl hkd | exact r24.load1 rfl rfl rfl | exact hku)))))
    (repeat (first | apply wpN_cons | apply g_next | (apply G.h; constructor <;> (first | exact Zc | apply gI | ((repeat' (first | exact Y0 | apply Y1 | ((first | apply Y4 | apply Y5); simp only [evs, Nat.reduceEqDiff, reduceIte] <;> rfl))); done) | (apply Y6; (try simp only [evs]); first | exact r8.loadA rfl rfl rfl (Nat.le_refl 7) rfl)))))
    (apply g_stR <;> (first | exact Zc | apply gI | ((repeat' (first | exact Y0 | apply Y1 | exact Y2 | apply Y3 | ((first | apply Y4 | apply Y5); simp only [evs, Nat.reduceEqDiff, reduceIte] <;> rfl))); done) | (apply Hy.mk; (try simp only [evs]); first | exact r44 | assumption) | (apply Om.mk; first | exact r44) | (apply Y6; (try simp only [evs]); first | rfl) | apply Cn.mk))
    intro mz rz oz nz; simp only [evs] at rz oz nz
    (repeat (first | apply wpN_cons | apply g_next | (apply G.h; constructor <;> (first | exact Zc | apply gI | ((repeat' (first | exact Y0 | apply Y1 | ((first | apply Y4 | apply Y5); simp only [evs, Nat.reduceEqDiff, reduceIte] <;> rfl))); done) | (apply Y6; (try simp only [evs]); first | rfl)))))
    refine g_fin2c (b := m.next + 1) (o := 0) _ (.bool false) rfl ?_ ?_ (by simp only [evs]; exact rz.loadA rfl rfl rfl (Nat.le_refl 7) rfl) ?_ ?_
    ·(simp only [evs, Nat.reduceEqDiff, reduceIte] <;> first | rfl | (congr 1; omega) | omega)
    ·(simp only [evs, Nat.reduceEqDiff, reduceIte] <;> first | rfl | (congr 1; omega) | omega)
    ·(simp only [evs, Nat.reduceEqDiff, reduceIte] <;> first | rfl | (congr 1; omega) | omega)
    ·refine ⟨?_, _, _, _, _, _, _, rfl⟩
     simp only [evs]; exact g04.wrote (b := m.next + 1) (by omega) oz nz
   all_goals
    obtain ⟨w, hw⟩ := P.at_ u hul
    have hK := kids34 b off cap l hn (by omega) u w m4 hul hN4 hb4 hw
    (repeat (first | apply wpN_cons | apply g_next | (apply G.h; constructor <;> (first | exact Zc | apply gI | ((repeat' (first | exact Y0 | apply Y1 | ((first | apply Y4 | apply Y5); simp only [evs, Nat.reduceEqDiff, reduceIte] <;> rfl))); done) | (apply Y6; (try simp only [evs]); first | exact r64.load1 rfl rfl hkd | exact r24.load1 rfl rfl rfl | exact hku)))))
    ((first | apply g_run | apply g_run0) <;> (first | ((repeat' (first | exact Y0 | apply Y1 | exact Y2 | apply Y3 | ((first | apply Y4 | apply Y5); simp only [evs, Nat.reduceEqDiff, reduceIte] <;> rfl))); done) | exact Rn.mk ((by simp only [evs]; exact hK)) | apply Cn.mk))
    rintro v m5 ⟨g5, hI⟩
    have hnu := hnu (by omega)
    obtain ⟨nn, hnn⟩ : ∃ nn, l[u].n.toNat = nn := ⟨_, rfl⟩
    have hnb : 1 ≤ nn ∧ nn ≤ 17 := by omega
    rw [hnn] at hI
    obtain ⟨kb, kc, kr, hke, hkr, hkx⟩ := hI.get (i := nn - 1) (by rw [kidsP_len]; omega)
    rw [kidsP_len] at hke
    subst hke
    generalize (kidsP l nn (u + 1))[nn - 1]'(by rw [kidsP_len]; omega) = k1 at hkx
    (repeat (first | apply wpN_cons | apply g_next | (apply G.h; constructor <;> (first | exact Zc | apply gI | ((repeat' (first | exact Y0 | apply Y1 | ((first | apply Y4 | apply Y5); simp only [evs, Nat.reduceEqDiff, reduceIte] <;> rfl))); done) | (apply Y6; (try simp only [evs]); first | exact hkr.load1 rfl rfl hkx)))))
    have r85 := r8.grow g5
    (apply g_stR <;> (first | exact Zc | apply gI | ((repeat' (first | exact Y0 | apply Y1 | exact Y2 | apply Y3 | ((first | apply Y4 | apply Y5); simp only [evs, Nat.reduceEqDiff, reduceIte] <;> rfl))); done) | (apply Hy.mk; (try simp only [evs]); first | exact r85 | assumption) | (apply Om.mk; first | exact r85) | (apply Y6; (try simp only [evs]); first | rfl) | apply Cn.mk))
    intro m6 r9 o9 n9; simp only [evs] at r9 o9 n9
    (repeat (first | apply wpN_cons | apply g_next | (apply G.h; constructor <;> (first | exact Zc | apply gI | ((repeat' (first | exact Y0 | apply Y1 | ((first | apply Y4 | apply Y5); simp only [evs, Nat.reduceEqDiff, reduceIte] <;> rfl))); done) | (apply Y6; (try simp only [evs]); first | rfl)))))
    (apply g_stR <;> (first | exact Zc | apply gI | ((repeat' (first | exact Y0 | apply Y1 | exact Y2 | apply Y3 | ((first | apply Y4 | apply Y5); simp only [evs, Nat.reduceEqDiff, reduceIte] <;> rfl))); done) | (apply Hy.mk; (try simp only [evs]); first | exact r9 | assumption) | (apply Om.mk; first | exact r9) | (apply Y6; (try simp only [evs]); first | rfl) | apply Cn.mk))
    intro m7 r10 o10 n10; simp only [evs] at r10 o10 n10
    have g5' := g04.trans g5
    have g6 := (g5'.wrote (b := m3.next) (by omega) o9 n9).wrote (b := m3.next) (by omega) o10 n10
    have r45 := r44.grow g5
    have r46 := (r45.keep (m' := m6) (by rw [n9]; exact Nat.le_refl _) (o9 _ (by omega))).keep (m' := m7) (by rw [n10]; exact Nat.le_refl _) (o10 _ (by omega))
    (repeat (first | apply wpN_cons | apply g_next | (apply G.h; constructor <;> (first | exact Zc | apply gI | ((repeat' (first | exact Y0 | apply Y1 | ((first | apply Y4 | apply Y5); simp only [evs, Nat.reduceEqDiff, reduceIte] <;> rfl))); done) | (apply Y6; (try simp only [evs]); first | exact r10.loadA rfl rfl rfl (Nat.le_refl 7) rfl)))))
    (apply g_stR <;> (first | exact Zc | apply gI | ((repeat' (first | exact Y0 | apply Y1 | exact Y2 | apply Y3 | ((first | apply Y4 | apply Y5); simp only [evs, Nat.reduceEqDiff, reduceIte] <;> rfl))); done) | (apply Hy.mk; (try simp only [evs]); first | exact r46 | assumption) | (apply Om.mk; first | exact r46) | (apply Y6; (try simp only [evs]); first | rfl) | apply Cn.mk))
    intro mz rz oz nz; simp only [evs] at rz oz nz
    (repeat (first | apply wpN_cons | apply g_next | (apply G.h; constructor <;> (first | exact Zc | apply gI | ((repeat' (first | exact Y0 | apply Y1 | ((first | apply Y4 | apply Y5); simp only [evs, Nat.reduceEqDiff, reduceIte] <;> rfl))); done) | (apply Y6; (try simp only [evs]); first | rfl)))))
    refine g_fin2c (b := m.next + 1) (o := 0) _ (.bool true) rfl ?_ ?_ (by simp only [evs]; exact rz.loadA rfl rfl rfl (Nat.le_refl 7) rfl) ?_ ?_
    ·(simp only [evs, Nat.reduceEqDiff, reduceIte] <;> first | rfl | (congr 1; omega) | omega)
    ·(simp only [evs, Nat.reduceEqDiff, reduceIte] <;> first | rfl | (congr 1; omega) | omega)
    ·(simp only [evs, Nat.reduceEqDiff, reduceIte] <;> first | rfl | (congr 1; omega) | omega)
    ·refine ⟨?_, _, _, _, _, _, _, rfl⟩
     simp only [evs]; exact g6.wrote (b := m.next + 1) (by omega) oz nz
  ·(repeat (first | apply wpN_cons | apply g_next | (apply G.h; constructor <;> (first | exact Zc | apply gI | ((repeat' (first | exact Y0 | apply Y1 | ((first | apply Y4 | apply Y5); simp only [evs, Nat.reduceEqDiff, reduceIte] <;> rfl))); done) | (apply Y6; (try simp only [evs]); first | exact r64.load1 rfl rfl hkd)))))
   (repeat (first | apply wpN_cons | apply g_next | (apply G.h; constructor <;> (first | exact Zc | apply gI | ((repeat' (first | exact Y0 | apply Y1 | ((first | apply Y4 | apply Y5); simp only [evs, Nat.reduceEqDiff, reduceIte] <;> rfl))); done) | (apply Y6; (try simp only [evs]); first | exact r8.loadA rfl rfl rfl (Nat.le_refl 7) rfl)))))
   (apply g_stR <;> (first | exact Zc | apply gI | ((repeat' (first | exact Y0 | apply Y1 | exact Y2 | apply Y3 | ((first | apply Y4 | apply Y5); simp only [evs, Nat.reduceEqDiff, reduceIte] <;> rfl))); done) | (apply Hy.mk; (try simp only [evs]); first | exact r44 | assumption) | (apply Om.mk; first | exact r44) | (apply Y6; (try simp only [evs]); first | rfl) | apply Cn.mk))
   intro mz rz oz nz; simp only [evs] at rz oz nz
   (repeat (first | apply wpN_cons | apply g_next | (apply G.h; constructor <;> (first | exact Zc | apply gI | ((repeat' (first | exact Y0 | apply Y1 | ((first | apply Y4 | apply Y5); simp only [evs, Nat.reduceEqDiff, reduceIte] <;> rfl))); done) | (apply Y6; (try simp only [evs]); first | rfl)))))
   refine g_fin2c (b := m.next + 1) (o := 0) _ (.bool false) rfl ?_ ?_ (by simp only [evs]; exact rz.loadA rfl rfl rfl (Nat.le_refl 7) rfl) ?_ ?_
   ·(simp only [evs, Nat.reduceEqDiff, reduceIte] <;> first | rfl | (congr 1; omega) | omega)
   ·(simp only [evs, Nat.reduceEqDiff, reduceIte] <;> first | rfl | (congr 1; omega) | omega)
   ·(simp only [evs, Nat.reduceEqDiff, reduceIte] <;> first | rfl | (congr 1; omega) | omega)
   ·refine ⟨?_, _, _, _, _, _, _, rfl⟩
    simp only [evs]; exact g04.wrote (b := m.next + 1) (by omega) oz nz
end Go.Proofs.YtihokakelnfdgaaDoor

namespace Go.Proofs.YtihokakelnfdgaaDoor
open Go Go.Ev
set_option maxRecDepth 100000
set_option linter.unusedVariables false
set_option linter.unusedSimpArgs false
set_option pp.maxSteps 1500

theorem rep_ints : ∀ n : Nat, repeatList [I 0] n = intsL (List.replicate n 0)
 | 0 => rfl
 | n + 1 => by rw [repeatList, rep_ints n, List.replicate_succ]; rfl
theorem intsL_set (U : List Nat) (i x : Nat) : (intsL U).set (0 + i * 1) (I (x : Nat)) = intsL (U.set i x) := by
 rw [show 0 + i * 1 = i by omega, intsL, intsL, List.map_set]
/-- the functions so far, and those about them. -/
def fsL (l : List Nd) (i : Nat) : List Value := I 0 :: (fnL l 0 i).map fun x => I (x.1 : Nat)
def abL (l : List Nd) (Fn : List Nat) (i : Nat) : List Value := I (-1) :: (fnL l 0 i).map fun x => I ((Fn[x.1]?.getD 0 : Nat))
theorem fsL_len (l : List Nd) (i : Nat) : (fsL l i).length = (fnL l 0 i).length + 1 := by simp [fsL]
theorem abL_len (l : List Nd) (Fn : List Nat) (i : Nat) : (abL l Fn i).length = (fnL l 0 i).length + 1 := by simp [abL]
theorem fsL_fn {l : List Nd} {i : Nat} (h : isFnAt l i = true) : fsL l (i + 1) = fsL l i ++ [I (i : Nat)] := by
 have : fnL l i 1 = [(i, numAt l i)] := by unfold fnL; simp [h]
 unfold fsL
 rw [fnL_add, Nat.zero_add, this, List.map_append]; rfl
theorem fsL_no {l : List Nd} {i : Nat} (h : isFnAt l i = false) : fsL l (i + 1) = fsL l i := by
 have : fnL l i 1 = [] := by unfold fnL; simp [h]
 unfold fsL
 rw [fnL_add, Nat.zero_add, this, List.append_nil]
theorem fnL_lt {l : List Nd} {i : Nat} : ∀ x ∈ fnL l 0 i, x.1 < i := fun x hx => by
 unfold fnL at hx
 obtain ⟨j, hj, rfl⟩ := List.mem_map.1 hx
 have := (List.mem_filter.1 hj).1
 rw [List.mem_range'_1] at this
 simp only; omega
theorem abL_set (l : List Nd) (Fn : List Nat) (i f : Nat) : abL l (Fn.set i f) i = abL l Fn i := by
 unfold abL
 congr 1
 refine List.map_congr_left fun x hx => ?_
 rw [List.getElem?_set_ne (by have := fnL_lt x hx; omega)]
theorem abL_fn {l : List Nd} {Fn : List Nat} {i f : Nat} (h : isFnAt l i = true) (hf : Fn[i]? = some f) : abL l Fn (i + 1) = abL l Fn i ++ [I (f : Nat)] := by
 have : fnL l i 1 = [(i, numAt l i)] := by unfold fnL; simp [h]
 unfold abL
 rw [fnL_add, Nat.zero_add, this, List.map_append, List.map_cons, hf]; rfl
theorem abL_no {l : List Nd} {Fn : List Nat} {i : Nat} (h : isFnAt l i = false) : abL l Fn (i + 1) = abL l Fn i := by
 have : fnL l i 1 = [] := by unfold fnL; simp [h]
 unfold abL
 rw [fnL_add, Nat.zero_add, this, List.append_nil]
theorem fnL_le (l : List Nd) (i : Nat) : (fnL l 0 i).length ≤ i := by
 unfold fnL
 rw [List.length_map]
 exact Nat.le_trans (List.length_filter_le _ _) (by rw [List.length_range']; exact Nat.le_refl _)
theorem setAll_snoc (v k : Nat) : ∀ (ks u : List Nat), setAll v (ks ++ [k]) u = (setAll v ks u).set k v
 | [], u => rfl
 | x :: ks, u => by rw [List.cons_append, setAll, setAll, setAll_snoc v k ks]
theorem _root_.Go.Ev.Sl.notX {X : Nat → Prop} {m : Mem} {b n c e sz : Nat} {l : List Value} (h : Sl X m (.slice (some ⟨b, 0, none⟩) n c) e sz l) : ¬ X b ∧ b < m.next := by
 rcases h with ⟨h, -⟩ | ⟨b', cap, r, n', h1, h2, h3, -⟩
 ·cases h
 ·cases h1; exact ⟨h2, h3.1⟩
theorem kids_few {l : List Nd} (P : Prg l) (hl : l.length ≤ 400) {p : Nat} (hp : p < l.length) : l[p].n.toNat ≤ 100000 := by
 obtain ⟨w, hw⟩ := P.at_ p hp
 obtain ⟨d1, d2, d3⟩ := D_kids hp hw
 have := (D_le _ _ _ d3).1
 omega
def XG (p : Nat) (c : Nat) : Prop := c < p + 7 ∧ c ≠ p + 4 ∧ c ≠ p + 5
/-- what lies where, in Grow. -/
structure GM (l : List Nd) (b off cap : Nat) (m0 : Mem) (m : Mem) (i : Nat) (U Fn Ow : List Nat) (fs gs : List Value) (fb fn fc ab an ac : Nat) : Prop where
 k : Keep (fun c => c < m0.next) [3, 54, 95] m0 m
 nx : m0.next + 7 ≤ m.next
 r2 : Row m m0.next [nilS, nilS, nilS, nilS, nilS, nilS] 54 0
 r3 : Row m (m0.next + 1) [.slice (some ⟨b, off, none⟩) l.length cap, .slice (some ⟨m0.next + 2, 0, none⟩) l.length l.length, .slice (some ⟨m0.next + 3, 0, none⟩) l.length l.length, .slice (some ⟨fb, 0, none⟩) fn fc, .slice (some ⟨ab, 0, none⟩) an ac, nilS] 54 0
 rU : Row m (m0.next + 2) (intsL U) 3 0
 rF : Row m (m0.next + 3) (intsL Fn) 3 0
 rO : Row m (m0.next + 6) (intsL Ow) 3 0
 sF : Sl (XG m0.next) m (.slice (some ⟨fb, 0, none⟩) fn fc) 3 1 fs
 sA : Sl (XG m0.next) m (.slice (some ⟨ab, 0, none⟩) an ac) 3 1 gs
 ne : fb ≠ ab
section
variable {l : List Nd} {b off cap : Nat} {m0 m m' : Mem} {i : Nat} {U Fn Ow : List Nat} {fs gs : List Value} {fb fn fc ab an ac : Nat}
theorem sl_other (h : Sl (XG m0.next) m (.slice (some ⟨fb, 0, none⟩) fn fc) 3 1 fs) {z : Nat} (hz : XG m0.next z) (hn : m'.next = m.next) (ho : ∀ x, x ≠ z → m'.get x = m.get x) : Sl (XG m0.next) m' (.slice (some ⟨fb, 0, none⟩) fn fc) 3 1 fs :=
 h.keep (by rw [hn]; exact Nat.le_refl _) fun b n c e => by
  cases e
  exact ho _ fun e => h.notX.1 (e ▸ hz)
theorem sl_not {X : Nat → Prop} {m m' : Mem} {v : Value} {e sz : Nat} {L : List Value} (h : Sl X m v e sz L) {z : Nat} (hz : ∀ b n c, v = .slice (some ⟨b, 0, none⟩) n c → b ≠ z) (hn : m'.next = m.next) (ho : ∀ x, x ≠ z → m'.get x = m.get x) : Sl X m' v e sz L :=
 h.keep (by rw [hn]; exact Nat.le_refl _) fun b n c e => ho _ (hz b n c e)
theorem GM.setU (M : GM l b off cap m0 m i U Fn Ow fs gs fb fn fc ab an ac) {U' : List Nat} (r : Row m' (m0.next + 2) (intsL U') 3 0) (o : ∀ x, x ≠ m0.next + 2 → m'.get x = m.get x) (n : m'.next = m.next) : GM l b off cap m0 m' i U' Fn Ow fs gs fb fn fc ab an ac :=
 have hle : m.next ≤ m'.next := by rw [n]; exact Nat.le_refl _
 ⟨M.k.trans (Keep.row M.rU (by omega) (by simp) o n), by rw [n]; exact M.nx, M.r2.keep hle (o _ (by omega)), M.r3.keep hle (o _ (by omega)), r, M.rF.keep hle (o _ (by omega)), M.rO.keep hle (o _ (by omega)), sl_other M.sF ⟨by omega, by omega, by omega⟩ n o, sl_other M.sA ⟨by omega, by omega, by omega⟩ n o, M.ne⟩
theorem GM.setF (M : GM l b off cap m0 m i U Fn Ow fs gs fb fn fc ab an ac) {F' : List Nat} (r : Row m' (m0.next + 3) (intsL F') 3 0) (o : ∀ x, x ≠ m0.next + 3 → m'.get x = m.get x) (n : m'.next = m.next) : GM l b off cap m0 m' i U F' Ow fs gs fb fn fc ab an ac :=
 have hle : m.next ≤ m'.next := by rw [n]; exact Nat.le_refl _
 ⟨M.k.trans (Keep.row M.rF (by omega) (by simp) o n), by rw [n]; exact M.nx, M.r2.keep hle (o _ (by omega)), M.r3.keep hle (o _ (by omega)), M.rU.keep hle (o _ (by omega)), r, M.rO.keep hle (o _ (by omega)), sl_other M.sF ⟨by omega, by omega, by omega⟩ n o, sl_other M.sA ⟨by omega, by omega, by omega⟩ n o, M.ne⟩
theorem GM.setO (M : GM l b off cap m0 m i U Fn Ow fs gs fb fn fc ab an ac) {O' : List Nat} (r : Row m' (m0.next + 6) (intsL O') 3 0) (o : ∀ x, x ≠ m0.next + 6 → m'.get x = m.get x) (n : m'.next = m.next) : GM l b off cap m0 m' i U Fn O' fs gs fb fn fc ab an ac :=
 have hle : m.next ≤ m'.next := by rw [n]; exact Nat.le_refl _
 ⟨M.k.trans (Keep.row M.rO (by omega) (by simp) o n), by rw [n]; exact M.nx, M.r2.keep hle (o _ (by omega)), M.r3.keep hle (o _ (by omega)), M.rU.keep hle (o _ (by omega)), M.rF.keep hle (o _ (by omega)), r, sl_other M.sF ⟨by omega, by omega, by omega⟩ n o, sl_other M.sA ⟨by omega, by omega, by omega⟩ n o, M.ne⟩
theorem GM.grow (M : GM l b off cap m0 m i U Fn Ow fs gs fb fn fc ab an ac) (g : Grow m m') : GM l b off cap m0 m' i U Fn Ow fs gs fb fn fc ab an ac :=
 ⟨M.k.trans (Keep.grow g), Nat.le_trans M.nx g.1, M.r2.grow g, M.r3.grow g, M.rU.grow g, M.rF.grow g, M.rO.grow g, M.sF.grow g, M.sA.grow g, M.ne⟩
/-- one more among the functions (ahead of its being kept). -/
theorem GM.appF (M : GM l b off cap m0 m i U Fn Ow fs gs fb fn fc ab an ac) {fs' : List Value} {fb' fn' fc' : Nat} (s : Sl (XG m0.next) m' (.slice (some ⟨fb', 0, none⟩) fn' fc') 3 1 fs') (k : Keep (XG m0.next) [3] m m')
  (o : ∀ x, x < m.next → (∀ n c, (.slice (some ⟨fb, 0, none⟩) fn fc : Value) ≠ .slice (some ⟨x, 0, none⟩) n c) → m'.get x = m.get x) (hb : (∃ n' c', (.slice (some ⟨fb, 0, none⟩) fn fc : Value) = .slice (some ⟨fb', 0, none⟩) n' c') ∨ fb' = m.next)
  {m2 : Mem} (r : Row m2 (m0.next + 1) [.slice (some ⟨b, off, none⟩) l.length cap, .slice (some ⟨m0.next + 2, 0, none⟩) l.length l.length, .slice (some ⟨m0.next + 3, 0, none⟩) l.length l.length, .slice (some ⟨fb', 0, none⟩) fn' fc', .slice (some ⟨ab, 0, none⟩) an ac, nilS] 54 0)
  (o2 : ∀ x, x ≠ m0.next + 1 → m2.get x = m'.get x) (n2 : m2.next = m'.next) : GM l b off cap m0 m2 i U Fn Ow fs' gs fb' fn' fc' ab an ac := by
 have hle : m'.next ≤ m2.next := by rw [n2]; exact Nat.le_refl _
 have st : ∀ {x : Nat} {L : List Value} {e : Nat}, Row m x L e 0 → XG m0.next x → x ≠ m0.next + 1 → Row m2 x L e 0 := fun h hx hne => (h.stay k (.inl hx)).keep hle (o2 _ hne)
 have kk : Keep (fun c => c < m0.next) [3, 54, 95] m m' := (k.sub (X' := XG m0.next) fun b hb => ⟨by omega, by omega, by omega⟩).mono (by simp)
 have sA1 : Sl (XG m0.next) m' (.slice (some ⟨ab, 0, none⟩) an ac) 3 1 gs := M.sA.keep k.1 fun b n c e => by
  cases e
  exact o _ M.sA.notX.2 fun n c e => by cases e; exact M.ne rfl
 refine ⟨(M.k.trans kk).trans (Keep.row (M.r3.stay k (.inl ⟨by omega, by omega, by omega⟩)) (by omega) (by simp) o2 n2), by rw [n2]; exact Nat.le_trans M.nx k.1, st M.r2 ⟨by omega, by omega, by omega⟩ (by omega), r, st M.rU ⟨by omega, by omega, by omega⟩ (by omega), st M.rF ⟨by omega, by omega, by omega⟩ (by omega), st M.rO ⟨by omega, by omega, by omega⟩ (by omega), sl_other s ⟨by omega, by omega, by omega⟩ n2 o2, sl_other sA1 ⟨by omega, by omega, by omega⟩ n2 o2, ?_⟩
 rcases hb with ⟨n', c', e⟩ | e
 ·cases e; exact M.ne
 ·have := M.sA.notX.2; omega
theorem GM.appA (M : GM l b off cap m0 m i U Fn Ow fs gs fb fn fc ab an ac) {gs' : List Value} {ab' an' ac' : Nat} (s : Sl (XG m0.next) m' (.slice (some ⟨ab', 0, none⟩) an' ac') 3 1 gs') (k : Keep (XG m0.next) [3] m m')
  (o : ∀ x, x < m.next → (∀ n c, (.slice (some ⟨ab, 0, none⟩) an ac : Value) ≠ .slice (some ⟨x, 0, none⟩) n c) → m'.get x = m.get x) (hb : (∃ n' c', (.slice (some ⟨ab, 0, none⟩) an ac : Value) = .slice (some ⟨ab', 0, none⟩) n' c') ∨ ab' = m.next)
  {m2 : Mem} (r : Row m2 (m0.next + 1) [.slice (some ⟨b, off, none⟩) l.length cap, .slice (some ⟨m0.next + 2, 0, none⟩) l.length l.length, .slice (some ⟨m0.next + 3, 0, none⟩) l.length l.length, .slice (some ⟨fb, 0, none⟩) fn fc, .slice (some ⟨ab', 0, none⟩) an' ac', nilS] 54 0)
  (o2 : ∀ x, x ≠ m0.next + 1 → m2.get x = m'.get x) (n2 : m2.next = m'.next) : GM l b off cap m0 m2 i U Fn Ow fs gs' fb fn fc ab' an' ac' := by
 have hle : m'.next ≤ m2.next := by rw [n2]; exact Nat.le_refl _
 have st : ∀ {x : Nat} {L : List Value} {e : Nat}, Row m x L e 0 → XG m0.next x → x ≠ m0.next + 1 → Row m2 x L e 0 := fun h hx hne => (h.stay k (.inl hx)).keep hle (o2 _ hne)
 have kk : Keep (fun c => c < m0.next) [3, 54, 95] m m' := (k.sub (X' := XG m0.next) fun b hb => ⟨by omega, by omega, by omega⟩).mono (by simp)
 have sF1 : Sl (XG m0.next) m' (.slice (some ⟨fb, 0, none⟩) fn fc) 3 1 fs := M.sF.keep k.1 fun b n c e => by
  cases e
  exact o _ M.sF.notX.2 fun n c e => by cases e; exact M.ne rfl
 refine ⟨(M.k.trans kk).trans (Keep.row (M.r3.stay k (.inl ⟨by omega, by omega, by omega⟩)) (by omega) (by simp) o2 n2), by rw [n2]; exact Nat.le_trans M.nx k.1, st M.r2 ⟨by omega, by omega, by omega⟩ (by omega), r, st M.rU ⟨by omega, by omega, by omega⟩ (by omega), st M.rF ⟨by omega, by omega, by omega⟩ (by omega), st M.rO ⟨by omega, by omega, by omega⟩ (by omega), sl_other sF1 ⟨by omega, by omega, by omega⟩ n2 o2, sl_other s ⟨by omega, by omega, by omega⟩ n2 o2, ?_⟩
 rcases hb with ⟨n', c', e⟩ | e
 ·cases e; exact M.ne
 ·have := M.sF.notX.2; omega
end
end Go.Proofs.YtihokakelnfdgaaDoor

namespace Go.Proofs.YtihokakelnfdgaaDoor
open Go Go.Ev
set_option maxRecDepth 100000
set_option linter.unusedVariables false
set_option linter.unusedSimpArgs false
set_option pp.maxSteps 1500
attribute [local irreducible] quiet allocs effect wp ret wpO Runs Act.tmp Act.eval fin results Tree.set binOp loadAt storeAt target wanted cellsFrom

set_option maxHeartbeats 4000000 in
theorem kids34f (b off cap : Nat) (l : List Nd) (hpos : ∀ x ∈ l, 0 ≤ x.n ∧ x.n ≤ 9223372036854775807) (hl : l.length ≤ 100000) (at_ k : Nat) (m : Mem) (hlt : at_ < l.length) (hN : Nodes m b off l) (hbn : b < m.next) (hD : D (l.drop at_) 1 = some k) :
  Runs evEnv 20 [.slice (some ⟨b, off, none⟩) l.length cap, .int .i64 at_] m fun v m' => Grow m m' ∧ Ints m' v (kidsP l l[at_].n.toNat (at_ + 1)) ∧ (∀ kb c n, v = .slice (some ⟨kb, 0, none⟩) n c → m.next ≤ kb) := by
 have hx : ∀ m', Grow m m' → loadAt evEnv m' 3 b (off + at_ * 5 + 1) = some (.int .i64 l[at_].n) := fun m' g => (hN.grow hbn g).n at_ hlt
 obtain ⟨hk1, hk2, hDk⟩ := D_kids hlt hD
 obtain ⟨n0, n1⟩ := hpos l[at_] (List.getElem_mem hlt)
 generalize l[at_] = x at hx hDk n0 n1
 refine runs_start rfl rfl rfl rfl ?_
 (repeat (first | (apply G.h; constructor <;> (first | exact Zc | apply gI | ((repeat' (first | exact Y0 | apply Y1 | ((first | apply Y4 | apply Y5); simp only [evs, Nat.reduceEqDiff, reduceIte] <;> rfl))); done) | (apply Y6; (try simp only [evs]); first | rfl)))))
 refine ewp_loop (ι := Nat × Nat × List Nat × Value × Mem) (fun i a => a.n = 30 ∧ a.defers = [] ∧ a.m = i.2.2.2.2 ∧ Grow m i.2.2.2.2 ∧ a.tmp 0 = .slice (some ⟨b, off, none⟩) l.length cap ∧ a.tmp 1 = .int .i64 at_ ∧ a.tmp 5 = i.2.2.2.1 ∧ a.tmp 6 = .int .i64 i.2.1 ∧ a.tmp 7 = .int .i64 i.1 ∧
  Ints i.2.2.2.2 i.2.2.2.1 i.2.2.1 ∧ (∀ kb c n, i.2.2.2.1 = .slice (some ⟨kb, 0, none⟩) n c → m.next ≤ kb) ∧ i.2.2.1.length = i.1 ∧ (i.1 : Int) ≤ x.n ∧ i.1 + at_ < i.2.1 ∧ i.2.1 ≤ l.length ∧ (∃ r, D (l.drop i.2.1) (x.n.toNat - i.1) = some r) ∧ kidsP l x.n.toNat (at_ + 1) = i.2.2.1 ++ kidsP l (x.n.toNat - i.1) i.2.1) (fun i => x.n.toNat - i.1) (0, at_ + 1, [], .slice none 0 0, m) ?_ ?_
 ·refine ⟨by (simp only [evs, Nat.reduceEqDiff, reduceIte] <;> first | rfl | (congr 1; omega) | omega), by (simp only [evs, Nat.reduceEqDiff, reduceIte] <;> first | rfl | (congr 1; omega) | omega), by (simp only [evs, Nat.reduceEqDiff, reduceIte] <;> first | rfl | (congr 1; omega) | omega), Grow.refl m, by (simp only [evs, Nat.reduceEqDiff, reduceIte] <;> first | rfl | (congr 1; omega) | omega), by (simp only [evs, Nat.reduceEqDiff, reduceIte] <;> first | rfl | (congr 1; omega) | omega), by (simp only [evs, Nat.reduceEqDiff, reduceIte] <;> first | rfl | (congr 1; omega) | omega), by (simp only [evs, Nat.reduceEqDiff, reduceIte] <;> first | rfl | (congr 1; omega) | omega), by (simp only [evs, Nat.reduceEqDiff, reduceIte] <;> first | rfl | (congr 1; omega) | omega), .inl ⟨rfl, rfl⟩, ?_, rfl, n0, ?_, hlt, ⟨k - 1, by simpa using hDk⟩, by simp⟩
  ·intro kb c n h; cases h
  ·simp only; omega
 rintro ⟨i, p, ps, v, mi⟩ a ⟨hn, hd2, hm, hg, t0, t1, t5, t6, t7, hv, hkb, hlen, hi, hp1, hp2, ⟨r, hr⟩, hks⟩ ih
 simp only at hn hd2 hm hg t0 t1 t5 t6 t7 hv hkb hlen hi hp1 hp2 hr hks ih
 have hxi := hx mi hg
 rcases Int.lt_or_le (i : Int) x.n with hin | hin
 ·rw [show x.n.toNat - i = (x.n.toNat - (i + 1)) + 1 by omega] at hr hks
  obtain ⟨q1, q2, e1, e2, e3, e4, e5, e6⟩ := D_next hr
  obtain ⟨v', m', a1, a2, a3, a4⟩ := (hv.new (rowObj [.int .i64 (p : Nat)] 3 0)).push hkb (hg.new _) (by omega) p
  (repeat (first | (apply G.h; constructor <;> (first | exact Zc | apply gI | ((repeat' (first | exact Y0 | apply Y1 | ((first | apply Y4 | apply Y5); simp only [evs, Nat.reduceEqDiff, reduceIte, hn, hd2, hm, t0, t1, t5, t6, t7] <;> rfl))); done) | (apply Y6; (try simp only [evs, hn, hd2, hm, t0, t1, t5, t6, t7]); first | exact hxi)))))
  apply ewpO_append
  focus exact want_none
  focus rfl
  focus rfl
  focus rfl
  focus rfl
  focus rfl
  focus rfl
  focus rfl
  focus rfl
  focus rfl
  focus (simp only [evs, Nat.reduceEqDiff, reduceIte, hn, hd2, hm, t0, t1, t5, t6, t7] <;> rfl)
  focus (simp only [evs, Nat.reduceEqDiff, reduceIte, hn, hd2, hm, t0, t1, t5, t6, t7] <;> rfl)
  focus (simp only [evs, hm]; exact cellsIn_row (kc := 1) (new := [.int .i64 (p : Nat)]) (row_new _ _ _ _) (Nat.le_refl 1) rfl)
  focus (simp only [evs, hm]; exact a1)
  focus (simp only [evs, hn]; rfl)
  (repeat (first | (apply G.h; constructor <;> (first | exact Zc | apply gI | ((repeat' (first | exact Y0 | apply Y1 | ((first | apply Y4 | apply Y5); simp only [evs, Nat.reduceEqDiff, reduceIte, hn, hd2, hm, t0, t1, t5, t6, t7] <;> rfl))); done) | (apply Y6; (try simp only [evs, hn, hd2, hm, t0, t1, t5, t6, t7]); first | rfl)))))
  ((first | apply g_run | apply g_run0) <;> (first | ((repeat' (first | exact Y0 | apply Y1 | exact Y2 | apply Y3 | ((first | apply Y4 | apply Y5); simp only [evs, Nat.reduceEqDiff, reduceIte, hn, hd2, hm, t0, t1, t5, t6, t7] <;> rfl))); done) | exact Rn.mk (behind66 b off cap l hpos hl _ p q1 _ (Nat.le_refl _) e5 (by simp only [evs]; exact hN.grow hbn a4) e1) | apply Cn.mk))
  rintro v2 m2 ⟨rfl, rfl⟩
  (repeat (first | (apply G.h; constructor <;> (first | exact Zc | apply gI | ((repeat' (first | exact Y0 | apply Y1 | ((first | apply Y4 | apply Y5); simp only [evs, Nat.reduceEqDiff, reduceIte, hn, hd2, hm, t0, t1, t5, t6, t7] <;> rfl))); done) | (apply Y6; (try simp only [evs, hn, hd2, hm, t0, t1, t5, t6, t7]); first | rfl)))))
  refine ih (i + 1, p + q1, ps ++ [p], v', m') _ ?_ (by simp only; omega)
  refine ⟨by (simp only [evs, Nat.reduceEqDiff, reduceIte, hn] <;> first | rfl | (congr 1; omega) | omega), by (simp only [evs, Nat.reduceEqDiff, reduceIte, hd2] <;> first | rfl | (congr 1; omega) | omega), by (simp only [evs, Nat.reduceEqDiff, reduceIte, hm] <;> first | rfl | (congr 1; omega) | omega), a4, by (simp only [evs, Nat.reduceEqDiff, reduceIte, t0] <;> first | rfl | (congr 1; omega) | omega), by (simp only [evs, Nat.reduceEqDiff, reduceIte, t1] <;> first | rfl | (congr 1; omega) | omega), by (simp only [evs, Nat.reduceEqDiff, reduceIte, t5] <;> first | rfl | (congr 1; omega) | omega), by (simp only [evs, Nat.reduceEqDiff, reduceIte, t6] <;> first | rfl | (congr 1; omega) | omega), by (simp only [evs, Nat.reduceEqDiff, reduceIte, t7] <;> first | rfl | (congr 1; omega) | omega), a2, a3, by simp [hlen], by simp only; omega, by simp only; omega, e6, ⟨q2, e2⟩, ?_⟩
  rw [hks, kidsP, e1]
  simp
 ·rw [show x.n.toNat - i = 0 by omega, kidsP, List.append_nil] at hks
  (repeat (first | (apply G.h; constructor <;> (first | exact Zc | apply gI | ((repeat' (first | exact Y0 | apply Y1 | ((first | apply Y4 | apply Y5); simp only [evs, Nat.reduceEqDiff, reduceIte, hn, hd2, hm, t0, t1, t5, t6, t7] <;> rfl))); done) | (apply Y6; (try simp only [evs, hn, hd2, hm, t0, t1, t5, t6, t7]); first | exact hxi)))))
  (refine g_fin (by repeat' first | exact Rs.nil | apply Rs.cons | (apply Y4; simp only [evs, Nat.reduceEqDiff, reduceIte, hn, hd2, hm, t0, t1, t5, t6, t7] <;> rfl)) (by (simp only [evs, Nat.reduceEqDiff, reduceIte, hn, hd2, hm, t0, t1, t5, t6, t7] <;> first | rfl | (congr 1; omega) | omega)) ?_)
  refine ⟨by simp only [evs, hm]; exact hg, ?_⟩
  rw [hks]
  simp only [evs, hm]
  exact ⟨hv, hkb⟩
theorem Ints.other {m m' : Mem} {v : Value} {ps : List Nat} (h : Ints m v ps) {z : Nat} (hk : ∀ kb c n, v = .slice (some ⟨kb, 0, none⟩) n c → z < kb) (hn : m'.next = m.next) (ho : ∀ x, x ≠ z → m'.get x = m.get x) : Ints m' v ps := by
 rcases h with h | ⟨kb, cap, r, e1, e2, e3⟩
 ·exact .inl h
 ·exact .inr ⟨kb, cap, r, e1, e2.keep (by rw [hn]; exact Nat.le_refl _) (ho _ (by have := hk kb _ _ e1; omega)), e3⟩
end Go.Proofs.YtihokakelnfdgaaDoor
