/- Part of a verified evaluator of the model's programs and of runs by it: SZ4. -/
import Derived.Test.YtihokakelnfdgaaDoorSR
import Derived.Test.YtihokakelnfdgaaDoorSP
namespace Go.Ev
open Go
section
variable {E : Env} {k : List Kont} {a : Act} {Q : Ex → Act → Prop}
theorem cutR {ex : Ex} (P : Act → Prop) (h : P a) (h2 : ∀ a', P a' → ret E k ex a' Q) : ret E k ex a Q := h2 a h
theorem cutO {all l : List Oper} (P : Act → Prop) (h : P a) (h2 : ∀ a', P a' → wpO E all l k a' Q) : wpO E all l k a Q := h2 a h
end
end Go.Ev
namespace Go.Proofs.YtihokakelnfdgaaDoor
open Go Go.Ev
set_option maxRecDepth 100000
set_option linter.unusedVariables false
set_option linter.unusedSimpArgs false
set_option pp.maxSteps 1500
attribute [local irreducible] quiet allocs effect wp ret wpO Runs Act.tmp Act.eval fin results Tree.set binOp loadAt storeAt target wanted cellsFrom

theorem right6_nil (sl : Option Addr) (cap : Nat) (m : Mem) : Runs evEnv 6 [.slice sl 0 cap] m fun v _ => v = .bool true := by
 refine runs_start rfl rfl rfl rfl ?_
 (repeat (first | apply wpN_cons | apply g_next | (apply G.h; constructor <;> (first | exact Zc | apply gI | ((repeat' (first | exact Y0 | apply Y1 | ((first | apply Y4 | apply Y5); simp only [evs, Nat.reduceEqDiff, reduceIte] <;> rfl))); done) | (apply Y6; (try simp only [evs]); first | rfl)))))
 ((first | apply g_run | apply g_run0) <;> (first | ((repeat' (first | exact Y0 | apply Y1 | exact Y2 | apply Y3 | ((first | apply Y4 | apply Y5); simp only [evs, Nat.reduceEqDiff, reduceIte] <;> rfl))); done) | exact Rn.mk (resolve12_nil sl cap _) | apply Cn.mk))
 rintro v m2 ⟨rfl, gr⟩
 have hz := row_new m2 [nilS, nilS, nilS] 31 0
 (repeat (first | apply wpN_cons | apply g_next | (apply G.h; constructor <;> (first | exact Zc | apply gI | ((repeat' (first | exact Y0 | apply Y1 | ((first | apply Y4 | apply Y5); simp only [evs, Nat.reduceEqDiff, reduceIte] <;> rfl))); done) | (apply Y6; (try simp only [evs]); first | rfl)))))
 (apply g_stR <;> (first | exact Zc | apply gI | ((repeat' (first | exact Y0 | apply Y1 | exact Y2 | apply Y3 | ((first | apply Y4 | apply Y5); simp only [evs, Nat.reduceEqDiff, reduceIte] <;> rfl))); done) | (apply Hy.mk; (try simp only [evs]); first | exact hz | assumption) | (apply Om.mk; first | exact hz) | (apply Y6; (try simp only [evs]); first | rfl) | apply Cn.mk))
 intro m3 r3 o3 n3; simp only [evs] at r3 o3 n3
 (repeat (first | apply wpN_cons | apply g_next | (apply G.h; constructor <;> (first | exact Zc | apply gI | ((repeat' (first | exact Y0 | apply Y1 | ((first | apply Y4 | apply Y5); simp only [evs, Nat.reduceEqDiff, reduceIte] <;> rfl))); done) | (apply Y6; (try simp only [evs]); first | rfl)))))
 ((first | apply g_run | apply g_run0) <;> (first | ((repeat' (first | exact Y0 | apply Y1 | exact Y2 | apply Y3 | ((first | apply Y4 | apply Y5); simp only [evs, Nat.reduceEqDiff, reduceIte] <;> rfl))); done) | exact Rn.mk (num15 6 _) | apply Cn.mk))
 rintro v m4 ⟨rfl, rfl⟩
 (repeat (first | apply wpN_cons | apply g_next | (apply G.h; constructor <;> (first | exact Zc | apply gI | ((repeat' (first | exact Y0 | apply Y1 | ((first | apply Y4 | apply Y5); simp only [evs, Nat.reduceEqDiff, reduceIte] <;> rfl))); done) | (apply Y6; (try simp only [evs]); first | exact r3.load1 rfl rfl rfl)))))
 ((first | apply g_run | apply g_run0) <;> (first | ((repeat' (first | exact Y0 | apply Y1 | exact Y2 | apply Y3 | ((first | apply Y4 | apply Y5); simp only [evs, Nat.reduceEqDiff, reduceIte] <;> rfl))); done) | exact Rn.mk (live10 _) | apply Cn.mk))
 rintro v m5 ⟨rfl, rfl⟩
 (repeat (first | apply wpN_cons | apply g_next | (apply G.h; constructor <;> (first | exact Zc | apply gI | ((repeat' (first | exact Y0 | apply Y1 | ((first | apply Y4 | apply Y5); simp only [evs, Nat.reduceEqDiff, reduceIte] <;> rfl))); done) | (apply Y6; (try simp only [evs]); first | rfl)))))
 (refine g_fin (by repeat' first | exact Rs.nil | apply Rs.cons | (apply Y4; simp only [evs, Nat.reduceEqDiff, reduceIte] <;> rfl)) (by (simp only [evs, Nat.reduceEqDiff, reduceIte] <;> first | rfl | (congr 1; omega) | omega)) ?_)
 rfl
theorem right6_long (sl : Option Addr) (n cap : Nat) (hn : 400 < n) (hn2 : n ≤ 9223372036854775807) (m : Mem) : Runs evEnv 6 [.slice sl n cap] m fun v _ => v = .bool true := by
 refine runs_start rfl rfl rfl rfl ?_
 (repeat (first | apply wpN_cons | apply g_next | (apply G.h; constructor <;> (first | exact Zc | apply gI | ((repeat' (first | exact Y0 | apply Y1 | ((first | apply Y4 | apply Y5); simp only [evs, Nat.reduceEqDiff, reduceIte] <;> rfl))); done) | (apply Y6; (try simp only [evs]); first | rfl)))))
 ((first | apply g_run | apply g_run0) <;> (first | ((repeat' (first | exact Y0 | apply Y1 | exact Y2 | apply Y3 | ((first | apply Y4 | apply Y5); simp only [evs, Nat.reduceEqDiff, reduceIte] <;> rfl))); done) | exact Rn.mk (live10 _) | apply Cn.mk))
 rintro v m5 ⟨rfl, rfl⟩
 (repeat (first | apply wpN_cons | apply g_next | (apply G.h; constructor <;> (first | exact Zc | apply gI | ((repeat' (first | exact Y0 | apply Y1 | ((first | apply Y4 | apply Y5); simp only [evs, Nat.reduceEqDiff, reduceIte] <;> rfl))); done) | (apply Y6; (try simp only [evs]); first | rfl)))))
 (refine g_fin (by repeat' first | exact Rs.nil | apply Rs.cons | (apply Y4; simp only [evs, Nat.reduceEqDiff, reduceIte] <;> rfl)) (by (simp only [evs, Nat.reduceEqDiff, reduceIte] <;> first | rfl | (congr 1; omega) | omega)) ?_)
 rfl

set_option maxHeartbeats 8000000 in
theorem right6 (b off cap : Nat) (l : List Nd) (hok : ∀ x ∈ l, x.ok ∧ x.text.length ≤ 9223372036854775807) (hl : l.length ≤ 400) (hne : l ≠ []) (m : Mem) (hN : Nodes m b off l) (hNm : Names m) (hbn : b < m.next) (h0 : 0 < m.next) :
  Runs evEnv 6 [.slice (some ⟨b, off, none⟩) l.length cap] m fun v _ => v = .bool true := by
 have hpos : 0 < l.length := List.length_pos_iff.2 hne
 refine runs_start rfl rfl rfl rfl ?_
 (repeat (first | apply wpN_cons | apply g_next | (apply G.h; constructor <;> (first | exact Zc | apply gI | ((repeat' (first | exact Y0 | apply Y1 | ((first | apply Y4 | apply Y5); simp only [evs, Nat.reduceEqDiff, reduceIte] <;> rfl))); done) | (apply Y6; (try simp only [evs]); first | rfl)))))
 ((first | apply g_run | apply g_run0) <;> (first | ((repeat' (first | exact Y0 | apply Y1 | exact Y2 | apply Y3 | ((first | apply Y4 | apply Y5); simp only [evs, Nat.reduceEqDiff, reduceIte] <;> rfl))); done) | exact Rn.mk (resolve12 b off cap l hok hl hne _ (by simp only [evs]; exact hN) (by simp only [evs]; exact hNm) (by simp only [evs]; exact hbn) (by simp only [evs]; exact h0)) | apply Cn.mk))
 rintro v m2 ⟨k2, hres⟩
 try simp only [evs] at k2
 have hN2 : Nodes m2 b off l := hN.stay (X := fun c => c < m.next) hbn hbn k2
 have hbn2 : b < m2.next := Nat.lt_of_lt_of_le hbn k2.1
 rcases hres with ⟨hp, e, he, rfl⟩ | ⟨hp, ⟨he, rfl⟩ | ⟨he, fv, uv, gv, cvs, rfl, sf, cf, su, sg⟩⟩
 ·have hz := row_new m2 [nilS, nilS, nilS] 31 0
  (repeat (first | apply wpN_cons | apply g_next | (apply G.h; constructor <;> (first | exact Zc | apply gI | ((repeat' (first | exact Y0 | apply Y1 | ((first | apply Y4 | apply Y5); simp only [evs, Nat.reduceEqDiff, reduceIte] <;> rfl))); done) | (apply Y6; (try simp only [evs]); first | rfl)))))
  (apply g_stR <;> (first | exact Zc | apply gI | ((repeat' (first | exact Y0 | apply Y1 | exact Y2 | apply Y3 | ((first | apply Y4 | apply Y5); simp only [evs, Nat.reduceEqDiff, reduceIte] <;> rfl))); done) | (apply Hy.mk; (try simp only [evs]); first | exact hz | assumption) | (apply Om.mk; first | exact hz) | (apply Y6; (try simp only [evs]); first | rfl) | apply Cn.mk))
  intro m3 r3 o3 n3; simp only [evs] at r3 o3 n3
  (repeat (first | apply wpN_cons | apply g_next | (apply G.h; constructor <;> (first | exact Zc | apply gI | ((repeat' (first | exact Y0 | apply Y1 | ((first | apply Y4 | apply Y5); simp only [evs, Nat.reduceEqDiff, reduceIte] <;> rfl))); done) | (apply Y6; (try simp only [evs]); first | rfl)))))
  ((first | apply g_run | apply g_run0) <;> (first | ((repeat' (first | exact Y0 | apply Y1 | exact Y2 | apply Y3 | ((first | apply Y4 | apply Y5); simp only [evs, Nat.reduceEqDiff, reduceIte] <;> rfl))); done) | exact Rn.mk (num15 e _) | apply Cn.mk))
  rintro v m4 ⟨rfl, rfl⟩
  (repeat (first | apply wpN_cons | apply g_next | (apply G.h; constructor <;> (first | exact Zc | apply gI | ((repeat' (first | exact Y0 | apply Y1 | ((first | apply Y4 | apply Y5); simp only [evs, Nat.reduceEqDiff, reduceIte] <;> rfl))); done) | (apply Y6; (try simp only [evs]); first | exact r3.load1 rfl rfl rfl)))))
  ((first | apply g_run | apply g_run0) <;> (first | ((repeat' (first | exact Y0 | apply Y1 | exact Y2 | apply Y3 | ((first | apply Y4 | apply Y5); simp only [evs, Nat.reduceEqDiff, reduceIte] <;> rfl))); done) | exact Rn.mk (live10 _) | apply Cn.mk))
  rintro v m5 ⟨rfl, rfl⟩
  (repeat (first | apply wpN_cons | apply g_next | (apply G.h; constructor <;> (first | exact Zc | apply gI | ((repeat' (first | exact Y0 | apply Y1 | ((first | apply Y4 | apply Y5); simp only [evs, Nat.reduceEqDiff, reduceIte] <;> rfl))); done) | (apply Y6; (try simp only [evs]); first | rfl)))))
  (refine g_fin (by repeat' first | exact Rs.nil | apply Rs.cons | (apply Y4; simp only [evs, Nat.reduceEqDiff, reduceIte] <;> rfl)) (by (simp only [evs, Nat.reduceEqDiff, reduceIte] <;> first | rfl | (congr 1; omega) | omega)) ?_)
  rfl
 ·generalize walked l = W at he
  have hz := row_new m2 [nilS, nilS, nilS] 31 0
  (repeat (first | apply wpN_cons | apply g_next | (apply G.h; constructor <;> (first | exact Zc | apply gI | ((repeat' (first | exact Y0 | apply Y1 | ((first | apply Y4 | apply Y5); simp only [evs, Nat.reduceEqDiff, reduceIte] <;> rfl))); done) | (apply Y6; (try simp only [evs]); first | rfl)))))
  (apply g_stR <;> (first | exact Zc | apply gI | ((repeat' (first | exact Y0 | apply Y1 | exact Y2 | apply Y3 | ((first | apply Y4 | apply Y5); simp only [evs, Nat.reduceEqDiff, reduceIte] <;> rfl))); done) | (apply Hy.mk; (try simp only [evs]); first | exact hz | assumption) | (apply Om.mk; first | exact hz) | (apply Y6; (try simp only [evs]); first | rfl) | apply Cn.mk))
  intro m3 r3 o3 n3; simp only [evs] at r3 o3 n3
  (repeat (first | apply wpN_cons | apply g_next | (apply G.h; constructor <;> (first | exact Zc | apply gI | ((repeat' (first | exact Y0 | apply Y1 | ((first | apply Y4 | apply Y5); simp only [evs, Nat.reduceEqDiff, reduceIte] <;> rfl))); done) | (apply Y6; (try simp only [evs]); first | rfl)))))
  ((first | apply g_run | apply g_run0) <;> (first | ((repeat' (first | exact Y0 | apply Y1 | exact Y2 | apply Y3 | ((first | apply Y4 | apply Y5); simp only [evs, Nat.reduceEqDiff, reduceIte] <;> rfl))); done) | exact Rn.mk (num15 W.e _) | apply Cn.mk))
  rintro v m4 ⟨rfl, rfl⟩
  (repeat (first | apply wpN_cons | apply g_next | (apply G.h; constructor <;> (first | exact Zc | apply gI | ((repeat' (first | exact Y0 | apply Y1 | ((first | apply Y4 | apply Y5); simp only [evs, Nat.reduceEqDiff, reduceIte] <;> rfl))); done) | (apply Y6; (try simp only [evs]); first | exact r3.load1 rfl rfl rfl)))))
  ((first | apply g_run | apply g_run0) <;> (first | ((repeat' (first | exact Y0 | apply Y1 | exact Y2 | apply Y3 | ((first | apply Y4 | apply Y5); simp only [evs, Nat.reduceEqDiff, reduceIte] <;> rfl))); done) | exact Rn.mk (live10 _) | apply Cn.mk))
  rintro v m5 ⟨rfl, rfl⟩
  (repeat (first | apply wpN_cons | apply g_next | (apply G.h; constructor <;> (first | exact Zc | apply gI | ((repeat' (first | exact Y0 | apply Y1 | ((first | apply Y4 | apply Y5); simp only [evs, Nat.reduceEqDiff, reduceIte] <;> rfl))); done) | (apply Y6; (try simp only [evs]); first | rfl)))))
  (refine g_fin (by repeat' first | exact Rs.nil | apply Rs.cons | (apply Y4; simp only [evs, Nat.reduceEqDiff, reduceIte] <;> rfl)) (by (simp only [evs, Nat.reduceEqDiff, reduceIte] <;> first | rfl | (congr 1; omega) | omega)) ?_)
  rfl
 have P := okProg_prg hp
 obtain ⟨w1, -, w3, w4⟩ := walked_globals hp hl hpos he
 have hI := walked_inv hp hl hpos
 have hR := fun {F : Nat → Nat} (K : Kd l F) => walked_right hp hl hpos he K
 generalize walked l = W at he w1 w3 w4 hI hR sf cf su sg
 have hmu : W.means.length = W.uses.length := by rw [hI.means, hI.uses]
 have hus : (finish W.decls W.means W.uses).length = l.length := by
  rw [finish_zip _ _ _ hmu, List.length_zipWith, hI.means, hI.uses]; omega
 have hus2 := fun {F : Nat → Nat} {tot : Nat} (j : J F tot W) {q : Nat} {u : Nat × Nat} => finish_right (l := l) j hmu (q := q) (u := u)
 generalize finish W.decls W.means W.uses = us at hus hus2 su
 obtain ⟨fa, fc, rfl⟩ := Sl.form2 sf (by decide) (encFns_len cvs W.funs cf.1)
 obtain ⟨ua, uc, rfl⟩ := Sl.form2 su (by decide) (encPs_len us)
 obtain ⟨ga, gc, rfl⟩ := Sl.form2 (n := W.globals.length) sg (by decide) (by simp)
 have hgl := hI.globals
 have htot : ((tops l).filter (isDecl l)).length = W.globals.length := by rw [w1, List.length_map]
 generalize hgs : W.globals = gs at sg hgl htot
 have hz := row_new m2 [nilS, nilS, nilS] 31 0
 (repeat (first | apply wpN_cons | apply g_next | (apply G.h; constructor <;> (first | exact Zc | apply gI | ((repeat' (first | exact Y0 | apply Y1 | ((first | apply Y4 | apply Y5); simp only [evs, Nat.reduceEqDiff, reduceIte] <;> rfl))); done) | (apply Y6; (try simp only [evs]); first | rfl)))))
 (apply g_stR <;> (first | exact Zc | apply gI | ((repeat' (first | exact Y0 | apply Y1 | exact Y2 | apply Y3 | ((first | apply Y4 | apply Y5); simp only [evs, Nat.reduceEqDiff, reduceIte] <;> rfl))); done) | (apply Hy.mk; (try simp only [evs]); first | exact hz | assumption) | (apply Om.mk; first | exact hz) | (apply Y6; (try simp only [evs]); first | rfl) | apply Cn.mk))
 intro m3 r3 o3 n3; simp only [evs] at r3 o3 n3
 replace r3 : Row m3 m2.next [.slice fa W.funs.length fc, .slice ua us.length uc, .slice ga gs.length gc] 31 0 := r3
 have gr3 : Grow m2 m3 := ((Grow.refl m2).new _).wrote (Nat.le_refl _) o3 n3
 have hm23 : m2.next < m3.next := by rw [n3]; exact Nat.lt_succ_self _
 have hN3 := hN2.grow hbn2 gr3
 have hb3 := Nat.lt_of_lt_of_le hbn2 gr3.1
 have sf3 := sf.grow gr3
 have su3 := su.grow gr3
 have cf3 : CapsR _ m3 cvs W.funs := ⟨cf.1, fun i cv f x y => (cf.2.1 i cv f x y).grow gr3, cf.2.2⟩
 have hG := grow19 b off cap l hok hl hne P m3 hN3 hb3
 (repeat (first | apply wpN_cons | apply g_next | (apply G.h; constructor <;> (first | exact Zc | apply gI | ((repeat' (first | exact Y0 | apply Y1 | ((first | apply Y4 | apply Y5); simp only [evs, Nat.reduceEqDiff, reduceIte] <;> rfl))); done) | (apply Y6; (try simp only [evs]); first | rfl)))))
 ((first | apply g_run | apply g_run0) <;> (first | ((repeat' (first | exact Y0 | apply Y1 | exact Y2 | apply Y3 | ((first | apply Y4 | apply Y5); simp only [evs, Nat.reduceEqDiff, reduceIte] <;> rfl))); done) | exact Rn.mk (num15 0 _) | apply Cn.mk))
 rintro v m4 ⟨rfl, rfl⟩
 (repeat (first | apply wpN_cons | apply g_next | (apply G.h; constructor <;> (first | exact Zc | apply gI | ((repeat' (first | exact Y0 | apply Y1 | ((first | apply Y4 | apply Y5); simp only [evs, Nat.reduceEqDiff, reduceIte] <;> rfl))); done) | (apply Y6; (try simp only [evs]); first | rfl)))))
 ((first | apply g_run | apply g_run0) <;> (first | ((repeat' (first | exact Y0 | apply Y1 | exact Y2 | apply Y3 | ((first | apply Y4 | apply Y5); simp only [evs, Nat.reduceEqDiff, reduceIte] <;> rfl))); done) | exact Rn.mk ((by simp only [evs]; exact hG)) | apply Cn.mk))
 rintro v m5 ⟨k5, U, Fv, Ow, fb, fn, fc2, ab, an, ac, da, dn, dc, Gg, rU, rF, sFs, sAb, rfl⟩
 clear hG
 try simp only [evs] at k5
 have hfn : fn = W.funs.length := by
  obtain ⟨x1, x2, x3, x4, x5⟩ := Sl.form sFs (by decide)
  cases x4
  rw [fsL_len] at x5
  have := congrArg List.length w3
  unfold fnK at this
  rw [List.length_map, List.length_cons] at this
  omega
 subst hfn
 have K := Gg.kd P
 have j := hR K
 clear hR
 have hz6 := row_new m5 [nilS, nilS, nilS, nilS, nilS, nilS] 54 0
 (repeat (first | apply wpN_cons | apply g_next | (apply G.h; constructor <;> (first | exact Zc | apply gI | ((repeat' (first | exact Y0 | apply Y1 | ((first | apply Y4 | apply Y5); simp only [evs, Nat.reduceEqDiff, reduceIte] <;> rfl))); done) | (apply Y6; (try simp only [evs]); first | rfl)))))
 (apply g_stR <;> (first | exact Zc | apply gI | ((repeat' (first | exact Y0 | apply Y1 | exact Y2 | apply Y3 | ((first | apply Y4 | apply Y5); simp only [evs, Nat.reduceEqDiff, reduceIte] <;> rfl))); done) | (apply Hy.mk; (try simp only [evs]); first | exact hz6 | assumption) | (apply Om.mk; first | exact hz6) | (apply Y6; (try simp only [evs]); first | rfl) | apply Cn.mk))
 intro m6 r6 o6 n6; simp only [evs] at r6 o6 n6
 replace r6 : Row m6 m5.next [.slice (some ⟨b, off, none⟩) l.length cap, .slice (some ⟨m3.next + 2, 0, none⟩) l.length l.length, .slice (some ⟨m3.next + 3, 0, none⟩) l.length l.length, .slice (some ⟨fb, 0, none⟩) W.funs.length fc2, .slice (some ⟨ab, 0, none⟩) an ac, .slice da dn dc] 54 0 := r6
 have g6 : Grow m5 m6 := ((Grow.refl m5).new _).wrote (Nat.le_refl _) o6 n6
 have k36 : Keep (fun c => c < m3.next) [3, 54, 95] m3 m6 := k5.trans (Keep.grow g6)
 have r36 := r3.stay k36 (.inl hm23)
 have sf6 := sf3.held k36
 have su6 := su3.held k36
 have cf6 : ∀ (i : Nat) (cv : Value) (f : Fn), cvs[i]? = some cv → W.funs[i]? = some f → Sl _ m6 cv 59 2 (encPs f.caps) := fun i cv f x y => (cf3.2.1 i cv f x y).held k36
 have rU6 := rU.grow g6
 have rF6 := rF.grow g6
 have sA6 := sAb.grow g6
 have hN6 : Nodes m6 b off l := hN3.stay (X := fun c => c < m3.next) hb3 hb3 k36
 have hb6 := Nat.lt_of_lt_of_le hb3 k36.1
 (repeat (first | apply wpN_cons | apply g_next | (apply G.h; constructor <;> (first | exact Zc | apply gI | ((repeat' (first | exact Y0 | apply Y1 | ((first | apply Y4 | apply Y5); simp only [evs, Nat.reduceEqDiff, reduceIte] <;> rfl))); done) | (apply Y6; (try simp only [evs]); first | exact r36.load1 rfl rfl rfl | exact r6.load1 rfl rfl rfl)))))
 have hnf : W.funs.length = (fnL l 0 l.length).length + 1 := by
  have := congrArg List.length w3
  unfold fnK at this
  rw [List.length_map, List.length_cons] at this
  exact this
 have hnfb : W.funs.length ≤ 401 := by have := fnL_le l l.length; omega
 have hcl : ∀ f (hf : f < W.funs.length), W.funs[f].caps.length ≤ 400000 := fun f hf => Nat.le_trans (hI.caps _ (List.getElem_mem hf)) (by omega)
 have hsl : ∀ f (hf : f < W.funs.length), W.funs[f].slots ≤ 801 := fun f hf => hI.slots _ (List.getElem_mem hf)
 refine ewp_loop (ι := Nat) (fun i a => (a.n = 226 ∧ a.defers = [] ∧ a.tmp 0 = .slice (some ⟨b, off, none⟩) l.length cap ∧ a.tmp 3 = ptr m2.next ∧ a.tmp 6 = ptr m5.next ∧ a.tmp 7 = I i) ∧ Grow m6 a.m ∧ i ≤ l.length) (fun i => l.length - i) 0 ?_ ?_
 ·exact ⟨(by refine ⟨?_, ?_, ?_, ?_, ?_, ?_⟩ <;> (simp only [evs, Nat.reduceEqDiff, reduceIte] <;> first | rfl | (congr 1; omega) | omega)), by simp only [evs]; exact Grow.refl _, Nat.zero_le _⟩
 rintro i a ⟨⟨qn, qd, q0, q3, q6, q7⟩, gr, hi⟩ ih
 rcases Nat.lt_or_ge i l.length with hlt | hge
 ·obtain ⟨f, hf, hf2, -⟩ := Gg.own i hlt
  have hff : f < W.funs.length := by have := fnL_mono l hi; omega
  obtain ⟨u0, hu0⟩ : ∃ u, U[i]? = some u := ⟨_, List.getElem?_eq_getElem (by rw [Gg.ul]; exact hlt)⟩
  have hul : u0 < l.length := by have := Gg.ub i u0 hu0; omega
  have hui : i < us.length := by omega
  have hur := hus2 j (List.getElem?_eq_getElem hui)
  rw [htot] at hur
  simp only [hf, Option.getD_some] at hur
  have e1 : slotsOf W.funs f = W.funs[f].slots := by unfold slotsOf; rw [List.getElem?_eq_getElem hff]
  have e2 : capsOf W.funs f = W.funs[f].caps := by unfold capsOf; rw [List.getElem?_eq_getElem hff]
  rw [e1, e2, hgs] at hur
  have hcb := hcl f hff
  have hsb := hsl f hff
  obtain ⟨b1, c1, f1, l1⟩ := Sl.use (su6.grow gr) hui
  cases f1
  have s1 := cf6 f _ _ (List.getElem?_eq_getElem (by rw [cf.1]; exact hff)) (List.getElem?_eq_getElem hff)
  obtain ⟨ca, cc, hck⟩ := Sl.form2 s1 (by decide) (encPs_len _)
  (repeat (first | apply wpN_cons | apply g_next | (apply G.h; constructor <;> (first | exact Zc | apply gI | ((repeat' (first | exact Y0 | apply Y1 | ((first | apply Y4 | apply Y5); simp only [evs, Nat.reduceEqDiff, reduceIte, qn, qd, q0, q3, q6, q7] <;> rfl))); done) | (apply Y6; (try simp only [evs, qn, qd, q0, q3, q6, q7]); first | exact (r36.grow gr).load1 rfl rfl rfl | exact l1)))))
  have z8 := row_new a.m [I 0, I 0] 57 0
  (apply g_stR <;> (first | exact Zc | apply gI | ((repeat' (first | exact Y0 | apply Y1 | exact Y2 | apply Y3 | ((first | apply Y4 | apply Y5); simp only [evs, Nat.reduceEqDiff, reduceIte, qn, qd, q0, q3, q6, q7] <;> rfl))); done) | (apply Hy.mk; (try simp only [evs, qn, qd, q0, q3, q6, q7]); first | exact z8 | assumption) | (apply Om.mk; first | exact z8) | (apply Y6; (try simp only [evs, qn, qd, q0, q3, q6, q7]); first | rfl) | apply Cn.mk))
  intro m7 r7 o7 n7; simp only [evs, qn, qd, q0, q3, q6, q7] at r7 o7 n7
  replace r7 : Row m7 a.m.next [I us[i].1, I us[i].2] 57 0 := r7
  have g7 : Grow m6 m7 := gr.trans (((Grow.refl a.m).new _).wrote (Nat.le_refl _) o7 n7)
  have g7x : Grow m6 (m7.new (rowObj [I 0, I 0, I 0, nilS] 49 0)) := g7.new _
  obtain ⟨b2, c2, f2, l2⟩ := Sl.fnl sf6 cf.1 hff
  cases f2
  have hl2 : ∀ m', Grow m6 m' → loadAt evEnv m' 49 b2 (0 + f * 4) = some (.agg ⟨[I W.funs[f].node, I W.funs[f].params, I W.funs[f].slots, .slice ca W.funs[f].caps.length cc]⟩) := fun m' g => by
   obtain ⟨b', c', e', l'⟩ := Sl.fnl (sf6.grow g) cf.1 hff
   cases e'
   rw [hck] at l'
   exact l'
  clear l2
  generalize us[i] = u at hur r7
  generalize W.funs[f] = fn at hur hl2 s1 hck hcb hsb
  (repeat (first | apply wpN_cons | apply g_next | (apply G.h; constructor <;> (first | exact Zc | apply gI | ((repeat' (first | exact Y0 | apply Y1 | ((first | apply Y4 | apply Y5); simp only [evs, Nat.reduceEqDiff, reduceIte, qn, qd, q0, q3, q6, q7] <;> rfl))); done) | (apply Y6; (try simp only [evs, qn, qd, q0, q3, q6, q7]); first | rfl)))))
  (apply g_regionN [9, 0, 1, 2, 3, 4, 5, 6, 7, 8, 10] []; (focus exact Kr.mk (by kernel_rfl)); (focus exact Rf.mk))
  (repeat (first | apply wpN_cons | apply g_next | (apply G.h; constructor <;> (first | exact Zc | apply gI | ((repeat' (first | exact Y0 | apply Y1 | ((first | apply Y4 | apply Y5); simp only [evs, Nat.reduceEqDiff, reduceIte, qn, qd, q0, q3, q6, q7] <;> rfl))); done) | (apply Y6; (try simp only [evs, qn, qd, q0, q3, q6, q7]); first | exact (r36.grow g7x).load1 rfl rfl rfl | exact (r6.grow g7x).load1 rfl rfl rfl | exact row_int (rF6.grow g7x) hf | exact hl2 _ g7x)))))
  have z9 := row_new m7 [I 0, I 0, I 0, nilS] 49 0
  (apply g_stR <;> (first | exact Zc | apply gI | ((repeat' (first | exact Y0 | apply Y1 | exact Y2 | apply Y3 | ((first | apply Y4 | apply Y5); simp only [evs, Nat.reduceEqDiff, reduceIte, qn, qd, q0, q3, q6, q7] <;> rfl))); done) | (apply Hy.mk; (try simp only [evs, qn, qd, q0, q3, q6, q7]); first | exact z9 | assumption) | (apply Om.mk; first | exact z9) | (apply Y6; (try simp only [evs, qn, qd, q0, q3, q6, q7]); first | rfl) | apply Cn.mk))
  intro m8 r8 o8 n8; simp only [evs, qn, qd, q0, q3, q6, q7] at r8 o8 n8
  replace r8 : Row m8 m7.next [I fn.node, I fn.params, I fn.slots, .slice ca fn.caps.length cc] 49 0 := r8
  have g78 : Grow m7 m8 := ((Grow.refl m7).new _).wrote (Nat.le_refl _) o8 n8
  have g8 : Grow m6 m8 := g7.trans g78
  have r78 := r7.grow g78
  have hn8 : a.m.next < m7.next := r7.1
  (repeat (first | apply wpN_cons | apply g_next | (apply G.h; constructor <;> (first | exact Zc | apply gI | ((repeat' (first | exact Y0 | apply Y1 | ((first | apply Y4 | apply Y5); simp only [evs, Nat.reduceEqDiff, reduceIte, qn, qd, q0, q3, q6, q7] <;> rfl))); done) | (apply Y6; (try simp only [evs, qn, qd, q0, q3, q6, q7]); first | rfl)))))
  refine g_last (.mk trivial) ?_
  have hkn := (hN6.grow hb6 g8).kind i hlt
  have hku := (hN6.grow hb6 g8).kind u0 hul
  generalize l[i].kind = kd at hkn
  generalize l[u0].kind = ku at hku
  refine cutR (fun a' => (a'.n = 226 ∧ a'.defers = [] ∧ a'.tmp 0 = .slice (some ⟨b, off, none⟩) l.length cap ∧ a'.tmp 3 = ptr m2.next ∧ a'.tmp 6 = ptr m5.next ∧ a'.tmp 7 = I i ∧ a'.tmp 8 = ptr a.m.next ∧ a'.tmp 9 = ptr m7.next) ∧ a'.m = m8) ⟨(by refine ⟨?_, ?_, ?_, ?_, ?_, ?_, ?_, ?_⟩ <;> (simp only [evs, Nat.reduceEqDiff, reduceIte, qn, qd, q0, q3, q6, q7] <;> first | rfl | (congr 1; omega) | omega)), by (simp only [evs, Nat.reduceEqDiff, reduceIte] <;> first | rfl | (congr 1; omega) | omega)⟩ ?_
  clear qn qd q0 q3 q6 q7 z8 z9 o7 n7 o8 n8 l1 k36 k5
  rintro a' ⟨⟨pn, pd, p0, p3, p6, p7, p8, p9⟩, pm⟩
  rcases (show kd ≠ 19 ∨ (kd = 19 ∧ ku ≠ 12 ∧ ku ≠ 31) ∨ (kd = 19 ∧ (ku = 12 ∨ (ku ≠ 12 ∧ ku = 31))) by omega) with hk | ⟨hk, hk12, hk31⟩ | ⟨hk, hk12⟩
  case' inr.inr =>
   rcases hk12 with hk12 | ⟨hk12, hk31⟩
   all_goals
    (repeat (first | apply wpN_cons | apply g_next | (apply G.h; constructor <;> (first | exact Zc | apply gI | ((repeat' (first | exact Y0 | apply Y1 | ((first | apply Y4 | apply Y5); simp only [evs, Nat.reduceEqDiff, reduceIte, pn, pd, p0, p3, p6, p7, p8, p9, pm] <;> rfl))); done) | (apply Y6; (try simp only [evs, pn, pd, p0, p3, p6, p7, p8, p9, pm]); first | exact hkn | exact hku | exact (r36.grow g8).load1 rfl rfl rfl | exact (r6.grow g8).load1 rfl rfl rfl | exact row_int (rF6.grow g8) hf | exact row_int (rU6.grow g8) hu0 | exact hl2 _ g8)))))
    (apply g_stR <;> (first | exact Zc | apply gI | ((repeat' (first | exact Y0 | apply Y1 | exact Y2 | apply Y3 | ((first | apply Y4 | apply Y5); simp only [evs, Nat.reduceEqDiff, reduceIte, pn, pd, p0, p3, p6, p7, p8, p9, pm] <;> rfl))); done) | (apply Hy.mk; (try simp only [evs, pn, pd, p0, p3, p6, p7, p8, p9, pm]); first | exact r8 | assumption) | (apply Om.mk; first | exact r8) | (apply Y6; (try simp only [evs, pn, pd, p0, p3, p6, p7, p8, p9, pm]); first | rfl) | apply Cn.mk))
    intro m9 r9 o9 n9; simp only [evs, pn, pd, p0, p3, p6, p7, p8, p9, pm] at r9 o9 n9
    replace r9 : Row m9 m7.next [I fn.node, I fn.params, I fn.slots, .slice ca fn.caps.length cc] 49 0 := r9
    have r79 := r78.keep (m' := m9) (by rw [n9]; exact Nat.le_refl _) (o9 _ (Nat.ne_of_lt hn8))
    have g9 := g8.wrote (b := m7.next) g7.1 o9 n9
    (repeat (first | apply wpN_cons | apply g_next | (apply G.h; constructor <;> (first | exact Zc | apply gI | ((repeat' (first | exact Y0 | apply Y1 | ((first | apply Y4 | apply Y5); simp only [evs, Nat.reduceEqDiff, reduceIte, pn, pd, p0, p3, p6, p7, p8, p9] <;> rfl))); done) | (apply Y6; (try simp only [evs, pn, pd, p0, p3, p6, p7, p8, p9]); first | exact r9.load1 rfl rfl rfl | exact (r36.grow g9).load1 rfl rfl rfl)))))
  case' inl =>
   obtain ⟨m9, rfl⟩ : ∃ x, x = m8 := ⟨_, rfl⟩
   have r9 := r8
   have r79 := r78
   have g9 := g8
   (repeat (first | apply wpN_cons | apply g_next | (apply G.h; constructor <;> (first | exact Zc | apply gI | ((repeat' (first | exact Y0 | apply Y1 | ((first | apply Y4 | apply Y5); simp only [evs, Nat.reduceEqDiff, reduceIte, pn, pd, p0, p3, p6, p7, p8, p9, pm] <;> rfl))); done) | (apply Y6; (try simp only [evs, pn, pd, p0, p3, p6, p7, p8, p9, pm]); first | exact hkn | exact r9.load1 rfl rfl rfl | exact (r36.grow g9).load1 rfl rfl rfl)))))
  case' inr.inl =>
   obtain ⟨m9, rfl⟩ : ∃ x, x = m8 := ⟨_, rfl⟩
   have r9 := r8
   have r79 := r78
   have g9 := g8
   (repeat (first | apply wpN_cons | apply g_next | (apply G.h; constructor <;> (first | exact Zc | apply gI | ((repeat' (first | exact Y0 | apply Y1 | ((first | apply Y4 | apply Y5); simp only [evs, Nat.reduceEqDiff, reduceIte, pn, pd, p0, p3, p6, p7, p8, p9, pm] <;> rfl))); done) | (apply Y6; (try simp only [evs, pn, pd, p0, p3, p6, p7, p8, p9, pm]); first | exact hkn | exact hku | exact r9.load1 rfl rfl rfl | exact (r36.grow g9).load1 rfl rfl rfl | exact (r6.grow g9).load1 rfl rfl rfl | exact row_int (rU6.grow g9) hu0)))))
  all_goals
   have rM := row_new m9 [I 1, I fn.slots, I fn.slots, I fn.caps.length, I gs.length, I 30] 3 0
   have r7M := r79.keep_new (rowObj [I 1, I fn.slots, I fn.slots, I fn.caps.length, I gs.length, I 30] 3 0)
   have gM : Grow m6 (m9.new (rowObj [I 1, I fn.slots, I fn.slots, I fn.caps.length, I gs.length, I 30] 3 0)) := g9.new _
   refine cutO (fun a' => (a'.n = 226 ∧ a'.defers = [] ∧ a'.tmp 0 = .slice (some ⟨b, off, none⟩) l.length cap ∧ a'.tmp 3 = ptr m2.next ∧ a'.tmp 6 = ptr m5.next ∧ a'.tmp 7 = I i ∧ a'.tmp 8 = ptr a.m.next ∧ a'.tmp 10 = .slice (some ⟨m9.next, 0, none⟩) 6 6 ∧ a'.tmp 138 = ptr a.m.next) ∧ a'.m = m9.new (rowObj [I 1, I fn.slots, I fn.slots, I fn.caps.length, I gs.length, I 30] 3 0)) ⟨(by refine ⟨?_, ?_, ?_, ?_, ?_, ?_, ?_, ?_, ?_⟩ <;> (simp only [evs, Nat.reduceEqDiff, reduceIte, pn, pd, p0, p3, p6, p7, p8, p9] <;> first | rfl | (congr 1; omega) | omega)), by (simp only [evs, Nat.reduceEqDiff, reduceIte, pm] <;> first | rfl | (congr 1; omega) | omega)⟩ ?_
   generalize m9.new (rowObj [I 1, I fn.slots, I fn.slots, I fn.caps.length, I gs.length, I 30] 3 0) = mM at rM r7M gM
   clear pn pd p0 p3 p6 p7 p8 p9 pm hkn hku
   rintro a2 ⟨⟨vn, vd, v0, v3, v6, v7, v8, v10, v138⟩, vm⟩
   obtain ⟨uw, un⟩ := u
   simp only at hur r7M
   rcases hur with ⟨rfl, rfl⟩ | ⟨rfl | rfl, hun⟩ | ⟨rfl, hun⟩ | ⟨rfl, hun⟩ | ⟨rfl, hun⟩
   all_goals
    (repeat (first | apply wpN_cons | apply g_next | (apply G.h; constructor <;> (first | exact Zc | apply gI | ((repeat' (first | exact Y0 | apply Y1 | ((first | apply Y4 | apply Y5); simp only [evs, Nat.reduceEqDiff, reduceIte, vn, vd, v0, v3, v6, v7, v8, v10, v138, vm] <;> rfl))); done) | (apply Y6; (try simp only [evs, vn, vd, v0, v3, v6, v7, v8, v10, v138, vm]); first | exact r7M.load1 rfl rfl rfl | exact rM.load1 rfl rfl rfl)))))
    refine ih (i + 1) _ ⟨(by refine ⟨?_, ?_, ?_, ?_, ?_, ?_⟩ <;> (simp only [evs, Nat.reduceEqDiff, reduceIte, vn, vd, v0, v3, v6, v7, v8, v10, v138] <;> first | rfl | (congr 1; omega) | omega)), by simp only [evs, vm]; exact gM, hlt⟩ (by omega)
 obtain rfl : i = l.length := by omega
 (repeat (first | apply wpN_cons | apply g_next | (apply G.h; constructor <;> (first | exact Zc | apply gI | ((repeat' (first | exact Y0 | apply Y1 | ((first | apply Y4 | apply Y5); simp only [evs, Nat.reduceEqDiff, reduceIte, qn, qd, q0, q3, q6, q7] <;> rfl))); done) | (apply Y6; (try simp only [evs, qn, qd, q0, q3, q6, q7]); first | rfl)))))
 refine ewp_loop (ι := Nat) (fun i a => (a.n = 226 ∧ a.defers = [] ∧ a.tmp 3 = ptr m2.next ∧ a.tmp 6 = ptr m5.next ∧ a.tmp 11 = I i) ∧ Grow m6 a.m ∧ 1 ≤ i ∧ i ≤ W.funs.length) (fun i => W.funs.length - i) 1 ?_ ?_
 ·exact ⟨(by refine ⟨?_, ?_, ?_, ?_, ?_⟩ <;> (simp only [evs, Nat.reduceEqDiff, reduceIte, qn, qd, q0, q3, q6, q7] <;> first | rfl | (congr 1; omega) | omega)), by simp only [evs]; exact gr, Nat.le_refl _, by omega⟩
 clear ih qn qd q0 q3 q6 q7 hi hge
 clear gr
 clear a
 rintro i a ⟨⟨wn, wd, w3', w6, w11⟩, gr, hi1, hi⟩ ih
 rcases Nat.lt_or_ge i W.funs.length with hlt | hge
 ·have hcap3 : ∃ b2 c2, .slice fa W.funs.length fc = Value.slice (some ⟨b2, 0, none⟩) W.funs.length c2 ∧ ∀ m', Grow m6 m' → loadAt evEnv m' 47 b2 (0 + i * 4 + 3) = some (cvs[i]'(by rw [cf.1]; exact hlt)) := by
   obtain ⟨b2, c2, f2, -⟩ := Sl.cap3 sf6 cf.1 hlt
   cases f2
   refine ⟨b2, _, rfl, fun m' g => ?_⟩
   obtain ⟨b', c', e', l'⟩ := Sl.cap3 (sf6.grow g) cf.1 hlt
   cases e'
   exact l'
  obtain ⟨b2, c2, f2, hl3⟩ := hcap3
  cases f2
  have s1 := cf6 i _ _ (List.getElem?_eq_getElem (by rw [cf.1]; exact hlt)) (List.getElem?_eq_getElem hlt)
  obtain ⟨ca, cc, hck⟩ := Sl.form2 s1 (by decide) (encPs_len _)
  rw [hck] at hl3 s1
  have hnode : ∃ x, (fnL l 0 l.length)[i - 1]? = some x ∧ W.funs[i].node = x.1 := by
   have h1 : (fnK W)[i]? = some (W.funs[i].node, W.funs[i].params) := by unfold fnK; rw [List.getElem?_map, List.getElem?_eq_getElem hlt]; rfl
   obtain ⟨y, hy⟩ : ∃ y, y = (W.funs[i].node, W.funs[i].params) := ⟨_, rfl⟩
   rw [← hy, w3, show i = (i - 1) + 1 by omega, List.getElem?_cons_succ] at h1
   exact ⟨y, h1, by rw [hy]⟩
  obtain ⟨x, hx1, hx2⟩ := hnode
  have hxl := fnL_lt x (List.mem_of_getElem? hx1)
  obtain ⟨f, hf, hf2, -⟩ := Gg.own x.1 hxl
  have hff : f < W.funs.length := by have := fnL_mono l (Nat.le_of_lt hxl); omega
  have hab : (abL l Fv l.length)[i]? = some (I (f : Nat)) := by
   unfold abL
   rw [show i = (i - 1) + 1 by omega, List.getElem?_cons_succ, List.getElem?_map, hx1]
   simp only [Option.map_some, hf, Option.getD_some]
  have hno : nodeOf W i = x.1 := by unfold nodeOf; rw [List.getElem?_eq_getElem hlt]; exact hx2
  have hcp := j.cp i
  rw [hno] at hcp
  simp only [hf, Option.getD_some] at hcp
  have e1 : slotsOf W.funs f = W.funs[f].slots := by unfold slotsOf; rw [List.getElem?_eq_getElem hff]
  have e2 : capsOf W.funs f = W.funs[f].caps := by unfold capsOf; rw [List.getElem?_eq_getElem hff]
  have e3 : capsOf W.funs i = W.funs[i].caps := by unfold capsOf; rw [List.getElem?_eq_getElem hlt]
  rw [e1, e2, e3] at hcp
  have hcb := hcl i hlt
  have hcb2 := hcl f hff
  have hsb := hsl f hff
  have hl2 : ∃ ca2 cc2, ∀ m', Grow m6 m' → loadAt evEnv m' 49 b2 (0 + f * 4) = some (.agg ⟨[I W.funs[f].node, I W.funs[f].params, I W.funs[f].slots, .slice ca2 W.funs[f].caps.length cc2]⟩) := by
   have s2 := cf6 f _ _ (List.getElem?_eq_getElem (by rw [cf.1]; exact hff)) (List.getElem?_eq_getElem hff)
   obtain ⟨ca2, cc2, hck2⟩ := Sl.form2 s2 (by decide) (encPs_len _)
   refine ⟨ca2, cc2, fun m' g => ?_⟩
   obtain ⟨b', c', e', l'⟩ := Sl.fnl (sf6.grow g) cf.1 hff
   cases e'
   rw [hck2] at l'
   exact l'
  obtain ⟨ca2, cc2, hl2⟩ := hl2
  have hlA : ∀ m', Grow m6 m' → loadAt evEnv m' 3 ab (0 + i * 1) = some (I (f : Nat)) := fun m' g => by
   obtain ⟨b', cap', r', n', y1, y2, y3, y4, y5, y6, y7⟩ := (sA6.grow g).at (i := i) (by have := (List.getElem?_eq_some_iff.1 hab).1; exact this)
   cases y1
   refine y3.load1 rfl rfl ?_
   rw [show 0 + i * 1 = i by omega, y7, hab]
  have hai : i < an := by
   obtain ⟨x1, x2, x3, x4, x5⟩ := Sl.form sA6 (by decide)
   cases x4
   have := (List.getElem?_eq_some_iff.1 hab).1
   omega
  generalize W.funs[f] = fn at hcp hl2 hcb2 hsb
  generalize W.funs[i] = fi at hcp hl3 hcb s1 hck hx2 e3
  (repeat (first | apply wpN_cons | apply g_next | (apply G.h; constructor <;> (first | exact Zc | apply gI | ((repeat' (first | exact Y0 | apply Y1 | ((first | apply Y4 | apply Y5); simp only [evs, Nat.reduceEqDiff, reduceIte, wn, wd, w3', w6, w11] <;> rfl))); done) | (apply Y6; (try simp only [evs, wn, wd, w3', w6, w11]); first | exact (r36.grow gr).load1 rfl rfl rfl)))))
  refine ewp_loop (ι := Nat) (fun k a => (a.n = 226 ∧ a.defers = [] ∧ a.tmp 3 = ptr m2.next ∧ a.tmp 6 = ptr m5.next ∧ a.tmp 11 = I i ∧ a.tmp 12 = I k) ∧ Grow m6 a.m ∧ k ≤ fi.caps.length) (fun k => fi.caps.length - k) 0 ?_ ?_
  ·exact ⟨(by refine ⟨?_, ?_, ?_, ?_, ?_, ?_⟩ <;> (simp only [evs, Nat.reduceEqDiff, reduceIte, wn, wd, w3', w6, w11] <;> first | rfl | (congr 1; omega) | omega)), by simp only [evs]; exact gr, Nat.zero_le _⟩
  clear wn wd w3' w6 w11 gr
  clear a
  rintro k a ⟨⟨xn, xd, x3, x6, x11, x12⟩, gr, hk⟩ ihk
  rcases Nat.lt_or_ge k fi.caps.length with hkl | hkg
  ·obtain ⟨p1, q1, f1, lk⟩ := Sl.use9 (s1.grow gr) hkl
   cases f1
   have hcpk := hcp _ (List.getElem_mem hkl)
   generalize fi.caps[k] = cp at hcpk lk
   (repeat (first | apply wpN_cons | apply g_next | (apply G.h; constructor <;> (first | exact Zc | apply gI | ((repeat' (first | exact Y0 | apply Y1 | ((first | apply Y4 | apply Y5); simp only [evs, Nat.reduceEqDiff, reduceIte, xn, xd, x3, x6, x11, x12] <;> rfl))); done) | (apply Y6; (try simp only [evs, xn, xd, x3, x6, x11, x12]); first | exact (r36.grow gr).load1 rfl rfl rfl | exact hl3 _ gr | exact lk)))))
   have z8 := row_new a.m [I 0, I 0] 59 0
   (apply g_stR <;> (first | exact Zc | apply gI | ((repeat' (first | exact Y0 | apply Y1 | exact Y2 | apply Y3 | ((first | apply Y4 | apply Y5); simp only [evs, Nat.reduceEqDiff, reduceIte, xn, xd, x3, x6, x11, x12] <;> rfl))); done) | (apply Hy.mk; (try simp only [evs, xn, xd, x3, x6, x11, x12]); first | exact z8 | assumption) | (apply Om.mk; first | exact z8) | (apply Y6; (try simp only [evs, xn, xd, x3, x6, x11, x12]); first | rfl) | apply Cn.mk))
   intro m7 r7 o7 n7; simp only [evs, xn, xd, x3, x6, x11, x12] at r7 o7 n7
   replace r7 : Row m7 a.m.next [I cp.1, I cp.2] 59 0 := r7
   have g7 : Grow m6 m7 := gr.trans (((Grow.refl a.m).new _).wrote (Nat.le_refl _) o7 n7)
   have g7x : Grow m6 (m7.new (rowObj [I 0, I 0, I 0, nilS] 49 0)) := g7.new _
   (repeat (first | apply wpN_cons | apply g_next | (apply G.h; constructor <;> (first | exact Zc | apply gI | ((repeat' (first | exact Y0 | apply Y1 | ((first | apply Y4 | apply Y5); simp only [evs, Nat.reduceEqDiff, reduceIte, xn, xd, x3, x6, x11, x12] <;> rfl))); done) | (apply Y6; (try simp only [evs, xn, xd, x3, x6, x11, x12]); first | rfl)))))
   (apply g_regionN [9, 0, 1, 2, 3, 4, 5, 6, 7, 8, 10] []; (focus exact Kr.mk (by kernel_rfl)); (focus exact Rf.mk))
   (repeat (first | apply wpN_cons | apply g_next | (apply G.h; constructor <;> (first | exact Zc | apply gI | ((repeat' (first | exact Y0 | apply Y1 | ((first | apply Y4 | apply Y5); simp only [evs, Nat.reduceEqDiff, reduceIte, xn, xd, x3, x6, x11, x12] <;> rfl))); done) | (apply Y6; (try simp only [evs, xn, xd, x3, x6, x11, x12]); first | exact (r36.grow g7x).load1 rfl rfl rfl | exact (r6.grow g7x).load1 rfl rfl rfl | exact hlA _ g7x | exact hl2 _ g7x)))))
   have z9 := row_new m7 [I 0, I 0, I 0, nilS] 49 0
   (apply g_stR <;> (first | exact Zc | apply gI | ((repeat' (first | exact Y0 | apply Y1 | exact Y2 | apply Y3 | ((first | apply Y4 | apply Y5); simp only [evs, Nat.reduceEqDiff, reduceIte, xn, xd, x3, x6, x11, x12] <;> rfl))); done) | (apply Hy.mk; (try simp only [evs, xn, xd, x3, x6, x11, x12]); first | exact z9 | assumption) | (apply Om.mk; first | exact z9) | (apply Y6; (try simp only [evs, xn, xd, x3, x6, x11, x12]); first | rfl) | apply Cn.mk))
   intro m8 r8 o8 n8; simp only [evs, xn, xd, x3, x6, x11, x12] at r8 o8 n8
   replace r8 : Row m8 m7.next [I fn.node, I fn.params, I fn.slots, .slice ca2 fn.caps.length cc2] 49 0 := r8
   have g78 : Grow m7 m8 := ((Grow.refl m7).new _).wrote (Nat.le_refl _) o8 n8
   have g8 : Grow m6 m8 := g7.trans g78
   have r78 := r7.grow g78
   (repeat (first | apply wpN_cons | apply g_next | (apply G.h; constructor <;> (first | exact Zc | apply gI | ((repeat' (first | exact Y0 | apply Y1 | ((first | apply Y4 | apply Y5); simp only [evs, Nat.reduceEqDiff, reduceIte, xn, xd, x3, x6, x11, x12] <;> rfl))); done) | (apply Y6; (try simp only [evs, xn, xd, x3, x6, x11, x12]); first | rfl)))))
   refine g_last (.mk trivial) ?_
   refine cutR (fun a' => (a'.n = 226 ∧ a'.defers = [] ∧ a'.tmp 3 = ptr m2.next ∧ a'.tmp 6 = ptr m5.next ∧ a'.tmp 11 = I i ∧ a'.tmp 12 = I k ∧ a'.tmp 13 = ptr a.m.next ∧ a'.tmp 14 = ptr m7.next) ∧ a'.m = m8) ⟨(by refine ⟨?_, ?_, ?_, ?_, ?_, ?_, ?_, ?_⟩ <;> (simp only [evs, Nat.reduceEqDiff, reduceIte, xn, xd, x3, x6, x11, x12] <;> first | rfl | (congr 1; omega) | omega)), by (simp only [evs, Nat.reduceEqDiff, reduceIte] <;> first | rfl | (congr 1; omega) | omega)⟩ ?_
   clear xn xd x3 x6 x11 x12 z8 z9 o7 n7 o8 n8 lk
   rintro a' ⟨⟨yn, yd, y3, y6, y11, y12, y13, y14⟩, ym⟩
   obtain ⟨cw, cn⟩ := cp
   simp only at hcpk r78
   rcases hcpk with ⟨rfl, hcn⟩ | ⟨rfl, hcn⟩
   all_goals
    (repeat (first | apply wpN_cons | apply g_next | (apply G.h; constructor <;> (first | exact Zc | apply gI | ((repeat' (first | exact Y0 | apply Y1 | ((first | apply Y4 | apply Y5); simp only [evs, Nat.reduceEqDiff, reduceIte, yn, yd, y3, y6, y11, y12, y13, y14, ym] <;> rfl))); done) | (apply Y6; (try simp only [evs, yn, yd, y3, y6, y11, y12, y13, y14, ym]); first | exact r78.load1 rfl rfl rfl | exact r8.load1 rfl rfl rfl)))))
    refine ihk (k + 1) _ ⟨(by refine ⟨?_, ?_, ?_, ?_, ?_, ?_⟩ <;> (simp only [evs, Nat.reduceEqDiff, reduceIte, yn, yd, y3, y6, y11, y12, y13, y14] <;> first | rfl | (congr 1; omega) | omega)), by simp only [evs, ym]; exact g8, hkl⟩ (by omega)
  ·obtain rfl : k = fi.caps.length := by omega
   (repeat (first | apply wpN_cons | apply g_next | (apply G.h; constructor <;> (first | exact Zc | apply gI | ((repeat' (first | exact Y0 | apply Y1 | ((first | apply Y4 | apply Y5); simp only [evs, Nat.reduceEqDiff, reduceIte, xn, xd, x3, x6, x11, x12] <;> rfl))); done) | (apply Y6; (try simp only [evs, xn, xd, x3, x6, x11, x12]); first | exact (r36.grow gr).load1 rfl rfl rfl | exact hl3 _ gr)))))
   refine ih (i + 1) _ ⟨(by refine ⟨?_, ?_, ?_, ?_, ?_⟩ <;> (simp only [evs, Nat.reduceEqDiff, reduceIte, xn, xd, x3, x6, x11, x12] <;> first | rfl | (congr 1; omega) | omega)), by simp only [evs]; exact gr, by omega, hlt⟩ (by omega)
 ·obtain rfl : i = W.funs.length := by omega
  (repeat (first | apply wpN_cons | apply g_next | (apply G.h; constructor <;> (first | exact Zc | apply gI | ((repeat' (first | exact Y0 | apply Y1 | ((first | apply Y4 | apply Y5); simp only [evs, Nat.reduceEqDiff, reduceIte, wn, wd, w3', w6, w11] <;> rfl))); done) | (apply Y6; (try simp only [evs, wn, wd, w3', w6, w11]); first | exact (r36.grow gr).load1 rfl rfl rfl)))))
  ((first | apply g_run | apply g_run0) <;> (first | ((repeat' (first | exact Y0 | apply Y1 | exact Y2 | apply Y3 | ((first | apply Y4 | apply Y5); simp only [evs, Nat.reduceEqDiff, reduceIte, wn, wd, w3', w6, w11] <;> rfl))); done) | exact Rn.mk (live10 _) | apply Cn.mk))
  rintro v m9 ⟨rfl, rfl⟩
  (repeat (first | apply wpN_cons | apply g_next | (apply G.h; constructor <;> (first | exact Zc | apply gI | ((repeat' (first | exact Y0 | apply Y1 | ((first | apply Y4 | apply Y5); simp only [evs, Nat.reduceEqDiff, reduceIte, wn, wd, w3', w6, w11] <;> rfl))); done) | (apply Y6; (try simp only [evs, wn, wd, w3', w6, w11]); first | rfl)))))
  (refine g_fin (by repeat' first | exact Rs.nil | apply Rs.cons | (apply Y4; simp only [evs, Nat.reduceEqDiff, reduceIte, wn, wd, w3', w6, w11] <;> rfl)) (by (simp only [evs, Nat.reduceEqDiff, reduceIte, wn, wd, w3', w6, w11] <;> first | rfl | (congr 1; omega) | omega)) ?_)
  rfl
end Go.Proofs.YtihokakelnfdgaaDoor
