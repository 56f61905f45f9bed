/- Part of a verified evaluator of the model's programs and of runs by it: SZ3. -/
import Derived.Test.YtihokakelnfdgaaDoorSQ
namespace Go.Ev
open Go
theorem g_fin1c {E : Env} {a : Act} {rs : List ResultVar} {Q : Value → Mem → Prop} {t0 ty b o : Nat} (v0 : Value) (hrs : rs = [.cell t0 ty]) (hd : a.defers = []) (h0 : a.tmp t0 = .pointer (some ⟨b, o, none⟩)) (hl : loadAt E a.m ty b o = some v0) (h : Q v0 a.m) : ret E [] .ret a (fin E rs Q) := by
 subst hrs
 exact eret_nil (fin_ret hd (res_cell h0 hl res_nil) h)
end Go.Ev
namespace Go.Proofs.YtihokakelnfdgaaDoor
open Go Go.Ev
set_option maxRecDepth 100000
set_option linter.unusedVariables false
set_option linter.unusedSimpArgs false
set_option pp.maxSteps 1500
attribute [local irreducible] quiet allocs effect wp ret wpO Runs Act.tmp Act.eval fin results Tree.set binOp loadAt storeAt target wanted cellsFrom

set_option maxHeartbeats 8000000 in
theorem grow19 (b off cap : Nat) (l : List Nd) (hok : ∀ x ∈ l, x.ok ∧ x.text.length ≤ 9223372036854775807) (hl : l.length ≤ 400) (hne : l ≠ []) (P : Prg l) (m : Mem) (hN : Nodes m b off l) (hbn : b < m.next) :
  Runs evEnv 19 [.slice (some ⟨b, off, none⟩) l.length cap] m fun v m' => Keep (fun c => c < m.next) [3, 54, 95] m m' ∧ ∃ U Fn Ow fb fn fc ab an ac da dn dc, Gr l l.length U Fn Ow ∧ Row m' (m.next + 2) (intsL U) 3 0 ∧ Row m' (m.next + 3) (intsL Fn) 3 0 ∧ Sl (XG m.next) m' (.slice (some ⟨fb, 0, none⟩) fn fc) 3 1 (fsL l l.length) ∧ Sl (XG m.next) m' (.slice (some ⟨ab, 0, none⟩) an ac) 3 1 (abL l Fn l.length) ∧ v = .agg ⟨[.slice (some ⟨b, off, none⟩) l.length cap, .slice (some ⟨m.next + 2, 0, none⟩) l.length l.length, .slice (some ⟨m.next + 3, 0, none⟩) l.length l.length, .slice (some ⟨fb, 0, none⟩) fn fc, .slice (some ⟨ab, 0, none⟩) an ac, .slice da dn dc]⟩ := by
 have hpos : 0 < l.length := List.length_pos_iff.2 hne
 have hn : ∀ x ∈ l, 0 ≤ x.n ∧ x.n ≤ 9223372036854775807 := fun x hx => ⟨P.pos x hx, (hok x hx).1.2.1.2⟩
 refine runs_start rfl rfl rfl rfl ?_
 (repeat (first | apply wpN_cons | apply g_next | (apply G.h; constructor <;> (first | exact Zc | apply gI | ((repeat' (first | exact Y0 | apply Y1 | ((first | apply Y4 | apply Y5); simp only [evs, Nat.reduceEqDiff, reduceIte] <;> rfl))); done) | (apply Y6; (try simp only [evs]); first | rfl)))))
 (apply g_regionN [10, 0, 1, 2, 3, 4, 5, 6, 7, 8, 9, 11] []; (focus exact Kr.mk (by kernel_rfl)); (focus exact Rf.mk))
 (repeat (first | apply wpN_cons | apply g_next | (apply G.h; constructor <;> (first | exact Zc | apply gI | ((repeat' (first | exact Y0 | apply Y1 | ((first | apply Y4 | apply Y5); simp only [evs, Nat.reduceEqDiff, reduceIte] <;> rfl))); done) | (apply Y6; (try simp only [evs]); first | rfl)))))
 (apply g_makeSlice <;> (first | exact Zc | apply gI | ((repeat' (first | exact Y0 | apply Y1 | exact Y2 | apply Y3 | ((first | apply Y4 | apply Y5); simp only [evs, Nat.reduceEqDiff, reduceIte] <;> rfl))); done) | (apply Hy.mk; (try simp only [evs]); first | fail | assumption) | (apply Om.mk; first | fail) | (apply Y6; (try simp only [evs]); first | rfl) | apply Cn.mk))
 (repeat (first | apply wpN_cons | apply g_next | (apply G.h; constructor <;> (first | exact Zc | apply gI | ((repeat' (first | exact Y0 | apply Y1 | ((first | apply Y4 | apply Y5); simp only [evs, Nat.reduceEqDiff, reduceIte] <;> rfl))); done) | (apply Y6; (try simp only [evs]); first | rfl)))))
 (apply g_makeSlice <;> (first | exact Zc | apply gI | ((repeat' (first | exact Y0 | apply Y1 | exact Y2 | apply Y3 | ((first | apply Y4 | apply Y5); simp only [evs, Nat.reduceEqDiff, reduceIte] <;> rfl))); done) | (apply Hy.mk; (try simp only [evs]); first | fail | assumption) | (apply Om.mk; first | fail) | (apply Y6; (try simp only [evs]); first | rfl) | apply Cn.mk))
 (repeat (first | apply wpN_cons | apply g_next | (apply G.h; constructor <;> (first | exact Zc | apply gI | ((repeat' (first | exact Y0 | apply Y1 | ((first | apply Y4 | apply Y5); simp only [evs, Nat.reduceEqDiff, reduceIte] <;> rfl))); done) | (apply Y6; (try simp only [evs]); first | rfl)))))
 have z2 : Row (((((((((((m.new (rowObj [nilS, nilS, nilS, nilS, nilS, nilS] 54 0))).new (rowObj [nilS, nilS, nilS, nilS, nilS, nilS] 54 0))).new (rowObj (repeatList [I 0] l.length) 3 0))).new (rowObj (repeatList [I 0] l.length) 3 0))).new (rowObj [I 0] 3 0))).new (rowObj [I (-1)] 3 0)) m.next [nilS, nilS, nilS, nilS, nilS, nilS] 54 0 := (((((row_new m [nilS, nilS, nilS, nilS, nilS, nilS] 54 0).keep_new _).keep_new _).keep_new _).keep_new _).keep_new _
 have z3 : Row (((((((((((m.new (rowObj [nilS, nilS, nilS, nilS, nilS, nilS] 54 0))).new (rowObj [nilS, nilS, nilS, nilS, nilS, nilS] 54 0))).new (rowObj (repeatList [I 0] l.length) 3 0))).new (rowObj (repeatList [I 0] l.length) 3 0))).new (rowObj [I 0] 3 0))).new (rowObj [I (-1)] 3 0)) (m.next + 1) [nilS, nilS, nilS, nilS, nilS, nilS] 54 0 := ((((row_new (m.new (rowObj [nilS, nilS, nilS, nilS, nilS, nilS] 54 0)) [nilS, nilS, nilS, nilS, nilS, nilS] 54 0).keep_new _).keep_new _).keep_new _).keep_new _
 have zU : Row (((((((((((m.new (rowObj [nilS, nilS, nilS, nilS, nilS, nilS] 54 0))).new (rowObj [nilS, nilS, nilS, nilS, nilS, nilS] 54 0))).new (rowObj (repeatList [I 0] l.length) 3 0))).new (rowObj (repeatList [I 0] l.length) 3 0))).new (rowObj [I 0] 3 0))).new (rowObj [I (-1)] 3 0)) (m.next + 2) (repeatList [I 0] l.length) 3 0 := (((row_new (((m.new (rowObj [nilS, nilS, nilS, nilS, nilS, nilS] 54 0))).new (rowObj [nilS, nilS, nilS, nilS, nilS, nilS] 54 0)) _ 3 0).keep_new _).keep_new _).keep_new _
 have zF : Row (((((((((((m.new (rowObj [nilS, nilS, nilS, nilS, nilS, nilS] 54 0))).new (rowObj [nilS, nilS, nilS, nilS, nilS, nilS] 54 0))).new (rowObj (repeatList [I 0] l.length) 3 0))).new (rowObj (repeatList [I 0] l.length) 3 0))).new (rowObj [I 0] 3 0))).new (rowObj [I (-1)] 3 0)) (m.next + 3) (repeatList [I 0] l.length) 3 0 := ((row_new (((((m.new (rowObj [nilS, nilS, nilS, nilS, nilS, nilS] 54 0))).new (rowObj [nilS, nilS, nilS, nilS, nilS, nilS] 54 0))).new (rowObj (repeatList [I 0] l.length) 3 0)) _ 3 0).keep_new _).keep_new _
 have z4 : Row (((((((((((m.new (rowObj [nilS, nilS, nilS, nilS, nilS, nilS] 54 0))).new (rowObj [nilS, nilS, nilS, nilS, nilS, nilS] 54 0))).new (rowObj (repeatList [I 0] l.length) 3 0))).new (rowObj (repeatList [I 0] l.length) 3 0))).new (rowObj [I 0] 3 0))).new (rowObj [I (-1)] 3 0)) (m.next + 4) [I 0] 3 0 := (row_new (((((((m.new (rowObj [nilS, nilS, nilS, nilS, nilS, nilS] 54 0))).new (rowObj [nilS, nilS, nilS, nilS, nilS, nilS] 54 0))).new (rowObj (repeatList [I 0] l.length) 3 0))).new (rowObj (repeatList [I 0] l.length) 3 0)) _ 3 0).keep_new _
 have z5 : Row (((((((((((m.new (rowObj [nilS, nilS, nilS, nilS, nilS, nilS] 54 0))).new (rowObj [nilS, nilS, nilS, nilS, nilS, nilS] 54 0))).new (rowObj (repeatList [I 0] l.length) 3 0))).new (rowObj (repeatList [I 0] l.length) 3 0))).new (rowObj [I 0] 3 0))).new (rowObj [I (-1)] 3 0)) (m.next + 5) [I (-1)] 3 0 := row_new (((((((((m.new (rowObj [nilS, nilS, nilS, nilS, nilS, nilS] 54 0))).new (rowObj [nilS, nilS, nilS, nilS, nilS, nilS] 54 0))).new (rowObj (repeatList [I 0] l.length) 3 0))).new (rowObj (repeatList [I 0] l.length) 3 0))).new (rowObj [I 0] 3 0)) _ 3 0
 have nF : ((((((((((((m.new (rowObj [nilS, nilS, nilS, nilS, nilS, nilS] 54 0))).new (rowObj [nilS, nilS, nilS, nilS, nilS, nilS] 54 0))).new (rowObj (repeatList [I 0] l.length) 3 0))).new (rowObj (repeatList [I 0] l.length) 3 0))).new (rowObj [I 0] 3 0))).new (rowObj [I (-1)] 3 0))).next = m.next + 6 := rfl
 (apply g_stR <;> (first | exact Zc | apply gI | ((repeat' (first | exact Y0 | apply Y1 | exact Y2 | apply Y3 | ((first | apply Y4 | apply Y5); simp only [evs, Nat.reduceEqDiff, reduceIte] <;> rfl))); done) | (apply Hy.mk; (try simp only [evs]); first | exact z3 | assumption) | (apply Om.mk; first | exact z3) | (apply Y6; (try simp only [evs]); first | rfl) | apply Cn.mk))
 intro m2 r3 o3 n3; simp only [evs] at r3 o3 n3
 have n2 : m2.next = m.next + 6 := n3
 have hz : ∀ {x : Nat} {L : List Value} {e : Nat}, x ≠ m.next + 1 → Row (((((((((((m.new (rowObj [nilS, nilS, nilS, nilS, nilS, nilS] 54 0))).new (rowObj [nilS, nilS, nilS, nilS, nilS, nilS] 54 0))).new (rowObj (repeatList [I 0] l.length) 3 0))).new (rowObj (repeatList [I 0] l.length) 3 0))).new (rowObj [I 0] 3 0))).new (rowObj [I (-1)] 3 0)) x L e 0 → Row m2 x L e 0 := fun hx h => h.keep (by rw [n3]; exact Nat.le_refl _) (o3 _ hx)
 have y2 := hz (by omega) z2
 have yU := hz (by omega) zU
 have yF := hz (by omega) zF
 have y4 := hz (by omega) z4
 have y5 := hz (by omega) z5
 have g2 : Keep (fun c => c < m.next) [3, 54, 95] m m2 := ((((((Keep.new _).trans (Keep.new _)).trans (Keep.new _)).trans (Keep.new _)).trans (Keep.new _)).trans (Keep.new _)).trans (Keep.row z3 (by omega) (by simp) o3 n3)
 rw [rep_ints] at yU yF
 (repeat (first | apply wpN_cons | apply g_next | (apply G.h; constructor <;> (first | exact Zc | apply gI | ((repeat' (first | exact Y0 | apply Y1 | ((first | apply Y4 | apply Y5); simp only [evs, Nat.reduceEqDiff, reduceIte] <;> rfl))); done) | (apply Y6; (try simp only [evs]); first | rfl)))))
 refine g_last (.mk trivial) ?_
 (repeat (first | apply wpN_cons | apply g_next | (apply G.h; constructor <;> (first | exact Zc | apply gI | ((repeat' (first | exact Y0 | apply Y1 | ((first | apply Y4 | apply Y5); simp only [evs, Nat.reduceEqDiff, reduceIte] <;> rfl))); done) | (apply Y6; (try simp only [evs]); first | rfl)))))
 (apply g_makeSlice <;> (first | exact Zc | apply gI | ((repeat' (first | exact Y0 | apply Y1 | exact Y2 | apply Y3 | ((first | apply Y4 | apply Y5); simp only [evs, Nat.reduceEqDiff, reduceIte] <;> rfl))); done) | (apply Hy.mk; (try simp only [evs]); first | fail | assumption) | (apply Om.mk; first | fail) | (apply Y6; (try simp only [evs]); first | rfl) | apply Cn.mk))
 (repeat (first | apply wpN_cons | apply g_next | (apply G.h; constructor <;> (first | exact Zc | apply gI | ((repeat' (first | exact Y0 | apply Y1 | ((first | apply Y4 | apply Y5); simp only [evs, Nat.reduceEqDiff, reduceIte] <;> rfl))); done) | (apply Y6; (try simp only [evs]); first | rfl)))))
 have yO : Row (m2.new (rowObj (repeatList [I 0] l.length) 3 0)) (m.next + 6) (intsL (List.replicate l.length 0)) 3 0 := by rw [← rep_ints, ← n2]; exact row_new m2 _ 3 0
 refine ewp_loop (ι := Nat) (fun i a => (a.n = 151 ∧ a.defers = [] ∧ a.tmp 0 = .slice (some ⟨b, off, none⟩) l.length cap ∧ a.tmp 2 = ptr m.next ∧ a.tmp 3 = ptr (m.next + 1) ∧ a.tmp 4 = .slice (some ⟨m.next + 6, 0, none⟩) l.length l.length ∧ a.tmp 5 = I i) ∧ i ≤ l.length ∧ ∃ U Fn Ow fb fn fc ab an ac, Gr l i U Fn Ow ∧ GM l b off cap m a.m i U Fn Ow (fsL l i) (abL l Fn i) fb fn fc ab an ac) (fun i => l.length - i) 0 ?_ ?_
 ·refine ⟨(by refine ⟨?_, ?_, ?_, ?_, ?_, ?_, ?_⟩ <;> (simp only [evs, Nat.reduceEqDiff, reduceIte, n2] <;> first | rfl | (congr 1; omega) | omega)), Nat.zero_le _, _, _, _, m.next + 4, 1, 1, m.next + 5, 1, 1, Gr.start hpos, ?_⟩
  refine ⟨by simp only [evs]; exact g2.trans (Keep.new _), by simp only [evs, next_new]; omega, by simp only [evs]; exact y2.keep_new _, by simp only [evs]; exact r3.keep_new _, by simp only [evs]; exact yU.keep_new _, by simp only [evs]; exact yF.keep_new _, by simp only [evs]; exact yO, ?_, ?_, by omega⟩
  ·simp only [evs]
   exact .inr ⟨m.next + 4, 1, [I 0], 1, rfl, fun h => h.2.1 rfl, y4.keep_new _, rfl, Nat.le_refl _, rfl⟩
  ·simp only [evs]
   exact .inr ⟨m.next + 5, 1, [I (-1)], 1, rfl, fun h => h.2.2 rfl, y5.keep_new _, rfl, Nat.le_refl _, rfl⟩
 clear z2 z3 zU zF z4 z5 y2 yU yF y4 y5 g2 yO hz r3 o3 n3 n2 nF
 rintro i a ⟨⟨qn, qd, q0, q2, q3, q4, q5⟩, hi, U, Fn, Ow, fb, fn, fc, ab, an, ac, Gg, M⟩ ih
 rcases Nat.lt_or_ge i l.length with hlt | hge
 ·have hfnl := fnL_le l i
  have hFi : i < Fn.length := by rw [Gg.fl]; exact hlt
  have hOi : i < Ow.length := by rw [Gg.ol]; exact hlt
  obtain ⟨u0, hUi⟩ : ∃ u, U[i]? = some u := ⟨_, List.getElem?_eq_getElem (by rw [Gg.ul]; exact hlt)⟩
  obtain ⟨f, hf, hfb⟩ : ∃ f, ((i = 0 ∧ f = 0) ∨ (0 < i ∧ ∃ u, U[i]? = some u ∧ Ow[u]? = some f)) ∧ f ≤ 401 := by
   rcases Nat.eq_zero_or_pos i with h0 | h0
   ·exact ⟨0, .inl ⟨h0, rfl⟩, by omega⟩
   ·have hub := Gg.ub i _ hUi
    have hul : u0 < i := by omega
    obtain ⟨f, f1, f2, f3⟩ := Gg.own _ hul
    exact ⟨_, .inr ⟨h0, _, hUi, f3⟩, Nat.le_trans (own_le (l := l) hul f2) (by omega)⟩
  have GN := Gg.next P hlt hf
  have hset0 : i = 0 → Fn.set i f = Fn := fun h0 => by
   subst h0
   have f0 : f = 0 := by rcases hf with ⟨-, h⟩ | ⟨h, -⟩; exact h; omega
   subst f0
   have := Gg.zero
   apply List.ext_getElem?
   intro j
   rw [List.getElem?_set]
   by_cases h : 0 = j
   ·subst h; rw [if_pos rfl, if_pos hFi]; exact this.symm
   ·rw [if_neg h]
  have hFf : (Fn.set i f)[i]? = some f := List.getElem?_set_self hFi
  have hOl : 0 + i * 1 + 1 ≤ (intsL Ow).length := by rw [intsL_len]; omega
  rcases (show i = 0 ∨ 0 < i by omega) with h0 | h0
  case' inl =>
   have M1 := M
   have hab : abL l Fn i = abL l (Fn.set i f) i := (abL_set l Fn i f).symm
   rw [hab] at M1
   have hF' := hset0 h0
   generalize Fn.set i f = Fn' at M1 hFf GN hF' hab
   subst hF'
  case' inr =>
   obtain ⟨u, hu, ho⟩ : ∃ u, U[i]? = some u ∧ Ow[u]? = some f := by rcases hf with ⟨h, -⟩ | ⟨-, h⟩; omega; exact h
   have hul : u < l.length := by have := Gg.ub i u hu; omega
   have hFl : 0 + i * 1 + 1 ≤ (intsL Fn).length := by rw [intsL_len]; omega
   have rF := M.rF
   (repeat (first | apply wpN_cons | apply g_next | (apply G.h; constructor <;> (first | exact Zc | apply gI | ((repeat' (first | exact Y0 | apply Y1 | ((first | apply Y4 | apply Y5); simp only [evs, Nat.reduceEqDiff, reduceIte, qn, qd, q0, q2, q3, q4, q5] <;> rfl))); done) | (apply Y6; (try simp only [evs, qn, qd, q0, q2, q3, q4, q5]); first | exact M.r3.load1 rfl rfl rfl | exact row_int M.rU hu | exact row_int M.rO ho)))))
   (apply g_stR <;> (first | exact Zc | apply gI | ((repeat' (first | exact Y0 | apply Y1 | exact Y2 | apply Y3 | ((first | apply Y4 | apply Y5); simp only [evs, Nat.reduceEqDiff, reduceIte, qn, qd, q0, q2, q3, q4, q5] <;> rfl))); done) | (apply Hy.mk; (try simp only [evs, qn, qd, q0, q2, q3, q4, q5]); first | exact rF | exact hFl | assumption) | (apply Om.mk; first | exact rF | exact hFl) | (apply Y6; (try simp only [evs, qn, qd, q0, q2, q3, q4, q5]); first | rfl) | apply Cn.mk))
   intro m1 rF1 o1 n1; simp only [evs, qn, qd, q0, q2, q3, q4, q5] at rF1 o1 n1
   replace rF1 : Row m1 (m.next + 3) (intsL (Fn.set i f)) 3 0 := by rw [← intsL_set]; exact rF1
   have M1 := M.setF rF1 o1 n1
   rw [← abL_set l Fn i f] at M1
   generalize Fn.set i f = Fn' at M1 hFf GN rF1
  all_goals
   (repeat (first | apply wpN_cons | apply g_next | (apply G.h; constructor <;> (first | exact Zc | apply gI | ((repeat' (first | exact Y0 | apply Y1 | ((first | apply Y4 | apply Y5); simp only [evs, Nat.reduceEqDiff, reduceIte, qn, qd, q0, q2, q3, q4, q5] <;> rfl))); done) | (apply Y6; (try simp only [evs, qn, qd, q0, q2, q3, q4, q5]); first | exact M1.r3.load1 rfl rfl rfl | exact row_int M1.rF hFf)))))
   have rO1 := M1.rO
   (apply g_stR <;> (first | exact Zc | apply gI | ((repeat' (first | exact Y0 | apply Y1 | exact Y2 | apply Y3 | ((first | apply Y4 | apply Y5); simp only [evs, Nat.reduceEqDiff, reduceIte, qn, qd, q0, q2, q3, q4, q5] <;> rfl))); done) | (apply Hy.mk; (try simp only [evs, qn, qd, q0, q2, q3, q4, q5]); first | exact rO1 | exact hOl | assumption) | (apply Om.mk; first | exact rO1 | exact hOl) | (apply Y6; (try simp only [evs, qn, qd, q0, q2, q3, q4, q5]); first | rfl) | apply Cn.mk))
   intro m2 rO2 o2 n2; simp only [evs, qn, qd, q0, q2, q3, q4, q5] at rO2 o2 n2
   replace rO2 : Row m2 (m.next + 6) (intsL (Ow.set i f)) 3 0 := by rw [← intsL_set]; exact rO2
   have M2 := M1.setO rO2 o2 n2
   have hkn := (hN.stay (X := fun c => c < m.next) hbn hbn M2.k).kind i hlt
   have hisf : isFnAt l i = decide (l[i].kind = 12 ∨ l[i].kind = 31) := by unfold isFnAt; rw [List.getElem?_eq_getElem hlt]
   have hfn : fn = (fnL l 0 i).length + 1 := by
    obtain ⟨x1, x2, x3, x4, x5⟩ := Sl.form M2.sF (by decide)
    cases x4; rw [fsL_len] at x5; omega
   generalize l[i].kind = kd at hkn hisf
   by_cases hfk : kd = 12 ∨ kd = 31
   case' pos =>
    rw [decide_eq_true hfk] at hisf
    have hOl2 : 0 + i * 1 + 1 ≤ (intsL (Ow.set i f)).length := by rw [intsL_len, List.length_set]; omega
    rcases (show kd = 12 ∨ (kd ≠ 12 ∧ kd = 31) by omega) with h12 | ⟨h12, h31⟩
    all_goals
     (repeat (first | apply wpN_cons | apply g_next | (apply G.h; constructor <;> (first | exact Zc | apply gI | ((repeat' (first | exact Y0 | apply Y1 | ((first | apply Y4 | apply Y5); simp only [evs, Nat.reduceEqDiff, reduceIte, qn, qd, q0, q2, q3, q4, q5] <;> rfl))); done) | (apply Y6; (try simp only [evs, qn, qd, q0, q2, q3, q4, q5]); first | exact hkn | exact M2.r3.load1 rfl rfl rfl)))))
     have rO3 := M2.rO
     (apply g_stR <;> (first | exact Zc | apply gI | ((repeat' (first | exact Y0 | apply Y1 | exact Y2 | apply Y3 | ((first | apply Y4 | apply Y5); simp only [evs, Nat.reduceEqDiff, reduceIte, qn, qd, q0, q2, q3, q4, q5] <;> rfl))); done) | (apply Hy.mk; (try simp only [evs, qn, qd, q0, q2, q3, q4, q5]); first | exact rO3 | exact hOl2 | assumption) | (apply Om.mk; first | exact rO3 | exact hOl2) | (apply Y6; (try simp only [evs, qn, qd, q0, q2, q3, q4, q5]); first | rfl) | apply Cn.mk))
     intro m3 rO4 o3 n3; simp only [evs, qn, qd, q0, q2, q3, q4, q5] at rO4 o3 n3
     replace rO4 : Row m3 (m.next + 6) (intsL (Ow.set i fn)) 3 0 := by rw [← List.set_set (a := f), ← intsL_set]; exact rO4
     have M3 := M2.setO rO4 o3 n3
     (repeat (first | apply wpN_cons | apply g_next | (apply G.h; constructor <;> (first | exact Zc | apply gI | ((repeat' (first | exact Y0 | apply Y1 | ((first | apply Y4 | apply Y5); simp only [evs, Nat.reduceEqDiff, reduceIte, qn, qd, q0, q2, q3, q4, q5] <;> rfl))); done) | (apply Y6; (try simp only [evs, qn, qd, q0, q2, q3, q4, q5]); first | exact M3.r3.load1 rfl rfl rfl)))))
     have M4 := M3.grow ((Grow.refl m3).new (rowObj [I i] 3 0))
     have sF4 := M4.sF
     have hX4 : ∀ c, XG m.next c → c < (m3.new (rowObj [I i] 3 0)).next := fun c hc => Nat.lt_of_lt_of_le hc.1 M4.nx
     have hin4 : effect.cellsIn (m3.new (rowObj [I i] 3 0)) 1 (.slice (some ⟨m3.next, 0, none⟩) 1 1) = some (1, [I i]) := cellsIn_row (kc := 1) (new := [I i]) (row_new m3 [I i] 3 0) (Nat.le_refl 1) rfl
     have hlen4 : (fsL l i).length ≤ 1000 := by rw [fsL_len]; omega
     (apply g_app <;> (first | exact Zc | apply gI | ((repeat' (first | exact Y0 | apply Y1 | exact Y2 | apply Y3 | ((first | apply Y4 | apply Y5); simp only [evs, Nat.reduceEqDiff, reduceIte, qn, qd, q0, q2, q3, q4, q5] <;> rfl))); done) | (apply Hy.mk; (try simp only [evs, qn, qd, q0, q2, q3, q4, q5]); first | exact hin4 | exact sF4 | exact hX4 | assumption) | (apply Om.mk; first | exact hin4 | exact sF4 | exact hX4) | (apply Y6; (try simp only [evs, qn, qd, q0, q2, q3, q4, q5]); first | rfl) | apply Cn.mk))
     intro v' m5 s5 k5 o5 b5 f5
     obtain ⟨c5, j5, p5, rfl, hc5⟩ := f5
     simp only [evs, qn, qd, q0, q2, q3, q4, q5] at k5 o5 b5
     have r35 := M4.r3.stay k5 (.inl ⟨by omega, by omega, by omega⟩)
     (repeat (first | apply wpN_cons | apply g_next | (apply G.h; constructor <;> (first | exact Zc | apply gI | ((repeat' (first | exact Y0 | apply Y1 | ((first | apply Y4 | apply Y5); simp only [evs, Nat.reduceEqDiff, reduceIte, qn, qd, q0, q2, q3, q4, q5] <;> rfl))); done) | (apply Y6; (try simp only [evs, qn, qd, q0, q2, q3, q4, q5]); first | rfl)))))
     (apply g_stR <;> (first | exact Zc | apply gI | ((repeat' (first | exact Y0 | apply Y1 | exact Y2 | apply Y3 | ((first | apply Y4 | apply Y5); simp only [evs, Nat.reduceEqDiff, reduceIte, qn, qd, q0, q2, q3, q4, q5] <;> rfl))); done) | (apply Hy.mk; (try simp only [evs, qn, qd, q0, q2, q3, q4, q5]); first | exact r35 | assumption) | (apply Om.mk; first | exact r35) | (apply Y6; (try simp only [evs, qn, qd, q0, q2, q3, q4, q5]); first | rfl) | apply Cn.mk))
     intro m6 r6 o6 n6; simp only [evs, qn, qd, q0, q2, q3, q4, q5] at r6 o6 n6
     have M6 := M4.appF s5 k5 o5 (b5 c5 j5 p5 rfl) r6 o6 n6
     rw [← fsL_fn hisf] at M6
     (repeat (first | apply wpN_cons | apply g_next | (apply G.h; constructor <;> (first | exact Zc | apply gI | ((repeat' (first | exact Y0 | apply Y1 | ((first | apply Y4 | apply Y5); simp only [evs, Nat.reduceEqDiff, reduceIte, qn, qd, q0, q2, q3, q4, q5] <;> rfl))); done) | (apply Y6; (try simp only [evs, qn, qd, q0, q2, q3, q4, q5]); first | exact M6.r3.load1 rfl rfl rfl | exact row_int M6.rF hFf)))))
     have M7 := M6.grow ((Grow.refl m6).new (rowObj [I f] 3 0))
     have sA7 := M7.sA
     have hX7 : ∀ c, XG m.next c → c < (m6.new (rowObj [I f] 3 0)).next := fun c hc => Nat.lt_of_lt_of_le hc.1 M7.nx
     have hin7 : effect.cellsIn (m6.new (rowObj [I f] 3 0)) 1 (.slice (some ⟨m6.next, 0, none⟩) 1 1) = some (1, [I f]) := cellsIn_row (kc := 1) (new := [I f]) (row_new m6 [I f] 3 0) (Nat.le_refl 1) rfl
     have hlen7 : (abL l Fn' i).length ≤ 1000 := by rw [abL_len]; omega
     (apply g_app <;> (first | exact Zc | apply gI | ((repeat' (first | exact Y0 | apply Y1 | exact Y2 | apply Y3 | ((first | apply Y4 | apply Y5); simp only [evs, Nat.reduceEqDiff, reduceIte, qn, qd, q0, q2, q3, q4, q5] <;> rfl))); done) | (apply Hy.mk; (try simp only [evs, qn, qd, q0, q2, q3, q4, q5]); first | exact hin7 | exact sA7 | exact hX7 | assumption) | (apply Om.mk; first | exact hin7 | exact sA7 | exact hX7) | (apply Y6; (try simp only [evs, qn, qd, q0, q2, q3, q4, q5]); first | rfl) | apply Cn.mk))
     intro v' m8 s8 k8 o8 b8 f8
     obtain ⟨c8, j8, p8, rfl, hc8⟩ := f8
     simp only [evs, qn, qd, q0, q2, q3, q4, q5] at k8 o8 b8
     have r38 := M7.r3.stay k8 (.inl ⟨by omega, by omega, by omega⟩)
     (repeat (first | apply wpN_cons | apply g_next | (apply G.h; constructor <;> (first | exact Zc | apply gI | ((repeat' (first | exact Y0 | apply Y1 | ((first | apply Y4 | apply Y5); simp only [evs, Nat.reduceEqDiff, reduceIte, qn, qd, q0, q2, q3, q4, q5] <;> rfl))); done) | (apply Y6; (try simp only [evs, qn, qd, q0, q2, q3, q4, q5]); first | rfl)))))
     (apply g_stR <;> (first | exact Zc | apply gI | ((repeat' (first | exact Y0 | apply Y1 | exact Y2 | apply Y3 | ((first | apply Y4 | apply Y5); simp only [evs, Nat.reduceEqDiff, reduceIte, qn, qd, q0, q2, q3, q4, q5] <;> rfl))); done) | (apply Hy.mk; (try simp only [evs, qn, qd, q0, q2, q3, q4, q5]); first | exact r38 | assumption) | (apply Om.mk; first | exact r38) | (apply Y6; (try simp only [evs, qn, qd, q0, q2, q3, q4, q5]); first | rfl) | apply Cn.mk))
     intro m9 r9 o9 n9; simp only [evs, qn, qd, q0, q2, q3, q4, q5] at r9 o9 n9
     have M9 := M7.appA s8 k8 o8 (b8 c8 j8 p8 rfl) r9 o9 n9
     rw [← abL_fn hisf hFf] at M9
     have hO9 : Ow.set i fn = Ow.set i (if isFnAt l i then (fnL l 0 i).length + 1 else f) := by rw [hisf, if_pos rfl, hfn]
     rw [hO9] at M9
     clear M1 M2 M3 M4 M6 M7 rO1 rO2 rO3 rO4 o2 n2 o3 n3 k5 o5 b5 s5 k8 o8 b8 s8 r35 r38 r6 o6 n6 r9 o9 n9 sF4 sA7 hX4 hX7 hin4 hin7
   case' neg =>
    have h12 : kd ≠ 12 := by omega
    have h31 : kd ≠ 31 := by omega
    rw [decide_eq_false hfk] at hisf
    (repeat (first | apply wpN_cons | apply g_next | (apply G.h; constructor <;> (first | exact Zc | apply gI | ((repeat' (first | exact Y0 | apply Y1 | ((first | apply Y4 | apply Y5); simp only [evs, Nat.reduceEqDiff, reduceIte, qn, qd, q0, q2, q3, q4, q5] <;> rfl))); done) | (apply Y6; (try simp only [evs, qn, qd, q0, q2, q3, q4, q5]); first | exact hkn)))))
    have M9 := M2
    rw [← fsL_no hisf, ← abL_no hisf] at M9
    have hO9 : Ow.set i f = Ow.set i (if isFnAt l i then (fnL l 0 i).length + 1 else f) := by rw [hisf]; rfl
    rw [hO9] at M9
    clear M1 M2 rO1 rO2 o2 n2
   all_goals
    generalize Ow.set i (if isFnAt l i then (fnL l 0 i).length + 1 else f) = O9 at M9 GN
    have hN9 : Nodes _ b off l := hN.stay (X := fun c => c < m.next) hbn hbn M9.k
    have hb9 := Nat.lt_of_lt_of_le hbn M9.k.1
    obtain ⟨w, hw⟩ := P.at_ i hlt
    have hK := kids34f b off cap l hn (by omega) i w _ hlt hN9 hb9 hw
    (repeat (first | apply wpN_cons | apply g_next | (apply G.h; constructor <;> (first | exact Zc | apply gI | ((repeat' (first | exact Y0 | apply Y1 | ((first | apply Y4 | apply Y5); simp only [evs, Nat.reduceEqDiff, reduceIte, qn, qd, q0, q2, q3, q4, q5] <;> rfl))); done) | (apply Y6; (try simp only [evs, qn, qd, q0, q2, q3, q4, q5]); first | rfl)))))
    ((first | apply g_run | apply g_run0) <;> (first | ((repeat' (first | exact Y0 | apply Y1 | exact Y2 | apply Y3 | ((first | apply Y4 | apply Y5); simp only [evs, Nat.reduceEqDiff, reduceIte, qn, qd, q0, q2, q3, q4, q5] <;> rfl))); done) | exact Rn.mk ((by simp only [evs]; exact hK)) | apply Cn.mk))
    rintro v m10 ⟨g10, hI, hfr⟩
    clear hK
    have M10 := M9.grow g10
    rw [← kidsOf_eq hlt] at hI
    obtain ⟨ka, kc, rfl⟩ := hI.form
    have hfr' : ∀ kb c n, (.slice ka (kidsOf l i).length kc : Value) = .slice (some ⟨kb, 0, none⟩) n c → m.next + 2 < kb := fun kb c n e => by
     have h1 := hfr kb c n e
     have h2 := M9.nx
     try simp only [evs] at h1
     omega
    clear hfr
    (repeat (first | apply wpN_cons | apply g_next | (apply G.h; constructor <;> (first | exact Zc | apply gI | ((repeat' (first | exact Y0 | apply Y1 | ((first | apply Y4 | apply Y5); simp only [evs, Nat.reduceEqDiff, reduceIte, qn, qd, q0, q2, q3, q4, q5] <;> rfl))); done) | (apply Y6; (try simp only [evs, qn, qd, q0, q2, q3, q4, q5]); first | rfl)))))
    refine ewp_loop (ι := Nat) (fun j a' => (a'.n = 151 ∧ a'.defers = [] ∧ a'.tmp 0 = .slice (some ⟨b, off, none⟩) l.length cap ∧ a'.tmp 2 = ptr m.next ∧ a'.tmp 3 = ptr (m.next + 1) ∧ a'.tmp 4 = .slice (some ⟨m.next + 6, 0, none⟩) l.length l.length ∧ a'.tmp 5 = I i ∧ a'.tmp 6 = .slice ka (kidsOf l i).length kc ∧ a'.tmp 7 = I j) ∧ j ≤ (kidsOf l i).length ∧ Ints a'.m (.slice ka (kidsOf l i).length kc) (kidsOf l i) ∧ (setAll i ((kidsOf l i).take j) U).length = l.length ∧ ∃ fb fn fc ab an ac, GM l b off cap m a'.m i (setAll i ((kidsOf l i).take j) U) Fn' O9 (fsL l (i + 1)) (abL l Fn' (i + 1)) fb fn fc ab an ac) (fun j => (kidsOf l i).length - j) 0 ?_ ?_
    ·exact ⟨(by refine ⟨?_, ?_, ?_, ?_, ?_, ?_, ?_, ?_, ?_⟩ <;> (simp only [evs, Nat.reduceEqDiff, reduceIte, qn, qd, q0, q2, q3, q4, q5] <;> first | rfl | (congr 1; omega) | omega)), Nat.zero_le _, by simp only [evs]; exact hI, by rw [List.take_zero]; exact Gg.ul, _, _, _, _, _, _, by simp only [evs]; exact M10⟩
    clear M M9 M10 hI hN9 hb9 g10 hkn
    have ul := Gg.ul
    clear qn qd q0 q2 q3 q4 q5 Gg
    rintro j a' ⟨⟨pn, pd, p0, p2, p3, p4, p5, p6, p7⟩, hj, hI, hUL, fb', fn', fc', ab', an', ac', M⟩ ihj
    have hkn17 : (kidsOf l i).length ≤ 100000 := by
     rw [kidsOf_eq hlt, kidsP_len]
     have := P.at_ i hlt
     exact kids_few P hl hlt
    rcases Nat.lt_or_ge j (kidsOf l i).length with hjl | hjg
    ·obtain ⟨kb, kcap, kr, e1, e2, e3⟩ := hI.get hjl
     cases e1
     have hq := (kidsOf_in P (List.getElem_mem hjl)).2.1
     have htk : (kidsOf l i).take (j + 1) = (kidsOf l i).take j ++ [(kidsOf l i)[j]] := by rw [List.take_add_one, List.getElem?_eq_getElem hjl]; rfl
     generalize (kidsOf l i)[j] = qq at e3 hq htk
     generalize hU0 : setAll i ((kidsOf l i).take j) U = U0 at M hUL
     have hUl : 0 + qq * 1 + 1 ≤ (intsL U0).length := by rw [intsL_len]; omega
     have rU := M.rU
     (repeat (first | apply wpN_cons | apply g_next | (apply G.h; constructor <;> (first | exact Zc | apply gI | ((repeat' (first | exact Y0 | apply Y1 | ((first | apply Y4 | apply Y5); simp only [evs, Nat.reduceEqDiff, reduceIte, pn, pd, p0, p2, p3, p4, p5, p6, p7] <;> rfl))); done) | (apply Y6; (try simp only [evs, pn, pd, p0, p2, p3, p4, p5, p6, p7]); first | exact M.r3.load1 rfl rfl rfl | exact e2.load1 rfl rfl e3)))))
     (apply g_stR <;> (first | exact Zc | apply gI | ((repeat' (first | exact Y0 | apply Y1 | exact Y2 | apply Y3 | ((first | apply Y4 | apply Y5); simp only [evs, Nat.reduceEqDiff, reduceIte, pn, pd, p0, p2, p3, p4, p5, p6, p7] <;> rfl))); done) | (apply Hy.mk; (try simp only [evs, pn, pd, p0, p2, p3, p4, p5, p6, p7]); first | exact rU | exact hUl | assumption) | (apply Om.mk; first | exact rU | exact hUl) | (apply Y6; (try simp only [evs, pn, pd, p0, p2, p3, p4, p5, p6, p7]); first | rfl) | apply Cn.mk))
     intro mk rk ok' nk; simp only [evs, pn, pd, p0, p2, p3, p4, p5, p6, p7] at rk ok' nk
     replace rk : Row mk (m.next + 2) (intsL (U0.set qq i)) 3 0 := by rw [← intsL_set]; exact rk
     have Mk := M.setU rk ok' nk
     have hU1 : U0.set qq i = setAll i ((kidsOf l i).take (j + 1)) U := by rw [htk, setAll_snoc, hU0]
     have hIk := hI.other (m' := mk) hfr' nk ok'
     have hUL' : (U0.set qq i).length = l.length := by rw [List.length_set]; exact hUL
     rw [hU1] at Mk hUL'
     (repeat (first | apply wpN_cons | apply g_next | (apply G.h; constructor <;> (first | exact Zc | apply gI | ((repeat' (first | exact Y0 | apply Y1 | ((first | apply Y4 | apply Y5); simp only [evs, Nat.reduceEqDiff, reduceIte, pn, pd, p0, p2, p3, p4, p5, p6, p7] <;> rfl))); done) | (apply Y6; (try simp only [evs, pn, pd, p0, p2, p3, p4, p5, p6, p7]); first | rfl)))))
     refine ihj (j + 1) _ ⟨(by refine ⟨?_, ?_, ?_, ?_, ?_, ?_, ?_, ?_, ?_⟩ <;> (simp only [evs, Nat.reduceEqDiff, reduceIte, pn, pd, p0, p2, p3, p4, p5, p6, p7] <;> first | rfl | (congr 1; omega) | omega)), hjl, by simp only [evs]; exact hIk, hUL', _, _, _, _, _, _, by simp only [evs]; exact Mk⟩ (by omega)
    ·obtain rfl : j = (kidsOf l i).length := by omega
     rw [List.take_length] at M
     (repeat (first | apply wpN_cons | apply g_next | (apply G.h; constructor <;> (first | exact Zc | apply gI | ((repeat' (first | exact Y0 | apply Y1 | ((first | apply Y4 | apply Y5); simp only [evs, Nat.reduceEqDiff, reduceIte, pn, pd, p0, p2, p3, p4, p5, p6, p7] <;> rfl))); done) | (apply Y6; (try simp only [evs, pn, pd, p0, p2, p3, p4, p5, p6, p7]); first | rfl)))))
     refine ih (i + 1) _ ⟨(by refine ⟨?_, ?_, ?_, ?_, ?_, ?_, ?_⟩ <;> (simp only [evs, Nat.reduceEqDiff, reduceIte, pn, pd, p0, p2, p3, p4, p5, p6, p7] <;> first | rfl | (congr 1; omega) | omega)), hlt, _, _, _, _, _, _, _, _, _, GN, by simp only [evs]; exact ⟨M.k, M.nx, M.r2, M.r3, M.rU, M.rF, M.rO, M.sF, M.sA, M.ne⟩⟩ (by omega)
 obtain rfl : i = l.length := by omega
 have hfn : fn = (fnL l 0 l.length).length + 1 := by
  obtain ⟨x1, x2, x3, x4, x5⟩ := Sl.form M.sF (by decide)
  cases x4; rw [fsL_len] at x5; omega
 have hfnb := fnL_le l l.length
 (repeat (first | apply wpN_cons | apply g_next | (apply G.h; constructor <;> (first | exact Zc | apply gI | ((repeat' (first | exact Y0 | apply Y1 | ((first | apply Y4 | apply Y5); simp only [evs, Nat.reduceEqDiff, reduceIte, qn, qd, q0, q2, q3, q4, q5] <;> rfl))); done) | (apply Y6; (try simp only [evs, qn, qd, q0, q2, q3, q4, q5]); first | exact M.r3.load1 rfl rfl rfl)))))
 (apply g_makeSlice <;> (first | exact Zc | apply gI | ((repeat' (first | exact Y0 | apply Y1 | exact Y2 | apply Y3 | ((first | apply Y4 | apply Y5); simp only [evs, Nat.reduceEqDiff, reduceIte, qn, qd, q0, q2, q3, q4, q5] <;> rfl))); done) | (apply Hy.mk; (try simp only [evs, qn, qd, q0, q2, q3, q4, q5]); first | fail | assumption) | (apply Om.mk; first | fail) | (apply Y6; (try simp only [evs, qn, qd, q0, q2, q3, q4, q5]); first | rfl) | apply Cn.mk))
 (repeat (first | apply wpN_cons | apply g_next | (apply G.h; constructor <;> (first | exact Zc | apply gI | ((repeat' (first | exact Y0 | apply Y1 | ((first | apply Y4 | apply Y5); simp only [evs, Nat.reduceEqDiff, reduceIte, qn, qd, q0, q2, q3, q4, q5] <;> rfl))); done) | (apply Y6; (try simp only [evs, qn, qd, q0, q2, q3, q4, q5]); first | rfl)))))
 have hx1 : ∀ {c : Nat}, c < a.m.next ∧ c ≠ m.next ∧ c ≠ m.next + 1 → c < a.m.next := fun h => h.1
 have nx0 := M.nx
 have kz : Keep (fun c => c < a.m.next ∧ c ≠ m.next ∧ c ≠ m.next + 1) [3, 54, 95] a.m (a.m.new (rowObj (repeatList [I 0] fn) 3 0)) := Keep.new _
 have rS0 : Row (a.m.new (rowObj (repeatList [I 0] fn) 3 0)) a.m.next (intsL (List.replicate fn 0)) 3 0 := by rw [← rep_ints]; exact row_new a.m _ 3 0
 refine ewp_loop (ι := Nat) (fun i a' => (a'.n = 151 ∧ a'.defers = [] ∧ a'.tmp 0 = .slice (some ⟨b, off, none⟩) l.length cap ∧ a'.tmp 2 = ptr m.next ∧ a'.tmp 3 = ptr (m.next + 1) ∧ a'.tmp 8 = .slice (some ⟨a.m.next, 0, none⟩) fn fn ∧ a'.tmp 10 = I i) ∧ 1 ≤ i ∧ i ≤ l.length ∧ (∃ gl : Nat, gl ≤ i ∧ a'.tmp 9 = I gl) ∧ (∃ S : List Nat, S.length = fn ∧ (∀ x ∈ S, x ≤ i) ∧ Row a'.m a.m.next (intsL S) 3 0) ∧ Keep (fun c => c < a.m.next ∧ c ≠ m.next ∧ c ≠ m.next + 1) [3, 54, 95] a.m a'.m ∧ Row a'.m m.next [nilS, nilS, nilS, nilS, nilS, nilS] 54 0 ∧ ∃ dv L, L.length ≤ i * 7 ∧ Row a'.m (m.next + 1) [.slice (some ⟨b, off, none⟩) l.length cap, .slice (some ⟨m.next + 2, 0, none⟩) l.length l.length, .slice (some ⟨m.next + 3, 0, none⟩) l.length l.length, .slice (some ⟨fb, 0, none⟩) fn fc, .slice (some ⟨ab, 0, none⟩) an ac, dv] 54 0 ∧ Sl (fun c => c ≤ a.m.next) a'.m dv 95 7 L) (fun i => l.length - i) 1 ?_ ?_
 ·refine ⟨(by refine ⟨?_, ?_, ?_, ?_, ?_, ?_, ?_⟩ <;> (simp only [evs, Nat.reduceEqDiff, reduceIte, qn, qd, q0, q2, q3, q4, q5] <;> first | rfl | (congr 1; omega) | omega)), Nat.le_refl _, hpos, ⟨0, Nat.zero_le _, by (simp only [evs, Nat.reduceEqDiff, reduceIte, qn, qd, q0, q2, q3, q4, q5] <;> first | rfl | (congr 1; omega) | omega)⟩, ⟨List.replicate fn 0, by simp, fun x hx => by rw [List.mem_replicate] at hx; omega, by simp only [evs]; exact rS0⟩, by simp only [evs]; exact kz, by simp only [evs]; exact M.r2.keep_new _, nilS, [], Nat.zero_le _, by simp only [evs]; exact M.r3.keep_new _, .inl ⟨rfl, rfl⟩⟩
 clear qn qd q0 q2 q3 q4 q5 kz rS0 ih hi
 rintro i a' ⟨⟨wn, wd, w0, w2, w3, w8, w10⟩, hi1, hi, ⟨gl, hgl, w9⟩, ⟨S, hSl, hSb, rS⟩, kk, r2, dv, L, hL, r3, sD⟩ ih
 obtain ⟨da, dn, dc, rfl, hdn⟩ := Sl.form sD (by decide)
 have rU : Row a'.m (m.next + 2) (intsL U) 3 0 := M.rU.stay kk (.inl ⟨by omega, by omega, by omega⟩)
 have rF : Row a'.m (m.next + 3) (intsL Fn) 3 0 := M.rF.stay kk (.inl ⟨by omega, by omega, by omega⟩)
 have hle := kk.1
 rcases Nat.lt_or_ge i l.length with hlt | hge2
 ·obtain ⟨u, hu⟩ : ∃ u, U[i]? = some u := ⟨_, List.getElem?_eq_getElem (by rw [Gg.ul]; exact hlt)⟩
  have hul : u < l.length := by have := Gg.ub i u hu; omega
  obtain ⟨f, hf, hf2, -⟩ := Gg.own i hlt
  have hff : f < fn := by have := fnL_mono l (show i ≤ l.length by omega); omega
  have hk0 : Keep (fun c => c < m.next) [3, 54, 95] m a'.m := M.k.trans (kk.sub (X' := (fun c => c < a.m.next ∧ c ≠ m.next ∧ c ≠ m.next + 1)) fun c hc => ⟨by have := M.k.1; omega, by omega, by omega⟩)
  have hN1 := hN.stay (X := fun c => c < m.next) hbn hbn hk0
  have hb1 := Nat.lt_of_lt_of_le hbn hk0.1
  have hDc := declared34 b off cap l hok hl P i hlt (m.next + 2) (m.next + 3) l.length l.length U Fn u f hu hul hf (.slice (some ⟨fb, 0, none⟩) fn fc) (.slice (some ⟨ab, 0, none⟩) an ac) (.slice da dn dc) a'.m hN1 hb1 rU rF
  (repeat (first | apply wpN_cons | apply g_next | (apply G.h; constructor <;> (first | exact Zc | apply gI | ((repeat' (first | exact Y0 | apply Y1 | ((first | apply Y4 | apply Y5); simp only [evs, Nat.reduceEqDiff, reduceIte, wn, wd, w0, w2, w3, w8, w10] <;> rfl))); done) | (apply Y6; (try simp only [evs, wn, wd, w0, w2, w3, w8, w10]); first | exact r3.loadA rfl rfl rfl (Nat.le_refl 6) rfl)))))
  ((first | apply g_run | apply g_run0) <;> (first | ((repeat' (first | exact Y0 | apply Y1 | exact Y2 | apply Y3 | ((first | apply Y4 | apply Y5); simp only [evs, Nat.reduceEqDiff, reduceIte, wn, wd, w0, w2, w3, w8, w10] <;> rfl))); done) | exact Rn.mk ((by simp only [evs]; exact hDc)) | apply Cn.mk))
  rintro v m3 ⟨g3, x, y, z, st, gb, ok, rfl⟩
  clear hDc
  have zd := row_new m3 [I 0, encS [], I 0, I 0, I 0, I 0, .bool false] 95 0
  (repeat (first | apply wpN_cons | apply g_next | (apply G.h; constructor <;> (first | exact Zc | apply gI | ((repeat' (first | exact Y0 | apply Y1 | ((first | apply Y4 | apply Y5); simp only [evs, Nat.reduceEqDiff, reduceIte, wn, wd, w0, w2, w3, w8, w10] <;> rfl))); done) | (apply Y6; (try simp only [evs, wn, wd, w0, w2, w3, w8, w10]); first | rfl)))))
  (apply g_stR <;> (first | exact Zc | apply gI | ((repeat' (first | exact Y0 | apply Y1 | exact Y2 | apply Y3 | ((first | apply Y4 | apply Y5); simp only [evs, Nat.reduceEqDiff, reduceIte, wn, wd, w0, w2, w3, w8, w10] <;> rfl))); done) | (apply Hy.mk; (try simp only [evs, wn, wd, w0, w2, w3, w8, w10]); first | exact zd | assumption) | (apply Om.mk; first | exact zd) | (apply Y6; (try simp only [evs, wn, wd, w0, w2, w3, w8, w10]); first | rfl) | apply Cn.mk))
  intro m4 rd o4 n4; simp only [evs, wn, wd, w0, w2, w3, w8, w10] at rd o4 n4
  replace rd : Row m4 m3.next [I i, encS st, I x, I y, I f, I z, .bool gb] 95 0 := rd
  have g4 : Grow a'.m m4 := g3.trans (((Grow.refl m3).new _).wrote (Nat.le_refl _) o4 n4)
  have nd3 : a'.m.next ≤ m3.next := g3.1
  have k4 : Keep (fun c => c < a.m.next ∧ c ≠ m.next ∧ c ≠ m.next + 1) [3, 54, 95] a.m m4 := kk.trans (Keep.grow g4)
  have r24 := r2.grow g4
  have r34 := r3.grow g4
  have rS4 := rS.grow g4
  have sD4 := sD.grow g4
  have rl2 : m.next < a.m.next := by omega
  have hdz : ∀ b n c, (.slice da dn dc : Value) = .slice (some ⟨b, 0, none⟩) n c → b ≠ m3.next := fun b n c e => by
   rw [e] at sD
   have := sD.notX.2; omega
  have hdz2 : ∀ b n c, (.slice da dn dc : Value) = .slice (some ⟨b, 0, none⟩) n c → b ≠ a.m.next := fun b n c e => by
   rw [e] at sD
   have := sD.notX.1; omega
  cases ok with
  | false =>
   (repeat (first | apply wpN_cons | apply g_next | (apply G.h; constructor <;> (first | exact Zc | apply gI | ((repeat' (first | exact Y0 | apply Y1 | ((first | apply Y4 | apply Y5); simp only [evs, Nat.reduceEqDiff, reduceIte, wn, wd, w0, w2, w3, w8, w10] <;> rfl))); done) | (apply Y6; (try simp only [evs, wn, wd, w0, w2, w3, w8, w10]); first | rfl)))))
   refine ih (i + 1) _ ⟨(by refine ⟨?_, ?_, ?_, ?_, ?_, ?_, ?_⟩ <;> (simp only [evs, Nat.reduceEqDiff, reduceIte, wn, wd, w0, w2, w3, w8, w10] <;> first | rfl | (congr 1; omega) | omega)), by omega, hlt, ⟨gl, by omega, by (simp only [evs, Nat.reduceEqDiff, reduceIte, wn, wd, w0, w2, w3, w8, w10, w9] <;> first | rfl | (congr 1; omega) | omega)⟩, ⟨S, hSl, fun x hx => Nat.le_succ_of_le (hSb x hx), by simp only [evs]; exact rS4⟩, by simp only [evs]; exact k4, by simp only [evs]; exact r24, .slice da dn dc, L, by omega, by simp only [evs]; exact r34, by simp only [evs]; exact sD4⟩ (by omega)
  | true =>
   have hfS : ∃ x, S[f]? = some x ∧ x ≤ i := ⟨S[f]'(by omega), List.getElem?_eq_getElem _, hSb _ (List.getElem_mem _)⟩
   obtain ⟨sx, hsx, hsb⟩ := hfS
   have hSf : 0 + f * 1 + 1 ≤ (intsL S).length := by rw [intsL_len]; omega
   have nd : m3.next ≠ a.m.next := by have := rS.1; omega
   cases gb
   case' true =>
    obtain ⟨glN, hglN⟩ : ∃ x, x = gl + 1 := ⟨_, rfl⟩
    (repeat (first | apply wpN_cons | apply g_next | (apply G.h; constructor <;> (first | exact Zc | apply gI | ((repeat' (first | exact Y0 | apply Y1 | ((first | apply Y4 | apply Y5); simp only [evs, Nat.reduceEqDiff, reduceIte, wn, wd, w0, w2, w3, w8, w10] <;> rfl))); done) | (apply Y6; (try simp only [evs, wn, wd, w0, w2, w3, w8, w10]); first | exact rd.load1 rfl rfl rfl)))))
    (apply g_stR <;> (first | exact Zc | apply gI | ((repeat' (first | exact Y0 | apply Y1 | exact Y2 | apply Y3 | ((first | apply Y4 | apply Y5); simp only [evs, Nat.reduceEqDiff, reduceIte, wn, wd, w0, w2, w3, w8, w10, w9] <;> rfl))); done) | (apply Hy.mk; (try simp only [evs, wn, wd, w0, w2, w3, w8, w10, w9]); first | exact rd | assumption) | (apply Om.mk; first | exact rd) | (apply Y6; (try simp only [evs, wn, wd, w0, w2, w3, w8, w10, w9]); first | rfl) | apply Cn.mk))
    intro m5 re o5 n5; simp only [evs, wn, wd, w0, w2, w3, w8, w10, w9] at re o5 n5
    obtain ⟨zz, re⟩ : ∃ zz : Int, Row m5 m3.next [I i, encS st, I x, I y, I f, I zz, .bool true] 95 0 := ⟨_, re⟩
    have rS5 : Row m5 a.m.next (intsL S) 3 0 := rS4.keep (by rw [n5]; exact Nat.le_refl _) (o5 _ (fun h => nd h.symm))
    have k5 : Keep (fun c => c < a.m.next ∧ c ≠ m.next ∧ c ≠ m.next + 1) [3, 54, 95] m4 m5 := Keep.row rd (by omega) (by simp) o5 n5
    have q5 : Keep (fun c => c ≤ a.m.next) [95] m4 m5 := Keep.row rd (by omega) (by simp) o5 n5
    have r25 := r24.keep (m' := m5) (by rw [n5]; exact Nat.le_refl _) (o5 _ (by omega))
    have r35 := r34.keep (m' := m5) (by rw [n5]; exact Nat.le_refl _) (o5 _ (by omega))
    have sD5 : Sl (fun c => c ≤ a.m.next) m5 (.slice da dn dc) 95 7 L := sl_not sD4 (z := m3.next) hdz n5 o5
    have hS5 : ∃ S' : List Nat, S'.length = fn ∧ (∀ x ∈ S', x ≤ i + 1) ∧ Row m5 a.m.next (intsL S') 3 0 := ⟨S, hSl, fun x hx => Nat.le_succ_of_le (hSb x hx), rS5⟩
    obtain ⟨zq, gq, re⟩ : ∃ (zq : Int) (gq : Bool), Row m5 m3.next [I i, encS st, I x, I y, I f, I zq, .bool gq] 95 0 := ⟨_, _, re⟩
    (repeat (first | apply wpN_cons | apply g_next | (apply G.h; constructor <;> (first | exact Zc | apply gI | ((repeat' (first | exact Y0 | apply Y1 | ((first | apply Y4 | apply Y5); simp only [evs, Nat.reduceEqDiff, reduceIte, wn, wd, w0, w2, w3, w8, w10, w9] <;> rfl))); done) | (apply Y6; (try simp only [evs, wn, wd, w0, w2, w3, w8, w10, w9]); first | rfl)))))
   case' false =>
    obtain ⟨glN, hglN⟩ : ∃ x, x = gl := ⟨_, rfl⟩
    (repeat (first | apply wpN_cons | apply g_next | (apply G.h; constructor <;> (first | exact Zc | apply gI | ((repeat' (first | exact Y0 | apply Y1 | ((first | apply Y4 | apply Y5); simp only [evs, Nat.reduceEqDiff, reduceIte, wn, wd, w0, w2, w3, w8, w10] <;> rfl))); done) | (apply Y6; (try simp only [evs, wn, wd, w0, w2, w3, w8, w10]); first | exact rd.load1 rfl rfl rfl | exact row_int rS4 hsx)))))
    (apply g_stR <;> (first | exact Zc | apply gI | ((repeat' (first | exact Y0 | apply Y1 | exact Y2 | apply Y3 | ((first | apply Y4 | apply Y5); simp only [evs, Nat.reduceEqDiff, reduceIte, wn, wd, w0, w2, w3, w8, w10] <;> rfl))); done) | (apply Hy.mk; (try simp only [evs, wn, wd, w0, w2, w3, w8, w10]); first | exact rd | assumption) | (apply Om.mk; first | exact rd) | (apply Y6; (try simp only [evs, wn, wd, w0, w2, w3, w8, w10]); first | rfl) | apply Cn.mk))
    intro m5' re o5 n5; simp only [evs, wn, wd, w0, w2, w3, w8, w10] at re o5 n5
    replace re : Row m5' m3.next [I i, encS st, I x, I y, I f, I sx, .bool false] 95 0 := re
    have rS5' : Row m5' a.m.next (intsL S) 3 0 := rS4.keep (by rw [n5]; exact Nat.le_refl _) (o5 _ (fun h => nd h.symm))
    (repeat (first | apply wpN_cons | apply g_next | (apply G.h; constructor <;> (first | exact Zc | apply gI | ((repeat' (first | exact Y0 | apply Y1 | ((first | apply Y4 | apply Y5); simp only [evs, Nat.reduceEqDiff, reduceIte, wn, wd, w0, w2, w3, w8, w10] <;> rfl))); done) | (apply Y6; (try simp only [evs, wn, wd, w0, w2, w3, w8, w10]); first | exact re.load1 rfl rfl rfl | exact row_int rS5' hsx)))))
    (apply g_stR <;> (first | exact Zc | apply gI | ((repeat' (first | exact Y0 | apply Y1 | exact Y2 | apply Y3 | ((first | apply Y4 | apply Y5); simp only [evs, Nat.reduceEqDiff, reduceIte, wn, wd, w0, w2, w3, w8, w10] <;> rfl))); done) | (apply Hy.mk; (try simp only [evs, wn, wd, w0, w2, w3, w8, w10]); first | exact rS5' | exact hSf | assumption) | (apply Om.mk; first | exact rS5' | exact hSf) | (apply Y6; (try simp only [evs, wn, wd, w0, w2, w3, w8, w10]); first | rfl) | apply Cn.mk))
    intro m5 rT o6 n6; simp only [evs, wn, wd, w0, w2, w3, w8, w10] at rT o6 n6
    replace rT : Row m5 a.m.next (intsL (S.set f (sx + 1))) 3 0 := by rw [← intsL_set]; exact rT
    have k5 : Keep (fun c => c < a.m.next ∧ c ≠ m.next ∧ c ≠ m.next + 1) [3, 54, 95] m4 m5 := (Keep.row rd (by omega) (by simp) o5 n5).trans (Keep.row rS5' (by omega) (by simp) o6 n6)
    have r25 := (r24.keep (m' := m5') (by rw [n5]; exact Nat.le_refl _) (o5 _ (by omega))).keep (m' := m5) (by rw [n6]; exact Nat.le_refl _) (o6 _ (by omega))
    have r35 := (r34.keep (m' := m5') (by rw [n5]; exact Nat.le_refl _) (o5 _ (by omega))).keep (m' := m5) (by rw [n6]; exact Nat.le_refl _) (o6 _ (by omega))
    have sD5 : Sl (fun c => c ≤ a.m.next) m5 (.slice da dn dc) 95 7 L := sl_not (sl_not sD4 (z := m3.next) hdz n5 o5) (z := a.m.next) hdz2 n6 o6
    have hS5 : ∃ S' : List Nat, S'.length = fn ∧ (∀ x ∈ S', x ≤ i + 1) ∧ Row m5 a.m.next (intsL S') 3 0 := ⟨S.set f (sx + 1), by rw [List.length_set]; exact hSl, fun x hx => (List.mem_or_eq_of_mem_set hx).elim (fun h => Nat.le_succ_of_le (hSb x h)) (fun h => by omega), rT⟩
    obtain ⟨zq, gq, re⟩ : ∃ (zq : Int) (gq : Bool), Row m5 m3.next [I i, encS st, I x, I y, I f, I zq, .bool gq] 95 0 := ⟨_, _, re.keep (m' := m5) (by rw [n6]; exact Nat.le_refl _) (o6 _ nd)⟩
    (repeat (first | apply wpN_cons | apply g_next | (apply G.h; constructor <;> (first | exact Zc | apply gI | ((repeat' (first | exact Y0 | apply Y1 | ((first | apply Y4 | apply Y5); simp only [evs, Nat.reduceEqDiff, reduceIte, wn, wd, w0, w2, w3, w8, w10] <;> rfl))); done) | (apply Y6; (try simp only [evs, wn, wd, w0, w2, w3, w8, w10]); first | rfl)))))
   all_goals
    (repeat (first | apply wpN_cons | apply g_next | (apply G.h; constructor <;> (first | exact Zc | apply gI | ((repeat' (first | exact Y0 | apply Y1 | ((first | apply Y4 | apply Y5); simp only [evs, Nat.reduceEqDiff, reduceIte, wn, wd, w0, w2, w3, w8, w10] <;> rfl))); done) | (apply Y6; (try simp only [evs, wn, wd, w0, w2, w3, w8, w10]); first | exact r35.load1 rfl rfl rfl | exact re.loadA rfl rfl rfl (Nat.le_refl 7) rfl)))))
    obtain ⟨S', hS', hSb', rS'⟩ := hS5
    have s5 := sD5.grow ((Grow.refl m5).new (rowObj [I i, encS st, I x, I y, I f, I zq, .bool gq] 95 0))
    have hX5 : ∀ c, c ≤ a.m.next → c < (m5.new (rowObj [I i, encS st, I x, I y, I f, I zq, .bool gq] 95 0)).next := fun c hc => Nat.lt_succ_of_lt (Nat.lt_of_le_of_lt hc rS'.1)
    have hin5 : effect.cellsIn (m5.new (rowObj [I i, encS st, I x, I y, I f, I zq, .bool gq] 95 0)) 7 (.slice (some ⟨m5.next, 0, none⟩) 1 1) = some (1, [I i, encS st, I x, I y, I f, I zq, .bool gq]) := cellsIn_row (kc := 1) (new := [I i, encS st, I x, I y, I f, I zq, .bool gq]) (row_new m5 [I i, encS st, I x, I y, I f, I zq, .bool gq] 95 0) (Nat.le_refl 7) rfl
    have hlen5 : L.length ≤ 100000 := by omega
    (apply g_app <;> (first | exact Zc | apply gI | ((repeat' (first | exact Y0 | apply Y1 | exact Y2 | apply Y3 | ((first | apply Y4 | apply Y5); simp only [evs, Nat.reduceEqDiff, reduceIte, wn, wd, w0, w2, w3, w8, w10] <;> rfl))); done) | (apply Hy.mk; (try simp only [evs, wn, wd, w0, w2, w3, w8, w10]); first | exact hin5 | exact s5 | exact hX5 | assumption) | (apply Om.mk; first | exact hin5 | exact s5 | exact hX5) | (apply Y6; (try simp only [evs, wn, wd, w0, w2, w3, w8, w10]); first | rfl) | apply Cn.mk))
    intro v' m6 s6 k6 o7 b6 f6
    obtain ⟨c6, j6, p6, rfl, hc6⟩ := f6
    simp only [evs, wn, wd, w0, w2, w3, w8, w10] at k6 o7 b6
    have r36 := (r35.keep_new (rowObj [I i, encS st, I x, I y, I f, I zq, .bool gq] 95 0)).stay k6 (.inr (by decide))
    (repeat (first | apply wpN_cons | apply g_next | (apply G.h; constructor <;> (first | exact Zc | apply gI | ((repeat' (first | exact Y0 | apply Y1 | ((first | apply Y4 | apply Y5); simp only [evs, Nat.reduceEqDiff, reduceIte, wn, wd, w0, w2, w3, w8, w10] <;> rfl))); done) | (apply Y6; (try simp only [evs, wn, wd, w0, w2, w3, w8, w10]); first | rfl)))))
    (apply g_stR <;> (first | exact Zc | apply gI | ((repeat' (first | exact Y0 | apply Y1 | exact Y2 | apply Y3 | ((first | apply Y4 | apply Y5); simp only [evs, Nat.reduceEqDiff, reduceIte, wn, wd, w0, w2, w3, w8, w10] <;> rfl))); done) | (apply Hy.mk; (try simp only [evs, wn, wd, w0, w2, w3, w8, w10]); first | exact r36 | assumption) | (apply Om.mk; first | exact r36) | (apply Y6; (try simp only [evs, wn, wd, w0, w2, w3, w8, w10]); first | rfl) | apply Cn.mk))
    intro m7 r7 o8 n8; simp only [evs, wn, wd, w0, w2, w3, w8, w10] at r7 o8 n8
    replace r7 : Row m7 (m.next + 1) [.slice (some ⟨b, off, none⟩) l.length cap, .slice (some ⟨m.next + 2, 0, none⟩) l.length l.length, .slice (some ⟨m.next + 3, 0, none⟩) l.length l.length, .slice (some ⟨fb, 0, none⟩) fn fc, .slice (some ⟨ab, 0, none⟩) an ac, .slice (some ⟨c6, 0, none⟩) j6 p6] 54 0 := r7
    have hn8 : m6.next ≤ m7.next := by rw [n8]; exact Nat.le_refl _
    have r27 := ((r25.keep_new (rowObj [I i, encS st, I x, I y, I f, I zq, .bool gq] 95 0)).stay k6 (.inr (by decide))).keep (m' := m7) hn8 (o8 _ (by omega))
    have rS7 := ((rS'.keep_new (rowObj [I i, encS st, I x, I y, I f, I zq, .bool gq] 95 0)).stay k6 (.inr (by decide))).keep (m' := m7) hn8 (o8 _ (by omega))
    have sD7 := sl_not s6 (z := m.next + 1) (fun b n c e => by cases e; have := s6.notX.1; omega) n8 o8
    have k6' : Keep (fun c => c < a.m.next ∧ c ≠ m.next ∧ c ≠ m.next + 1) [3, 54, 95] (m5.new (rowObj [I i, encS st, I x, I y, I f, I zq, .bool gq] 95 0)) m6 := (k6.sub (X' := fun c => c ≤ a.m.next) fun c hc => Nat.le_of_lt hc.1).mono (by simp)
    have k7 : Keep (fun c => c < a.m.next ∧ c ≠ m.next ∧ c ≠ m.next + 1) [3, 54, 95] m5 m7 := ((Keep.new _).trans k6').trans (Keep.row r36 (fun h => h.2.2 rfl) (by simp) o8 n8)
    (repeat (first | apply wpN_cons | apply g_next | (apply G.h; constructor <;> (first | exact Zc | apply gI | ((repeat' (first | exact Y0 | apply Y1 | ((first | apply Y4 | apply Y5); simp only [evs, Nat.reduceEqDiff, reduceIte, wn, wd, w0, w2, w3, w8, w10] <;> rfl))); done) | (apply Y6; (try simp only [evs, wn, wd, w0, w2, w3, w8, w10]); first | rfl)))))
    refine ih (i + 1) _ ⟨(by refine ⟨?_, ?_, ?_, ?_, ?_, ?_, ?_⟩ <;> (simp only [evs, Nat.reduceEqDiff, reduceIte, wn, wd, w0, w2, w3, w8, w10] <;> first | rfl | (congr 1; omega) | omega)), by omega, hlt, ⟨glN, by omega, by subst hglN; (simp only [evs, Nat.reduceEqDiff, reduceIte, wn, wd, w0, w2, w3, w8, w10, w9] <;> first | rfl | (congr 1; omega) | omega)⟩, ⟨S', hS', hSb', by simp only [evs]; exact rS7⟩, by simp only [evs]; exact (k4.trans k5).trans k7, by simp only [evs]; exact r27, .slice (some ⟨c6, 0, none⟩) j6 p6, _, ?_, by simp only [evs]; exact r7, by simp only [evs]; exact sD7⟩ (by omega)
    rw [List.length_append]
    show L.length + 7 ≤ _
    omega
 ·obtain rfl : i = l.length := by omega
  (repeat (first | apply wpN_cons | apply g_next | (apply G.h; constructor <;> (first | exact Zc | apply gI | ((repeat' (first | exact Y0 | apply Y1 | ((first | apply Y4 | apply Y5); simp only [evs, Nat.reduceEqDiff, reduceIte, wn, wd, w0, w2, w3, w8, w10] <;> rfl))); done) | (apply Y6; (try simp only [evs, wn, wd, w0, w2, w3, w8, w10]); first | exact r3.loadA rfl rfl rfl (Nat.le_refl 6) rfl)))))
  (apply g_stR <;> (first | exact Zc | apply gI | ((repeat' (first | exact Y0 | apply Y1 | exact Y2 | apply Y3 | ((first | apply Y4 | apply Y5); simp only [evs, Nat.reduceEqDiff, reduceIte, wn, wd, w0, w2, w3, w8, w10] <;> rfl))); done) | (apply Hy.mk; (try simp only [evs, wn, wd, w0, w2, w3, w8, w10]); first | exact r2 | assumption) | (apply Om.mk; first | exact r2) | (apply Y6; (try simp only [evs, wn, wd, w0, w2, w3, w8, w10]); first | rfl) | apply Cn.mk))
  intro mz rz oz nz; simp only [evs, wn, wd, w0, w2, w3, w8, w10] at rz oz nz
  (repeat (first | apply wpN_cons | apply g_next | (apply G.h; constructor <;> (first | exact Zc | apply gI | ((repeat' (first | exact Y0 | apply Y1 | ((first | apply Y4 | apply Y5); simp only [evs, Nat.reduceEqDiff, reduceIte, wn, wd, w0, w2, w3, w8, w10] <;> rfl))); done) | (apply Y6; (try simp only [evs, wn, wd, w0, w2, w3, w8, w10]); first | rfl)))))
  refine g_fin1c (b := m.next) (o := 0) _ rfl ?_ ?_ (by simp only [evs]; exact rz.loadA rfl rfl rfl (Nat.le_refl 6) rfl) ?_
  ·(simp only [evs, Nat.reduceEqDiff, reduceIte, wn, wd, w0, w2, w3, w8, w10] <;> first | rfl | (congr 1; omega) | omega)
  ·(simp only [evs, Nat.reduceEqDiff, reduceIte, wn, wd, w0, w2, w3, w8, w10] <;> first | rfl | (congr 1; omega) | omega)
  have hn9 : a'.m.next ≤ mz.next := by rw [nz]; exact Nat.le_refl _
  have st : ∀ {v : Value} {L : List Value}, Sl (XG m.next) a.m v 3 1 L → Sl (XG m.next) mz v 3 1 L := fun {v L} h => by
   rcases h with h | ⟨b9, cap9, r9, n9, e1, e2, e3, e4⟩
   ·exact .inl h
   ·have hb9 := e3.1
    unfold XG at e2
    exact .inr ⟨b9, cap9, r9, n9, e1, by unfold XG; exact e2, (e3.stay kk (.inl ⟨hb9, by omega, by omega⟩)).keep hn9 (oz _ (by omega)), e4⟩
  refine ⟨?_, U, Fn, Ow, fb, fn, fc, ab, an, ac, da, dn, dc, Gg, ?_, ?_, ?_, ?_, rfl⟩
  ·simp only [evs]
   exact (M.k.trans (kk.sub (X' := (fun c => c < a.m.next ∧ c ≠ m.next ∧ c ≠ m.next + 1)) fun c hc => ⟨by have := M.k.1; omega, by omega, by omega⟩)).trans (Keep.row r2 (by omega) (by simp) oz nz)
  ·simp only [evs]; exact rU.keep hn9 (oz _ (by omega))
  ·simp only [evs]; exact rF.keep hn9 (oz _ (by omega))
  ·simp only [evs]; exact st M.sF
  ·simp only [evs]; exact st M.sA
end Go.Proofs.YtihokakelnfdgaaDoor
