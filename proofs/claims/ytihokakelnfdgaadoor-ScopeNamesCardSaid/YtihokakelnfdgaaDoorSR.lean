/- Part of a verified evaluator of the model's programs and of runs by it: SX3 SX4. -/
import Derived.Test.YtihokakelnfdgaaDoorSQ
namespace Go.Proofs.YtihokakelnfdgaaDoor
open Go Go.Ev
set_option maxRecDepth 100000
set_option linter.unusedVariables false
set_option linter.unusedSimpArgs false
set_option pp.maxSteps 1500

theorem Sl.form2 {X : Nat → Prop} {m : Mem} {v : Value} {e sz : Nat} {l : List Value} (h : Sl X m v e sz l) (hsz : 0 < sz) {n : Nat} (hl : l.length = n * sz) : ∃ a c, v = .slice a n c := by
 obtain ⟨a, k, c, rfl, hk⟩ := h.form hsz
 have : k = n := Nat.eq_of_mul_eq_mul_right hsz (by rw [← hk, hl])
 exact ⟨a, c, by rw [this]⟩
theorem Sl.use {X : Nat → Prop} {m : Mem} {v : Value} {us : List (Nat × Nat)} (h : Sl X m v 57 2 (encPs us)) {i : Nat} (hi : i < us.length) : ∃ b c, v = .slice (some ⟨b, 0, none⟩) us.length c ∧ loadAt evEnv m 57 b (0 + i * 2) = some (.agg ⟨[I us[i].1, I us[i].2]⟩) := by
 obtain ⟨b, cap, r, n, z1, z2, z3, z4, z5, z6, z7⟩ := h.at (i := i * 2) (by rw [encPs_len]; omega)
 have hn : n = us.length := by
  have := congrArg List.length z6
  rw [encPs_len, List.length_take] at this
  omega
 subst hn
 refine ⟨b, cap, z1, z3.loadA (k := 2) rfl rfl rfl (by omega) ?_⟩
 have q := encPs_drop us i _ (List.getElem?_eq_getElem hi)
 rw [z6, List.drop_take, List.take_take, Nat.min_eq_left (by omega)] at q
 rw [Nat.zero_add]; exact q
theorem Sl.formP {X : Nat → Prop} {m : Mem} {v : Value} {e sz : Nat} {l : List Value} (h : Sl X m v e sz l) (hsz : 0 < sz) {n : Nat} (hl : l.length = n * sz) : ∃ a c, v = .slice a n c ∧ (a = none ∨ ∃ b, a = some ⟨b, 0, none⟩) := by
 obtain ⟨a, c, rfl⟩ := Sl.form2 h hsz hl
 refine ⟨a, c, rfl, ?_⟩
 rcases h with ⟨h, -⟩ | ⟨b, cap, r, n', h, -⟩
 ·cases h; exact .inl rfl
 ·cases h; exact .inr ⟨b, rfl⟩
theorem Sl.use9 {X : Nat → Prop} {m : Mem} {v : Value} {us : List (Nat × Nat)} (h : Sl X m v 59 2 (encPs us)) {i : Nat} (hi : i < us.length) : ∃ b c, v = .slice (some ⟨b, 0, none⟩) us.length c ∧ loadAt evEnv m 59 b (0 + i * 2) = some (.agg ⟨[I us[i].1, I us[i].2]⟩) := by
 obtain ⟨b, cap, r, n, z1, z2, z3, z4, z5, z6, z7⟩ := h.at (i := i * 2) (by rw [encPs_len]; omega)
 have hn : n = us.length := by
  have := congrArg List.length z6
  rw [encPs_len, List.length_take] at this
  omega
 subst hn
 refine ⟨b, cap, z1, z3.loadA (k := 2) rfl rfl rfl (by omega) ?_⟩
 have q := encPs_drop us i _ (List.getElem?_eq_getElem hi)
 rw [z6, List.drop_take, List.take_take, Nat.min_eq_left (by omega)] at q
 rw [Nat.zero_add]; exact q
theorem Sl.fnl {X : Nat → Prop} {m : Mem} {v : Value} {cvs : List Value} {fs : List Fn} (h : Sl X m v 49 4 (encFns cvs fs)) (hc : cvs.length = fs.length) {i : Nat} (hi : i < fs.length) : ∃ b c, v = .slice (some ⟨b, 0, none⟩) fs.length c ∧ loadAt evEnv m 49 b (0 + i * 4) = some (.agg ⟨[I fs[i].node, I fs[i].params, I fs[i].slots, cvs[i]'(by omega)]⟩) := by
 have hlen := encFns_len cvs fs hc
 obtain ⟨b, cap, r, n, z1, z2, z3, z4, z5, z6, z7⟩ := h.at (i := i * 4) (by omega)
 have hn : n = fs.length := by
  have := congrArg List.length z6
  rw [List.length_take] at this
  omega
 subst hn
 refine ⟨b, cap, z1, z3.loadA (k := 4) rfl rfl rfl (by omega) ?_⟩
 have hg := fun j (hj : j < 4) => encFns_get cvs fs i j _ _ (List.getElem?_eq_getElem (by omega)) (List.getElem?_eq_getElem hi) hj
 apply List.ext_getElem?
 intro j
 rcases Nat.lt_or_ge j 4 with hj | hj
 ·rw [List.getElem?_take_of_lt hj, List.getElem?_drop]
  have := hg j hj
  rw [z6, List.getElem?_take_of_lt (by omega)] at this
  rw [show 0 + i * 4 + j = i * 4 + j by omega, this]; rfl
 ·rw [List.getElem?_eq_none (by rw [List.length_take]; omega), List.getElem?_eq_none (by simp; omega)]
attribute [local irreducible] quiet allocs effect wp ret wpO Runs Act.tmp Act.eval fin results Tree.set binOp loadAt storeAt target wanted cellsFrom

set_option maxHeartbeats 2000000 in
theorem same14 {X X' : Nat → Prop} (fv uv fv' uv' : Value) (fs : List Fn) (cvs cvs' : List Value) (us : List (Nat × Nat)) (m : Mem) (h1 : Sl X m fv 49 4 (encFns cvs fs)) (c1 : CapsR X m cvs fs) (u1 : Sl X m uv 57 2 (encPs us))
  (h2 : Sl X' m fv' 49 4 (encFns cvs' fs)) (c2 : CapsR X' m cvs' fs) (u2 : Sl X' m uv' 57 2 (encPs us)) (hf : fs.length ≤ 1000000) (hu : us.length ≤ 1000000) (hcs : ∀ f ∈ fs, f.caps.length ≤ 1000000) :
  Runs evEnv 14 [.agg ⟨[fv, uv, nilS]⟩, .agg ⟨[fv', uv', nilS]⟩] m fun v m' => v = .bool true := by
 obtain ⟨fa, fc, rfl⟩ := Sl.form2 h1 (by decide) (encFns_len cvs fs c1.1)
 obtain ⟨fa', fc', rfl⟩ := Sl.form2 h2 (by decide) (encFns_len cvs' fs c2.1)
 obtain ⟨ua, uc, rfl⟩ := Sl.form2 u1 (by decide) (encPs_len us)
 obtain ⟨ua', uc', rfl⟩ := Sl.form2 u2 (by decide) (encPs_len us)
 refine runs_start rfl rfl rfl rfl ?_
 have r2 := (row_new m [.slice fa fs.length fc, .slice ua us.length uc, nilS] 31 0).keep_new (rowObj [.slice fa' fs.length fc', .slice ua' us.length uc', nilS] 31 0)
 have r3 := row_new (m.new (rowObj [.slice fa fs.length fc, .slice ua us.length uc, nilS] 31 0)) [.slice fa' fs.length fc', .slice ua' us.length uc', nilS] 31 0
 have g0 : Grow m ((m.new (rowObj [.slice fa fs.length fc, .slice ua us.length uc, nilS] 31 0)).new (rowObj [.slice fa' fs.length fc', .slice ua' us.length uc', nilS] 31 0)) := ((Grow.refl m).new _).new _
 (repeat (first | apply wpN_cons | apply g_next | (apply G.h; constructor <;> (first | exact Zc | apply gI | ((repeat' (first | exact Y0 | apply Y1 | ((first | apply Y4 | apply Y5); simp only [evs, Nat.reduceEqDiff, reduceIte] <;> rfl))); done) | (apply Y6; (try simp only [evs]); first | exact r2.load1 rfl rfl rfl | exact r3.load1 rfl rfl rfl)))))
 refine ewp_loop (ι := Nat) (fun i a => (a.n = 135 ∧ a.defers = [] ∧ a.tmp 2 = ptr m.next ∧ a.tmp 3 = ptr (m.next + 1) ∧ a.tmp 5 = I i) ∧ a.m = (m.new (rowObj [.slice fa fs.length fc, .slice ua us.length uc, nilS] 31 0)).new (rowObj [.slice fa' fs.length fc', .slice ua' us.length uc', nilS] 31 0) ∧ i ≤ us.length) (fun i => us.length - i) 0 ?_ ?_
 ·exact ⟨(by refine ⟨?_, ?_, ?_, ?_, ?_⟩ <;> (simp only [evs, Nat.reduceEqDiff, reduceIte] <;> first | rfl | (congr 1; omega) | omega)), by (simp only [evs, Nat.reduceEqDiff, reduceIte] <;> first | rfl | (congr 1; omega) | omega), Nat.zero_le _⟩
 rintro i a ⟨⟨qn, qd, q2, q3, q5⟩, qm, hi⟩ ih
 rcases Nat.lt_or_ge i us.length with hlt | hge
 ·obtain ⟨b, c, e1, l1⟩ := Sl.use (u1.grow g0) hlt
  obtain ⟨b', c', e2, l2⟩ := Sl.use (u2.grow g0) hlt
  cases e1; cases e2
  (repeat (first | apply wpN_cons | apply g_next | (apply G.h; constructor <;> (first | exact Zc | apply gI | ((repeat' (first | exact Y0 | apply Y1 | ((first | apply Y4 | apply Y5); simp only [evs, Nat.reduceEqDiff, reduceIte, qn, qd, q2, q3, q5, qm] <;> rfl))); done) | (apply Y6; (try simp only [evs, qn, qd, q2, q3, q5, qm]); first | exact r2.load1 rfl rfl rfl | exact r3.load1 rfl rfl rfl | exact l1 | exact l2)))))
  refine ih (i + 1) _ ⟨(by refine ⟨?_, ?_, ?_, ?_, ?_⟩ <;> (simp only [evs, Nat.reduceEqDiff, reduceIte, qn, qd, q2, q3, q5] <;> first | rfl | (congr 1; omega) | omega)), by (simp only [evs, Nat.reduceEqDiff, reduceIte, qm] <;> first | rfl | (congr 1; omega) | omega), hlt⟩ (by omega)
 obtain rfl : i = us.length := by omega
 (repeat (first | apply wpN_cons | apply g_next | (apply G.h; constructor <;> (first | exact Zc | apply gI | ((repeat' (first | exact Y0 | apply Y1 | ((first | apply Y4 | apply Y5); simp only [evs, Nat.reduceEqDiff, reduceIte, qn, qd, q2, q3, q5, qm] <;> rfl))); done) | (apply Y6; (try simp only [evs, qn, qd, q2, q3, q5, qm]); first | exact r2.load1 rfl rfl rfl)))))
 refine ewp_loop (ι := Nat) (fun i a => (a.n = 135 ∧ a.defers = [] ∧ a.tmp 2 = ptr m.next ∧ a.tmp 3 = ptr (m.next + 1) ∧ a.tmp 6 = I 0) ∧ a.m = (m.new (rowObj [.slice fa fs.length fc, .slice ua us.length uc, nilS] 31 0)).new (rowObj [.slice fa' fs.length fc', .slice ua' us.length uc', nilS] 31 0)) (fun i => 0) 0 ?_ ?_
 ·exact ⟨(by refine ⟨?_, ?_, ?_, ?_, ?_⟩ <;> (simp only [evs, Nat.reduceEqDiff, reduceIte, qn, qd, q2, q3, q5] <;> first | rfl | (congr 1; omega) | omega)), by (simp only [evs, Nat.reduceEqDiff, reduceIte, qm] <;> first | rfl | (congr 1; omega) | omega)⟩
 clear ih qn qd q2 q3 q5 qm hi hge
 rintro i a ⟨⟨pn, pd, p2, p3, p6⟩, pm⟩ -
 (repeat (first | apply wpN_cons | apply g_next | (apply G.h; constructor <;> (first | exact Zc | apply gI | ((repeat' (first | exact Y0 | apply Y1 | ((first | apply Y4 | apply Y5); simp only [evs, Nat.reduceEqDiff, reduceIte, pn, pd, p2, p3, p6, pm] <;> rfl))); done) | (apply Y6; (try simp only [evs, pn, pd, p2, p3, p6, pm]); first | exact r2.load1 rfl rfl rfl)))))
 refine ewp_loop (ι := Nat) (fun i a => (a.n = 135 ∧ a.defers = [] ∧ a.tmp 2 = ptr m.next ∧ a.tmp 3 = ptr (m.next + 1) ∧ a.tmp 7 = I i) ∧ Grow m a.m ∧ Row a.m m.next [.slice fa fs.length fc, .slice ua us.length uc, nilS] 31 0 ∧ Row a.m (m.next + 1) [.slice fa' fs.length fc', .slice ua' us.length uc', nilS] 31 0 ∧ i ≤ fs.length) (fun i => fs.length - i) 0 ?_ ?_
 ·exact ⟨(by refine ⟨?_, ?_, ?_, ?_, ?_⟩ <;> (simp only [evs, Nat.reduceEqDiff, reduceIte, pn, pd, p2, p3, p6] <;> first | rfl | (congr 1; omega) | omega)), by simp only [evs, pm]; exact g0, by simp only [evs, pm]; exact r2, by simp only [evs, pm]; exact r3, Nat.zero_le _⟩
 clear pn pd p2 p3 p6 pm r2 r3
 rintro i a ⟨⟨wn, wd, w2, w3, w7⟩, gr, r2, r3, hi⟩ ih
 rcases Nat.lt_or_ge i fs.length with hlt | hge
 ·obtain ⟨b, c, e1, l1⟩ := Sl.fnl ((h1.grow gr).grow (((Grow.refl a.m).new (rowObj [I 0, I 0, I 0, nilS] 49 0)).new (rowObj [I 0, I 0, I 0, nilS] 49 0))) c1.1 hlt
  obtain ⟨b', c', e2, l2⟩ := Sl.fnl ((h2.grow gr).grow (((Grow.refl a.m).new (rowObj [I 0, I 0, I 0, nilS] 49 0)).new (rowObj [I 0, I 0, I 0, nilS] 49 0))) c2.1 hlt
  cases e1; cases e2
  have s1 := c1.2.1 i _ _ (List.getElem?_eq_getElem (by rw [c1.1]; exact hlt)) (List.getElem?_eq_getElem hlt)
  have s2 := c2.2.1 i _ _ (List.getElem?_eq_getElem (by rw [c2.1]; exact hlt)) (List.getElem?_eq_getElem hlt)
  obtain ⟨ka, kc, hk1⟩ := Sl.form2 s1 (by decide) (encPs_len _)
  obtain ⟨ka', kc', hk2, hka'⟩ := Sl.formP s2 (by decide) (encPs_len _)
  rw [hk1] at l1 s1
  rw [hk2] at l2 s2
  have t2 := (r2.keep_new (rowObj [I 0, I 0, I 0, nilS] 49 0)).keep_new (rowObj [I 0, I 0, I 0, nilS] 49 0)
  have t3 := (r3.keep_new (rowObj [I 0, I 0, I 0, nilS] 49 0)).keep_new (rowObj [I 0, I 0, I 0, nilS] 49 0)
  have z8 := (row_new a.m [I 0, I 0, I 0, nilS] 49 0).keep_new (rowObj [I 0, I 0, I 0, nilS] 49 0)
  have z9 := row_new (a.m.new (rowObj [I 0, I 0, I 0, nilS] 49 0)) [I 0, I 0, I 0, nilS] 49 0
  (repeat (first | apply wpN_cons | apply g_next | (apply G.h; constructor <;> (first | exact Zc | apply gI | ((repeat' (first | exact Y0 | apply Y1 | ((first | apply Y4 | apply Y5); simp only [evs, Nat.reduceEqDiff, reduceIte, wn, wd, w2, w3, w7] <;> rfl))); done) | (apply Y6; (try simp only [evs, wn, wd, w2, w3, w7]); first | exact r2.load1 rfl rfl rfl)))))
  (apply g_regionN [10, 11, 0, 1, 2, 3, 4, 5, 6, 7, 8, 9, 12, 13] [(7, 13), (8, 13), (9, 13), (10, 13), (11, 13)]; (focus exact Kr.mk (by kernel_rfl)); (focus exact Rf.mk))
  (repeat (first | apply wpN_cons | apply g_next | (apply G.h; constructor <;> (first | exact Zc | apply gI | ((repeat' (first | exact Y0 | apply Y1 | ((first | apply Y4 | apply Y5); simp only [evs, Nat.reduceEqDiff, reduceIte, wn, wd, w2, w3, w7] <;> rfl))); done) | (apply Y6; (try simp only [evs, wn, wd, w2, w3, w7]); first | exact t2.load1 rfl rfl rfl | exact t3.load1 rfl rfl rfl | exact l1 | exact l2)))))
  (apply g_stR <;> (first | exact Zc | apply gI | ((repeat' (first | exact Y0 | apply Y1 | exact Y2 | apply Y3 | ((first | apply Y4 | apply Y5); simp only [evs, Nat.reduceEqDiff, reduceIte, wn, wd, w2, w3, w7] <;> rfl))); done) | (apply Hy.mk; (try simp only [evs, wn, wd, w2, w3, w7]); first | exact z8 | assumption) | (apply Om.mk; first | exact z8) | (apply Y6; (try simp only [evs, wn, wd, w2, w3, w7]); first | rfl) | apply Cn.mk))
  intro m4 r4 o4 n4; simp only [evs, wn, wd, w2, w3, w7] at r4 o4 n4
  have z9' := z9.keep (m' := m4) (by rw [n4]; exact Nat.le_refl _) (o4 _ (Nat.ne_of_gt (Nat.lt_succ_self _)))
  (repeat (first | apply wpN_cons | apply g_next | (apply G.h; constructor <;> (first | exact Zc | apply gI | ((repeat' (first | exact Y0 | apply Y1 | ((first | apply Y4 | apply Y5); simp only [evs, Nat.reduceEqDiff, reduceIte, wn, wd, w2, w3, w7] <;> rfl))); done) | (apply Y6; (try simp only [evs, wn, wd, w2, w3, w7]); first | rfl)))))
  (apply g_stR <;> (first | exact Zc | apply gI | ((repeat' (first | exact Y0 | apply Y1 | exact Y2 | apply Y3 | ((first | apply Y4 | apply Y5); simp only [evs, Nat.reduceEqDiff, reduceIte, wn, wd, w2, w3, w7] <;> rfl))); done) | (apply Hy.mk; (try simp only [evs, wn, wd, w2, w3, w7]); first | exact z9' | assumption) | (apply Om.mk; first | exact z9') | (apply Y6; (try simp only [evs, wn, wd, w2, w3, w7]); first | rfl) | apply Cn.mk))
  intro m5 r5 o5 n5; simp only [evs, wn, wd, w2, w3, w7] at r5 o5 n5
  (repeat (first | apply wpN_cons | apply g_next | (apply G.h; constructor <;> (first | exact Zc | apply gI | ((repeat' (first | exact Y0 | apply Y1 | ((first | apply Y4 | apply Y5); simp only [evs, Nat.reduceEqDiff, reduceIte, wn, wd, w2, w3, w7] <;> rfl))); done) | (apply Y6; (try simp only [evs, wn, wd, w2, w3, w7]); first | rfl)))))
  have g4 : Grow a.m m4 := (((Grow.refl a.m).new _).new _).wrote (Nat.le_refl _) o4 n4
  have g5 : Grow a.m m5 := g4.wrote (b := a.m.next + 1) (Nat.le_succ _) o5 n5
  obtain ⟨b9, c9, e9, l9⟩ := Sl.fnl ((h2.grow gr).grow g4) c2.1 hlt
  cases e9
  rw [hk2] at l9
  have t35 := r3.grow g4
  refine g_last (.mk ⟨.mk ?_, .mk ?_, .mk ?_, .mk ?_, .mk ?_, trivial⟩) ?_
  ·(apply again_of; exact Rf.mk; exact Rf.mk; (apply Ev.mk; (simp only [evs, Nat.reduceEqDiff, reduceIte, wn, wd, w2, w3, w7] <;> rfl)); exact Rf.mk; (repeat (first | apply wpN_cons | apply g_next | (apply G.h; constructor <;> (first | exact Zc | apply gI | ((repeat' (first | exact Y0 | apply Y1 | ((first | apply Y4 | apply Y5); simp only [evs, Nat.reduceEqDiff, reduceIte, wn, wd, w2, w3, w7] <;> rfl))); done) | (apply Y6; (try simp only [evs, wn, wd, w2, w3, w7]); first | exact t35.load1 rfl rfl rfl))))); refine eret_nil ?_; (simp only [evs, Nat.reduceEqDiff, reduceIte, wn, wd, w2, w3, w7] <;> rfl))
  ·(apply again_of; exact Rf.mk; exact Rf.mk; (apply Ev.mk; (simp only [evs, Nat.reduceEqDiff, reduceIte, wn, wd, w2, w3, w7] <;> rfl)); exact Rf.mk; (repeat (first | apply wpN_cons | apply g_next | (apply G.h; constructor <;> (first | exact Zc | apply gI | ((repeat' (first | exact Y0 | apply Y1 | ((first | apply Y4 | apply Y5); simp only [evs, Nat.reduceEqDiff, reduceIte, wn, wd, w2, w3, w7] <;> rfl))); done) | (apply Y6; (try simp only [evs, wn, wd, w2, w3, w7]); first | exact t35.load1 rfl rfl rfl))))); refine eret_nil ?_; (simp only [evs, Nat.reduceEqDiff, reduceIte, wn, wd, w2, w3, w7] <;> rfl))
  ·(apply again_of; exact Rf.mk; exact Rf.mk; (apply Ev.mk; (simp only [evs, Nat.reduceEqDiff, reduceIte, wn, wd, w2, w3, w7] <;> rfl)); exact Rf.mk; (repeat (first | apply wpN_cons | apply g_next | (apply G.h; constructor <;> (first | exact Zc | apply gI | ((repeat' (first | exact Y0 | apply Y1 | ((first | apply Y4 | apply Y5); simp only [evs, Nat.reduceEqDiff, reduceIte, wn, wd, w2, w3, w7] <;> rfl))); done) | (apply Y6; (try simp only [evs, wn, wd, w2, w3, w7]); first | exact t35.load1 rfl rfl rfl))))); refine eret_nil ?_; (simp only [evs, Nat.reduceEqDiff, reduceIte, wn, wd, w2, w3, w7] <;> rfl))
  ·(apply again_of; exact Rf.mk; exact Rf.mk; (apply Ev.mk; (simp only [evs, Nat.reduceEqDiff, reduceIte, wn, wd, w2, w3, w7] <;> rfl)); exact Rf.mk; (repeat (first | apply wpN_cons | apply g_next | (apply G.h; constructor <;> (first | exact Zc | apply gI | ((repeat' (first | exact Y0 | apply Y1 | ((first | apply Y4 | apply Y5); simp only [evs, Nat.reduceEqDiff, reduceIte, wn, wd, w2, w3, w7] <;> rfl))); done) | (apply Y6; (try simp only [evs, wn, wd, w2, w3, w7]); first | exact t35.load1 rfl rfl rfl))))); refine eret_nil ?_; (simp only [evs, Nat.reduceEqDiff, reduceIte, wn, wd, w2, w3, w7] <;> rfl))
  ·rcases hka' with rfl | ⟨kb', rfl⟩
   ·(apply again_of; exact Rf.mk; exact Rf.mk; (apply Ev.mk; (simp only [evs, Nat.reduceEqDiff, reduceIte, wn, wd, w2, w3, w7] <;> rfl)); exact Rf.mk; (repeat (first | apply wpN_cons | apply g_next | (apply G.h; constructor <;> (first | exact Zc | apply gI | ((repeat' (first | exact Y0 | apply Y1 | ((first | apply Y4 | apply Y5); simp only [evs, Nat.reduceEqDiff, reduceIte, wn, wd, w2, w3, w7] <;> rfl))); done) | (apply Y6; (try simp only [evs, wn, wd, w2, w3, w7]); first | exact l9))))); refine eret_nil ?_; (simp only [evs, Nat.reduceEqDiff, reduceIte, wn, wd, w2, w3, w7] <;> rfl))
   ·(apply again_of; exact Rf.mk; exact Rf.mk; (apply Ev.mk; (simp only [evs, Nat.reduceEqDiff, reduceIte, wn, wd, w2, w3, w7] <;> rfl)); exact Rf.mk; (repeat (first | apply wpN_cons | apply g_next | (apply G.h; constructor <;> (first | exact Zc | apply gI | ((repeat' (first | exact Y0 | apply Y1 | ((first | apply Y4 | apply Y5); simp only [evs, Nat.reduceEqDiff, reduceIte, wn, wd, w2, w3, w7] <;> rfl))); done) | (apply Y6; (try simp only [evs, wn, wd, w2, w3, w7]); first | exact l9))))); refine eret_nil ?_; (simp only [evs, Nat.reduceEqDiff, reduceIte, wn, wd, w2, w3, w7] <;> rfl))
  have x5 := r4.keep (m' := m5) (by rw [n5]; exact Nat.le_refl _) (o5 _ (Nat.ne_of_lt (Nat.lt_succ_self _)))
  have s1' := (s1.grow gr).grow g5
  have s2' := (s2.grow gr).grow g5
  have hcl := hcs _ (List.getElem_mem hlt)
  generalize fs[i] = fi at *
  (repeat (first | apply wpN_cons | apply g_next | (apply G.h; constructor <;> (first | exact Zc | apply gI | ((repeat' (first | exact Y0 | apply Y1 | ((first | apply Y4 | apply Y5); simp only [evs, Nat.reduceEqDiff, reduceIte, wn, wd, w2, w3, w7] <;> rfl))); done) | (apply Y6; (try simp only [evs, wn, wd, w2, w3, w7]); first | exact x5.load1 rfl rfl rfl | exact r5.load1 rfl rfl rfl)))))
  refine ewp_loop (ι := Nat) (fun k a2 => (a2.n = 135 ∧ a2.defers = [] ∧ a2.tmp 2 = ptr m.next ∧ a2.tmp 3 = ptr (m.next + 1) ∧ a2.tmp 7 = I i ∧ a2.tmp 8 = ptr a.m.next ∧ a2.tmp 9 = ptr (a.m.next + 1) ∧ a2.tmp 10 = I k) ∧ a2.m = m5 ∧ k ≤ fi.caps.length) (fun k => fi.caps.length - k) 0 ?_ ?_
  ·exact ⟨(by refine ⟨?_, ?_, ?_, ?_, ?_, ?_, ?_, ?_⟩ <;> (simp only [evs, Nat.reduceEqDiff, reduceIte, wn, wd, w2, w3, w7] <;> first | rfl | (congr 1; omega) | omega)), by (simp only [evs, Nat.reduceEqDiff, reduceIte] <;> first | rfl | (congr 1; omega) | omega), Nat.zero_le _⟩
  rintro k a2 ⟨⟨xn, xd, x2, x3, x7, x8, x9, x10⟩, xm, hk⟩ ihk
  rcases Nat.lt_or_ge k fi.caps.length with hkl | hkg
  ·obtain ⟨p1, q1, f1, lk1⟩ := Sl.use9 s1' hkl
   obtain ⟨p2, q2, f2, lk2⟩ := Sl.use9 s2' hkl
   cases f1; cases f2
   (repeat (first | apply wpN_cons | apply g_next | (apply G.h; constructor <;> (first | exact Zc | apply gI | ((repeat' (first | exact Y0 | apply Y1 | ((first | apply Y4 | apply Y5); simp only [evs, Nat.reduceEqDiff, reduceIte, xn, xd, x2, x3, x7, x8, x9, x10, xm] <;> rfl))); done) | (apply Y6; (try simp only [evs, xn, xd, x2, x3, x7, x8, x9, x10, xm]); first | exact x5.load1 rfl rfl rfl | exact r5.load1 rfl rfl rfl | exact lk1 | exact lk2)))))
   refine ihk (k + 1) _ ⟨(by refine ⟨?_, ?_, ?_, ?_, ?_, ?_, ?_, ?_⟩ <;> (simp only [evs, Nat.reduceEqDiff, reduceIte, xn, xd, x2, x3, x7, x8, x9, x10] <;> first | rfl | (congr 1; omega) | omega)), by (simp only [evs, Nat.reduceEqDiff, reduceIte, xm] <;> first | rfl | (congr 1; omega) | omega), hkl⟩ (by omega)
  ·obtain rfl : k = fi.caps.length := by omega
   (repeat (first | apply wpN_cons | apply g_next | (apply G.h; constructor <;> (first | exact Zc | apply gI | ((repeat' (first | exact Y0 | apply Y1 | ((first | apply Y4 | apply Y5); simp only [evs, Nat.reduceEqDiff, reduceIte, xn, xd, x2, x3, x7, x8, x9, x10, xm] <;> rfl))); done) | (apply Y6; (try simp only [evs, xn, xd, x2, x3, x7, x8, x9, x10, xm]); first | exact x5.load1 rfl rfl rfl | exact r5.load1 rfl rfl rfl)))))
   refine ih (i + 1) _ ⟨(by refine ⟨?_, ?_, ?_, ?_, ?_⟩ <;> (simp only [evs, Nat.reduceEqDiff, reduceIte, xn, xd, x2, x3, x7, x8, x9, x10] <;> first | rfl | (congr 1; omega) | omega)), by simp only [evs, xm]; exact gr.trans g5, by simp only [evs, xm]; exact r2.grow g5, by simp only [evs, xm]; exact r3.grow g5, hlt⟩ (by omega)
 ·obtain rfl : i = fs.length := by omega
  (repeat (first | apply wpN_cons | apply g_next | (apply G.h; constructor <;> (first | exact Zc | apply gI | ((repeat' (first | exact Y0 | apply Y1 | ((first | apply Y4 | apply Y5); simp only [evs, Nat.reduceEqDiff, reduceIte, wn, wd, w2, w3, w7] <;> rfl))); done) | (apply Y6; (try simp only [evs, wn, wd, w2, w3, w7]); first | exact r2.load1 rfl rfl rfl)))))
  (refine g_fin (by repeat' first | exact Rs.nil | apply Rs.cons | (apply Y4; simp only [evs, Nat.reduceEqDiff, reduceIte, wn, wd, w2, w3, w7] <;> rfl)) (by (simp only [evs, Nat.reduceEqDiff, reduceIte, wn, wd, w2, w3, w7] <;> first | rfl | (congr 1; omega) | omega)) ?_)
  rfl
end Go.Proofs.YtihokakelnfdgaaDoor

namespace Go.Proofs.YtihokakelnfdgaaDoor
open Go Go.Ev
set_option maxRecDepth 100000
set_option linter.unusedVariables false
set_option linter.unusedSimpArgs false
set_option pp.maxSteps 1500

theorem _root_.Go.Ev.Sl.held {X : Nat → Prop} {T : List Nat} {m m' : Mem} {v : Value} {e sz : Nat} {l : List Value} (h : Sl X m v e sz l) (k : Keep (fun c => c < m.next) T m m') : Sl X m' v e sz l := by
 rcases h with h | ⟨b, cap, r, n, h1, h2, h3, h4⟩
 ·exact .inl h
 ·exact .inr ⟨b, cap, r, n, h1, h2, h3.stay k (.inl h3.1), h4⟩
/-- what is told, where it lies. -/
def Fm (X : Nat → Prop) (m : Mem) (fs : List Fn) (us : List (Nat × Nat)) (gs : List Bs) (cvs : List Value) (a1 a2 a3 : Value) : Prop :=
 Sl X m a1 49 4 (encFns cvs fs) ∧ CapsR X m cvs fs ∧ Sl X m a2 57 2 (encPs us) ∧ Sl X m a3 9 1 (gs.map encS)
section
variable {X X' : Nat → Prop} {m m' : Mem} {fs : List Fn} {us : List (Nat × Nat)} {gs : List Bs} {cvs : List Value} {a1 a2 a3 : Value} {T : List Nat}
theorem Fm.grow (h : Fm X m fs us gs cvs a1 a2 a3) (g : Grow m m') : Fm X m' fs us gs cvs a1 a2 a3 :=
 ⟨h.1.grow g, ⟨h.2.1.1, fun i cv f x y => (h.2.1.2.1 i cv f x y).grow g, h.2.1.2.2⟩, h.2.2.1.grow g, h.2.2.2.grow g⟩
theorem Fm.held (h : Fm X m fs us gs cvs a1 a2 a3) (k : Keep (fun c => c < m.next) T m m') : Fm X m' fs us gs cvs a1 a2 a3 :=
 ⟨h.1.held k, ⟨h.2.1.1, fun i cv f x y => (h.2.1.2.1 i cv f x y).held k, h.2.1.2.2⟩, h.2.2.1.held k, h.2.2.2.held k⟩
theorem Fm.sub (h : Fm X m fs us gs cvs a1 a2 a3) (hx : ∀ b, b < m.next → ¬ X b → ¬ X' b) : Fm X' m fs us gs cvs a1 a2 a3 :=
 ⟨h.1.sub hx, ⟨h.2.1.1, fun i cv f x y => (h.2.1.2.1 i cv f x y).sub hx, h.2.1.2.2⟩, h.2.2.1.sub hx, h.2.2.2.sub hx⟩
theorem Fm.stay (h : Fm X m fs us gs cvs a1 a2 a3) (k : Keep X [31] m m') : Fm X m' fs us gs cvs a1 a2 a3 :=
 ⟨h.1.stay k (by decide), ⟨h.2.1.1, fun i cv f x y => (h.2.1.2.1 i cv f x y).stay k (by decide), h.2.1.2.2⟩, h.2.2.1.stay k (by decide), h.2.2.2.stay k (by decide)⟩
theorem Fm.nil (X : Nat → Prop) (m : Mem) : Fm X m [] [] [] [] nilS nilS nilS :=
 ⟨.inl ⟨rfl, rfl⟩, ⟨rfl, fun i cv f x y => (by simp at y), fun i j v w b x y => (by simp at x)⟩, .inl ⟨rfl, rfl⟩, .inl ⟨rfl, rfl⟩⟩
end
/-- what Resolve answers, one form. -/
theorem res_form {X : Nat → Prop} {m : Mem} {l : List Nd} {v : Value} (h : (okProg l = false ∧ ∃ e : Nat, e ≠ 0 ∧ v = .tuple ⟨[.agg ⟨[nilS, nilS, nilS]⟩, I e, I 0]⟩) ∨ (okProg l = true ∧ ResV X m (walked l) v)) :
  ∃ (a1 a2 a3 : Value) (e p : Int) (fs : List Fn) (us : List (Nat × Nat)) (gs : List Bs) (cvs : List Value), v = .tuple ⟨[.agg ⟨[a1, a2, a3]⟩, I e, I p]⟩ ∧ Fm X m fs us gs cvs a1 a2 a3 ∧
   (okProg l = true → e = (walked l).e ∧ (((walked l).e = 0 ∧ p = 0 ∧ fs = (walked l).funs ∧ us = finish (walked l).decls (walked l).means (walked l).uses ∧ gs = (walked l).globals) ∨ ((walked l).e ≠ 0 ∧ p = (walked l).place ∧ fs = [] ∧ us = [] ∧ gs = []))) := by
 rcases h with ⟨hp, e, he, rfl⟩ | ⟨hp, ⟨he, rfl⟩ | ⟨he, fv, uv, gv, cvs, rfl, sf, cf, su, sg⟩⟩
 ·exact ⟨nilS, nilS, nilS, e, 0, [], [], [], [], rfl, Fm.nil X m, fun hh => by rw [hp] at hh; cases hh⟩
 ·exact ⟨nilS, nilS, nilS, (walked l).e, (walked l).place, [], [], [], [], rfl, Fm.nil X m, fun _ => ⟨rfl, .inr ⟨he, rfl, rfl, rfl, rfl⟩⟩⟩
 ·exact ⟨fv, uv, gv, 0, 0, _, _, _, cvs, rfl, ⟨sf, cf, su, sg⟩, fun _ => ⟨by rw [he]; rfl, .inl ⟨he, rfl, rfl, rfl, rfl⟩⟩⟩
theorem walked_inv {l : List Nd} (hp : okProg l = true) (hlen : l.length ≤ 400) (h0 : 0 < l.length) : Inv l 801 (walked l) := by
 have P := okProg_prg hp
 have hall := (prog_D hp).1
 have hD1 := (D_kids (at_ := 0) h0 (by simpa using hall)).2.2
 have hx : l[0]? = some l[0] := List.getElem?_eq_getElem h0
 have hN := nodeI P hlen (hoisted l) l.length
 have hD1' : D (l.drop (start l).pc) l[0].n.toNat = some (l.length - 1) := hD1
 have hwk : walked l = times (nodeM l (hoisted l) l.length) l[0].n.toNat (start l) := by unfold walked; rw [hx]
 rw [hwk]
 exact (times_inv hN l[0].n.toNat (start l) 1 (l.length - 1) (startI h0) hD1' (by omega)).1.mono (by omega)
/-- both at once: the same, but for the globals' names. -/
theorem both_form {l : List Nd} (hl : l.length ≤ 400) (h0 : 0 < l.length) (hT : ∀ x ∈ l, x.text.length ≤ 140737488351232) (hq : ∀ x ∈ l, primI x.text = none → primI (rnd ren x).text = none) (hp : okProg l = true)
  {e e' p p' : Int} {fs fs' : List Fn} {us us' : List (Nat × Nat)} {gs gs' : List Bs}
  (h : e = (walked l).e ∧ (((walked l).e = 0 ∧ p = 0 ∧ fs = (walked l).funs ∧ us = finish (walked l).decls (walked l).means (walked l).uses ∧ gs = (walked l).globals) ∨ ((walked l).e ≠ 0 ∧ p = (walked l).place ∧ fs = [] ∧ us = [] ∧ gs = [])))
  (h' : e' = (walked (l.map (rnd ren))).e ∧ (((walked (l.map (rnd ren))).e = 0 ∧ p' = 0 ∧ fs' = (walked (l.map (rnd ren))).funs ∧ us' = finish (walked (l.map (rnd ren))).decls (walked (l.map (rnd ren))).means (walked (l.map (rnd ren))).uses ∧ gs' = (walked (l.map (rnd ren))).globals) ∨ ((walked (l.map (rnd ren))).e ≠ 0 ∧ p' = (walked (l.map (rnd ren))).place ∧ fs' = [] ∧ us' = [] ∧ gs' = []))) :
  e' = e ∧ p' = p ∧ fs' = fs ∧ us' = us ∧ gs' = gs.map (· ++ q9) ∧ (∀ s ∈ gs, s.length ≤ 140737488351232) ∧ fs.length ≤ 801 ∧ us.length ≤ 801 ∧ gs.length ≤ 801 ∧ ∀ f ∈ fs, f.caps.length ≤ 1000000 := by
 have hM : Nm ren (fun s => ∃ x ∈ l, (x.kind = 19 ∨ x.kind = 3 ∨ x.kind = 12 ∨ x.kind = 11) ∧ x.text = s) := ren_nm _ fun s ⟨x, hx, hk, hxs⟩ hn => by
  subst hxs
  have := hq x hx hn
  rwa [rnd_text hk, ren_prim hn] at this
 obtain ⟨w1, w2⟩ := walked_rn hM hp hl h0 (fun x hx hk => ⟨x, hx, hk, rfl⟩) hT
 have hI := walked_inv hp hl h0
 rw [w1] at h'
 obtain ⟨he, h⟩ := h
 obtain ⟨he', h'⟩ := h'
 have hee : (rn ren (walked l)).e = (walked l).e := rfl
 rcases h with ⟨z, rfl, rfl, rfl, rfl⟩ | ⟨z, rfl, rfl, rfl, rfl⟩
 ·rcases h' with ⟨z', rfl, rfl, rfl, rfl⟩ | ⟨z', -⟩
  ·refine ⟨by rw [he, he', hee], rfl, rfl, rfl, ?_, fun s hs => (w2 z s hs).2, Nat.le_trans hI.nf (by omega), ?_, Nat.le_trans hI.globals (by omega), fun f hf => Nat.le_trans (hI.caps f hf) (by omega)⟩
   ·show (walked l).globals.map ren = _
    exact List.map_congr_left fun s hs => ren_prim (w2 z s hs).1
   ·rw [finish_zip _ _ _ (by rw [hI.means, hI.uses]), List.length_zipWith, hI.means, hI.uses]; omega
  ·exact absurd (hee.trans z) z'
 ·rcases h' with ⟨z', -⟩ | ⟨z', rfl, rfl, rfl, rfl⟩
  ·exact absurd (hee.symm.trans z') z
  ·exact ⟨by rw [he, he', hee], rfl, rfl, rfl, rfl, fun s hs => (by cases hs), by simp, by simp, by simp, fun f hf => (by cases hf)⟩
end Go.Proofs.YtihokakelnfdgaaDoor
