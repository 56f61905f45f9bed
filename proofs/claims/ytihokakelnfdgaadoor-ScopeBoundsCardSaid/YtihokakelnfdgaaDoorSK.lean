/- Part of a verified evaluator of the model's programs and of runs by it: SQG. -/
import Derived.Test.YtihokakelnfdgaaDoorSJ
namespace Go.Proofs.YtihokakelnfdgaaDoor
open Go Go.Ev
set_option maxRecDepth 100000
set_option linter.unusedVariables false
set_option linter.unusedSimpArgs false
set_option pp.maxSteps 1500
attribute [local irreducible] quiet allocs effect wp ret wpO Runs Act.tmp Act.eval fin results Tree.set binOp loadAt storeAt target wanted cellsFrom

section
variable {A : Args} {wb f : Nat}
theorem encFns_app : ∀ (cvs : List Value) (fs : List Fn) (cv : Value) (g : Fn), cvs.length = fs.length → encFns (cvs ++ [cv]) (fs ++ [g]) = encFns cvs fs ++ encFn cv g
 | [], [], cv, g, _ => by simp [encFns]
 | c :: cvs, f :: fs, cv, g, h => by
  simp only [List.length_cons, Nat.add_right_cancel_iff] at h
  simp only [List.cons_append, encFns, encFns_app cvs fs cv g h, List.append_assoc]
theorem CapsR.opened {X : Nat → Prop} {m : Mem} {cvs : List Value} {fs : List Fn} (h : CapsR X m cvs fs) (g : Fn) (hg : g.caps = []) : CapsR X m (cvs ++ [.slice none 0 0]) (fs ++ [g]) := by
 obtain ⟨h1, h2, h3⟩ := h
 have hb : ∀ (i : Nat) (v : Value) (b : Nat), (cvs ++ [.slice none 0 0])[i]? = some v → blockOf v = some b → cvs[i]? = some v := by
  intro i v b hi hv
  rcases Nat.lt_or_ge i cvs.length with hlt | hge
  ·rwa [List.getElem?_append_left hlt] at hi
  ·rw [List.getElem?_append_right hge] at hi
   have := (List.getElem?_eq_some_iff.1 hi).1
   simp only [List.length_cons, List.length_nil] at this
   have : i - cvs.length = 0 := by omega
   rw [this] at hi
   cases hi; cases hv
 refine ⟨by simp [h1], fun i cv f e1 e2 => ?_, fun i j v w b e1 e2 e3 e4 => h3 i j v w b (hb i v b e1 e3) (hb j w b e2 e4) e3 e4⟩
 rcases Nat.lt_or_ge i cvs.length with hlt | hge
 ·rw [List.getElem?_append_left hlt] at e1
  rw [List.getElem?_append_left (by omega)] at e2
  exact h2 i cv f e1 e2
 ·rw [List.getElem?_append_right hge] at e1
  rw [List.getElem?_append_right (by omega)] at e2
  have := (List.getElem?_eq_some_iff.1 e1).1
  simp only [List.length_cons, List.length_nil] at this
  rw [show i - cvs.length = 0 by omega] at e1
  rw [show i - fs.length = 0 by omega] at e2
  cases e1; cases e2
  exact .inl ⟨rfl, by rw [hg]; rfl⟩

def FSt (X : Nat → Prop) (A : Args) (wb : Nat) (fB dB : List Nat) (V : Vs) (m0 : Mem) (p kw nk : Nat) (x : Nd) (S : MS) (a : Ev.Act) : Prop :=
 (a.n = 101 ∧ a.defers = [] ∧ a.tmp 1 = I p ∧ a.tmp 2 = ptr kw ∧ a.tmp 4 = ptr nk) ∧ Row a.m nk x.val 43 0 ∧ Row a.m kw [ptr wb] 78 0 ∧ Rep X A a.m wb S fB dB V ∧ Keep X [83] m0 a.m

theorem function80 (P : Prog A) (hN : NodeC A wb f) {X : Nat → Prop} {S : MS} {m : Mem} {fB dB : List Nat} {V : Vs} {b k p : Nat} (h : Rep X A m wb S fB dB V) (J : Inv A.l b S) (hz : NZ (frK S)) (hp : p < A.l.length) (hkd : A.l[p].kind = 12 ∨ A.l[p].kind = 31) (hpc : S.pc = p + 1) (hfr : S.frames.length + 1 ≤ S.pc)
  (hb : b + 1 + 2 * k ≤ 1300) (hD : D (A.l.drop (p + 1)) A.l[p].n.toNat = some k) (hk : k ≤ f) :
  Runs evEnv 80 [ptr wb, I p] m fun _ m' => Done X A wb m m' fB dB (S.function A.l (nodeM A.l A.g f) p A.l[p]) := by
 have hfl := h.frs.len
 have hnI := nodeI P.prg P.le A.g f
 have hJ1 := J.nfr
 have hJ2 := J.pc
 have hple := P.le
 obtain ⟨c1, c2, c3⟩ := cntF (P.prg.ok _ (List.getElem_mem hp)) hkd
 obtain ⟨num, hnum⟩ : ∃ n : Nat, A.l[p].num = n := ⟨A.l[p].num.toNat, by omega⟩
 have hpar := P.prg.params hp hkd
 have hnD := names_D P.prg.ok num (p + 1) fun i hi => hpar i (by omega)
 rw [show A.l[p].n.toNat = num + 1 by omega] at hD
 obtain ⟨w1, w2, e1, e2, e3⟩ := D_add _ _ _ _ hD
 rw [hnD] at e1; cases e1
 rw [List.drop_drop] at e2
 have hle2 := D_le _ _ _ e2
 rw [List.length_drop] at hle2
 have hpar' : ∀ i : Nat, i < num → ∃ hq : p + 1 + i < A.l.length, A.l[p + 1 + i].kind = 19 := fun i hi => hpar i (by omega)
 obtain ⟨oi1, oi2, oi3, oi4, oi5, oi6⟩ := J.open_ hfr p A.l[p]
 have rk := row_new m [ptr wb] 78 0
 have g1 : Grow m (m.new (rowObj [ptr wb] 78 0)) := (Grow.refl m).new _
 have h1 := h.more g1 (Nat.le_refl _) (Nat.lt_succ_self m.next)
 have hx := h1.nodes.all p hp
 have hw1 := h1.w
 generalize hxx : A.l[p] = x at hx oi1 oi2 oi3 oi4 oi5 oi6 hnum c1 c2 c3
 refine runs_start rfl rfl rfl rfl ?_
 have hbx := row_new (m.new (rowObj [ptr wb] 78 0)) zeroNode 43 0
 (repeat (first | apply wpN_cons | apply g_next | (apply G.h; constructor <;> (first | exact Zc | apply gI | ((repeat' (first | exact Y0 | apply Y1 | ((first | apply Y4 | apply Y5); simp only [evs, Nat.reduceEqDiff, reduceIte] <;> rfl))); done) | (apply Y6; (try simp only [evs]); first | exact rk.load1 rfl rfl rfl | exact hx | exact hw1.load1 rfl rfl rfl)))))
 (apply g_stR <;> (first | exact Zc | apply gI | ((repeat' (first | exact Y0 | apply Y1 | exact Y2 | apply Y3 | ((first | apply Y4 | apply Y5); simp only [evs, Nat.reduceEqDiff, reduceIte] <;> rfl))); done) | (apply Hy.mk; (try simp only [evs]); first | exact hbx | assumption) | (apply Om.mk; first | exact hbx) | (apply Y6; (try simp only [evs]); first | rfl) | apply Cn.mk))
 intro m2 r2 o2 n2; simp only [evs] at r2 o2 n2
 have gr2 : Grow (m.new (rowObj [ptr wb] 78 0)) m2 := ((Grow.refl _).new _).wrote (Nat.le_refl _) o2 n2
 have h2 := h1.grow gr2
 have rk2 := rk.grow gr2
 obtain ⟨fa, fn, fc, fe, fl⟩ := h2.funs.form (by decide)
 have hfn : fn = S.funs.length := by rw [encFns_len _ _ h2.caps.1] at fl; omega
 have hw2 := h2.w
 rw [fe] at hw2
 (repeat (first | apply wpN_cons | apply g_next | (apply G.h; constructor <;> (first | exact Zc | apply gI | ((repeat' (first | exact Y0 | apply Y1 | ((first | apply Y4 | apply Y5); simp only [evs, Nat.reduceEqDiff, reduceIte] <;> rfl))); done) | (apply Y6; (try simp only [evs]); first | exact rk2.load1 rfl rfl rfl | exact hw2.load1 rfl rfl rfl)))))
 refine ewpO_cut (FSt (plus X m.next) A wb fB dB V m2 p m.next (m.next + 1) x (S.failIf (decide (S.funs.length = 1024)) 3 x.pos)) ?_ ?_
 ·by_cases h1024 : S.funs.length = 1024
  ·rw [decide_eq_true h1024]
   (repeat (first | apply wpN_cons | apply g_next | (apply G.h; constructor <;> (first | exact Zc | apply gI | ((repeat' (first | exact Y0 | apply Y1 | ((first | apply Y4 | apply Y5); simp only [evs, Nat.reduceEqDiff, reduceIte] <;> rfl))); done) | (apply Y6; (try simp only [evs]); first | exact rk2.load1 rfl rfl rfl | exact r2.loadA rfl rfl rfl (Nat.le_refl 5) rfl)))))
   ((first | apply g_run | apply g_run0) <;> (first | ((repeat' (first | exact Y0 | apply Y1 | exact Y2 | apply Y3 | ((first | apply Y4 | apply Y5); simp only [evs, Nat.reduceEqDiff, reduceIte] <;> rfl))); done) | exact Rn.mk (fail90 (e := 3) (x := x) (by simp only [evs]; exact h2)) | apply Cn.mk))
   rintro v m3 ⟨h3, k3⟩
   try simp only [evs] at k3
   (repeat (first | apply wpN_cons | apply g_next | (apply G.h; constructor <;> (first | exact Zc | apply gI | ((repeat' (first | exact Y0 | apply Y1 | ((first | apply Y4 | apply Y5); simp only [evs, Nat.reduceEqDiff, reduceIte] <;> rfl))); done) | (apply Y6; (try simp only [evs]); first | rfl)))))
   refine eret_nil ⟨rfl, (by refine ⟨?_, ?_, ?_, ?_, ?_⟩ <;> (simp only [evs, Nat.reduceEqDiff, reduceIte] <;> first | rfl | (congr 1; omega) | omega)), ?_, ?_, ?_, ?_⟩
   ·simp only [evs]; exact r2.stay k3 (.inr (by decide))
   ·simp only [evs]; exact rk2.stay k3 (.inr (by decide))
   ·simp only [evs]; exact h3
   ·simp only [evs]; exact k3
  ·rw [decide_eq_false h1024]
   (repeat (first | apply wpN_cons | apply g_next | (apply G.h; constructor <;> (first | exact Zc | apply gI | ((repeat' (first | exact Y0 | apply Y1 | ((first | apply Y4 | apply Y5); simp only [evs, Nat.reduceEqDiff, reduceIte] <;> rfl))); done) | (apply Y6; (try simp only [evs]); first | rfl)))))
   refine eret_nil ⟨rfl, (by refine ⟨?_, ?_, ?_, ?_, ?_⟩ <;> (simp only [evs, Nat.reduceEqDiff, reduceIte] <;> first | rfl | (congr 1; omega) | omega)), ?_, ?_, ?_, ?_⟩
   ·simp only [evs]; exact r2
   ·simp only [evs]; exact rk2
   ·simp only [evs]; exact h2
   ·simp only [evs]; exact Keep.refl
 have k02 : Keep X TT m m2 := Keep.grow (g1.trans gr2)
 clear hw2 rk2 r2 o2 n2 hbx hx hw1 rk h2 fe fl h1 gr2
 obtain ⟨z1, z2, z3, z4, z5, z6, z7⟩ := failIf_rest S (decide (S.funs.length = 1024)) 3 x.pos
 have hopen : S.open_ p x = MS.enter { S.failIf (decide (S.funs.length = 1024)) 3 x.pos with funs := (S.failIf (decide (S.funs.length = 1024)) 3 x.pos).funs ++ [⟨p, x.num, 0, []⟩], frames := ⟨(S.failIf (decide (S.funs.length = 1024)) 3 x.pos).funs.length, [], 0, []⟩ :: (S.failIf (decide (S.funs.length = 1024)) 3 x.pos).frames } := rfl
 generalize hS1 : S.failIf (decide (S.funs.length = 1024)) 3 x.pos = S1 at z1 z2 z3 z4 z5 z6 z7 hopen
 rintro a ⟨⟨qn, qd, q1, q2, q4⟩, rx, rk, h3, k3⟩
 obtain ⟨fa, fn, fc, fe, fl⟩ := h3.funs.form (by decide)
 have hfn : fn = S1.funs.length := by rw [encFns_len _ _ h3.caps.1] at fl; omega
 have hw3 := h3.w
 rw [fe] at hw3
 (repeat (first | apply wpN_cons | apply g_next | (apply G.h; constructor <;> (first | exact Zc | apply gI | ((repeat' (first | exact Y0 | apply Y1 | ((first | apply Y4 | apply Y5); simp only [evs, Nat.reduceEqDiff, reduceIte, qn, qd, q1, q2, q4] <;> rfl))); done) | (apply Y6; (try simp only [evs, qn, qd, q1, q2, q4]); first | exact rk.load1 rfl rfl rfl | exact hw3.load1 rfl rfl rfl)))))
 have bmx : ∀ c, a.m.next ≤ c → ¬ plus X m.next c := fun c hc hx => by have := h3.hX c hx; omega
 have gm4 : Grow a.m ((a.m.new (.map [])).new (rowObj [I fn, .slice none 0 0, I 0, .map (some a.m.next)] 88 0)) := ((Grow.refl a.m).new _).new _
 have rf4 := row_new (a.m.new (.map [])) [I fn, .slice none 0 0, I 0, .map (some a.m.next)] 88 0
 have mm4 : Mp ((a.m.new (.map [])).new (rowObj [I fn, .slice none 0 0, I 0, .map (some a.m.next)] 88 0)) a.m.next [] := (mp_new a.m).stay (X := X) (T := []) (Keep.new _) (.inr (by simp))
 have nx4 : ((a.m.new (.map [])).new (rowObj [I fn, .slice none 0 0, I 0, .map (some a.m.next)] 88 0)).next = a.m.next + 2 := rfl
 have nx40 : (a.m.new (.map [])).next = a.m.next + 1 := rfl
 rw [nx40] at rf4
 have h4 := h3.grow gm4
 have hw4 := hw3.grow gm4
 have rk4 := rk.grow gm4
 have rx4 := rx.grow gm4
 (apply g_regionN [0, 1, 2, 3, 4, 5, 6, 7, 8, 9, 10, 11, 12, 13, 14, 15] [(0, 15)]; (focus exact Kr.mk (by kernel_rfl)); (focus exact Rf.mk))
 (repeat (first | apply wpN_cons | apply g_next | (apply G.h; constructor <;> (first | exact Zc | apply gI | ((repeat' (first | exact Y0 | apply Y1 | ((first | apply Y4 | apply Y5); simp only [evs, Nat.reduceEqDiff, reduceIte, qn, qd, q1, q2, q4] <;> rfl))); done) | (apply Y6; (try simp only [evs, qn, qd, q1, q2, q4]); first | exact rk4.load1 rfl rfl rfl | exact hw4.load1 rfl rfl rfl | exact rx4.load1 rfl rfl rfl)))))
 have s5 := h4.funs.grow ((Grow.refl ((a.m.new (.map [])).new (rowObj [I fn, .slice none 0 0, I 0, .map (some a.m.next)] 88 0))).new (rowObj [I p, I x.num, I 0, .slice none 0 0] 49 0))
 rw [fe] at s5
 have hX5 : ∀ c, plus X m.next c → c < (((a.m.new (.map [])).new (rowObj [I fn, .slice none 0 0, I 0, .map (some a.m.next)] 88 0)).new (rowObj [I p, I x.num, I 0, .slice none 0 0] 49 0)).next := fun c hc => Nat.lt_succ_of_lt (h4.hX c hc)
 have hin5 : effect.cellsIn (((a.m.new (.map [])).new (rowObj [I fn, .slice none 0 0, I 0, .map (some a.m.next)] 88 0)).new (rowObj [I p, I x.num, I 0, .slice none 0 0] 49 0)) 4 (.slice (some ⟨((a.m.new (.map [])).new (rowObj [I fn, .slice none 0 0, I 0, .map (some a.m.next)] 88 0)).next, 0, none⟩) 1 1) = some (1, [I p, I x.num, I 0, .slice none 0 0]) := cellsIn_row (kc := 1) (new := [I p, I x.num, I 0, .slice none 0 0]) (row_new ((a.m.new (.map [])).new (rowObj [I fn, .slice none 0 0, I 0, .map (some a.m.next)] 88 0)) [I p, I x.num, I 0, .slice none 0 0] 49 0) (Nat.le_refl 4) rfl
 have hJn := J.nf
 have hle5 : (encFns V.cvs S1.funs).length ≤ 8000 := by rw [encFns_len _ _ h3.caps.1, z1]; omega
 (apply g_app <;> (first | exact Zc | apply gI | ((repeat' (first | exact Y0 | apply Y1 | exact Y2 | apply Y3 | ((first | apply Y4 | apply Y5); simp only [evs, Nat.reduceEqDiff, reduceIte, qn, qd, q1, q2, q4] <;> rfl))); done) | (apply Hy.mk; (try simp only [evs, qn, qd, q1, q2, q4]); first | exact hin5 | exact s5 | exact hX5 | assumption) | (apply Om.mk; first | exact hin5 | exact s5 | exact hX5) | (apply Y6; (try simp only [evs, qn, qd, q1, q2, q4]); first | rfl) | apply Cn.mk))
 intro v6 m6 s6 k6 o6 b6 f6
 obtain ⟨c6, j6, p6, rfl, hc6⟩ := f6
 simp only [evs, qn, qd, q1, q2, q4] at k6 o6 b6
 replace k6 : Keep (plus X m.next) [49] (((a.m.new (.map [])).new (rowObj [I fn, .slice none 0 0, I 0, .map (some a.m.next)] 88 0)).new (rowObj [I p, I x.num, I 0, .slice none 0 0] 49 0)) m6 := k6
 have k46 : Keep (plus X m.next) [49] ((a.m.new (.map [])).new (rowObj [I fn, .slice none 0 0, I 0, .map (some a.m.next)] 88 0)) m6 := (Keep.new _).trans k6
 have hw6 := hw4.stay k46 (.inr (by decide))
 have rk6 := rk4.stay k46 (.inl (.inr rfl))
 (repeat (first | apply wpN_cons | apply g_next | (apply G.h; constructor <;> (first | exact Zc | apply gI | ((repeat' (first | exact Y0 | apply Y1 | ((first | apply Y4 | apply Y5); simp only [evs, Nat.reduceEqDiff, reduceIte, qn, qd, q1, q2, q4] <;> rfl))); done) | (apply Y6; (try simp only [evs, qn, qd, q1, q2, q4]); first | rfl)))))
 (apply g_stR <;> (first | exact Zc | apply gI | ((repeat' (first | exact Y0 | apply Y1 | exact Y2 | apply Y3 | ((first | apply Y4 | apply Y5); simp only [evs, Nat.reduceEqDiff, reduceIte, qn, qd, q1, q2, q4] <;> rfl))); done) | (apply Hy.mk; (try simp only [evs, qn, qd, q1, q2, q4]); first | exact hw6 | assumption) | (apply Om.mk; first | exact hw6) | (apply Y6; (try simp only [evs, qn, qd, q1, q2, q4]); first | rfl) | apply Cn.mk))
 intro m7 r7 o7 n7; simp only [evs, qn, qd, q1, q2, q4] at r7 o7 n7
 (repeat (first | apply wpN_cons | apply g_next | (apply G.h; constructor <;> (first | exact Zc | apply gI | ((repeat' (first | exact Y0 | apply Y1 | ((first | apply Y4 | apply Y5); simp only [evs, Nat.reduceEqDiff, reduceIte, qn, qd, q1, q2, q4] <;> rfl))); done) | (apply Y6; (try simp only [evs, qn, qd, q1, q2, q4]); first | rfl)))))
 refine g_last (.mk ⟨.mk ?_, trivial⟩) ?_
 ·(apply again_of; exact Rf.mk; exact Rf.mk; (apply Ev.mk; (simp only [evs, Nat.reduceEqDiff, reduceIte, qn, qd, q1, q2, q4] <;> rfl)); exact Rf.mk; (repeat (first | apply wpN_cons | apply g_next | (apply G.h; constructor <;> (first | exact Zc | apply gI | ((repeat' (first | exact Y0 | apply Y1 | ((first | apply Y4 | apply Y5); simp only [evs, Nat.reduceEqDiff, reduceIte, qn, qd, q1, q2, q4] <;> rfl))); done) | (apply Y6; (try simp only [evs, qn, qd, q1, q2, q4]); first | exact rk6.load1 rfl rfl rfl))))); refine eret_nil ?_; (simp only [evs, Nat.reduceEqDiff, reduceIte, qn, qd, q1, q2, q4] <;> rfl))
 have k7 : Keep (plus X m.next) [83] m6 m7 := Keep.row hw6 h3.xw (by decide) o7 n7
 have k47 : Keep (plus X m.next) [49, 83] ((a.m.new (.map [])).new (rowObj [I fn, .slice none 0 0, I 0, .map (some a.m.next)] 88 0)) m7 := (k46.mono (by simp)).trans (k7.mono (by simp))
 have rk7 := rk4.stay k47 (.inl (.inr rfl))
 have r7' : Row m7 wb [.slice (some ⟨A.nb, A.off, none⟩) A.l.length A.cap, I S1.pc, .slice (some ⟨c6, 0, none⟩) j6 p6, V.uv, V.gv, .map (some V.gb), V.frv, V.mv, I S1.e, I S1.place] 83 0 := r7
 obtain ⟨ga, gn, gc, ge, gl⟩ := h3.frames.form (by decide)
 have hgn : fB.length = gn := by simp at gl; omega
 rw [ge] at r7'
 (repeat (first | apply wpN_cons | apply g_next | (apply G.h; constructor <;> (first | exact Zc | apply gI | ((repeat' (first | exact Y0 | apply Y1 | ((first | apply Y4 | apply Y5); simp only [evs, Nat.reduceEqDiff, reduceIte, qn, qd, q1, q2, q4] <;> rfl))); done) | (apply Y6; (try simp only [evs, qn, qd, q1, q2, q4]); first | rfl)))))
 (apply g_regionN [0, 1, 2, 3, 4, 5, 6, 7, 8, 9, 10] [(0, 10)]; (focus exact Kr.mk (by kernel_rfl)); (focus exact Rf.mk))
 (repeat (first | apply wpN_cons | apply g_next | (apply G.h; constructor <;> (first | exact Zc | apply gI | ((repeat' (first | exact Y0 | apply Y1 | ((first | apply Y4 | apply Y5); simp only [evs, Nat.reduceEqDiff, reduceIte, qn, qd, q1, q2, q4] <;> rfl))); done) | (apply Y6; (try simp only [evs, qn, qd, q1, q2, q4]); first | exact rk7.load1 rfl rfl rfl | exact r7'.load1 rfl rfl rfl)))))
 have s8 := (h4.frames.stay k47 (by decide)).grow ((Grow.refl m7).new (rowObj [ptr (a.m.next + 1)] 84 0))
 rw [ge] at s8
 have hX8 : ∀ c, plus X m.next c → c < (m7.new (rowObj [ptr (a.m.next + 1)] 84 0)).next := fun c hc => Nat.lt_succ_of_lt (Nat.lt_of_lt_of_le (h4.hX c hc) k47.1)
 have hin8 : effect.cellsIn (m7.new (rowObj [ptr (a.m.next + 1)] 84 0)) 1 (.slice (some ⟨m7.next, 0, none⟩) 1 1) = some (1, [ptr (a.m.next + 1)]) := cellsIn_row (kc := 1) (new := [ptr (a.m.next + 1)]) (row_new m7 [ptr (a.m.next + 1)] 84 0) (Nat.le_refl 1) rfl
 have hle8 : (fB.reverse.map ptr).length ≤ 4000 := by simp; omega
 (apply g_app <;> (first | exact Zc | apply gI | ((repeat' (first | exact Y0 | apply Y1 | exact Y2 | apply Y3 | ((first | apply Y4 | apply Y5); simp only [evs, Nat.reduceEqDiff, reduceIte, qn, qd, q1, q2, q4] <;> rfl))); done) | (apply Hy.mk; (try simp only [evs, qn, qd, q1, q2, q4]); first | exact hin8 | exact s8 | exact hX8 | assumption) | (apply Om.mk; first | exact hin8 | exact s8 | exact hX8) | (apply Y6; (try simp only [evs, qn, qd, q1, q2, q4]); first | rfl) | apply Cn.mk))
 intro v9 m9 s9 k9 o9 b9 f9
 obtain ⟨c9, j9, p9, rfl, hc9⟩ := f9
 simp only [evs, qn, qd, q1, q2, q4] at k9 o9 b9
 replace k9 : Keep (plus X m.next) [84] (m7.new (rowObj [ptr (a.m.next + 1)] 84 0)) m9 := k9
 have k79 : Keep (plus X m.next) [84] m7 m9 := (Keep.new _).trans k9
 have hw9 := r7'.stay k79 (.inr (by decide))
 have rk9 := rk7.stay k79 (.inl (.inr rfl))
 (repeat (first | apply wpN_cons | apply g_next | (apply G.h; constructor <;> (first | exact Zc | apply gI | ((repeat' (first | exact Y0 | apply Y1 | ((first | apply Y4 | apply Y5); simp only [evs, Nat.reduceEqDiff, reduceIte, qn, qd, q1, q2, q4] <;> rfl))); done) | (apply Y6; (try simp only [evs, qn, qd, q1, q2, q4]); first | rfl)))))
 (apply g_stR <;> (first | exact Zc | apply gI | ((repeat' (first | exact Y0 | apply Y1 | exact Y2 | apply Y3 | ((first | apply Y4 | apply Y5); simp only [evs, Nat.reduceEqDiff, reduceIte, qn, qd, q1, q2, q4] <;> rfl))); done) | (apply Hy.mk; (try simp only [evs, qn, qd, q1, q2, q4]); first | exact hw9 | assumption) | (apply Om.mk; first | exact hw9) | (apply Y6; (try simp only [evs, qn, qd, q1, q2, q4]); first | rfl) | apply Cn.mk))
 intro m10 r10 o10 n10; simp only [evs, qn, qd, q1, q2, q4] at r10 o10 n10
 (repeat (first | apply wpN_cons | apply g_next | (apply G.h; constructor <;> (first | exact Zc | apply gI | ((repeat' (first | exact Y0 | apply Y1 | ((first | apply Y4 | apply Y5); simp only [evs, Nat.reduceEqDiff, reduceIte, qn, qd, q1, q2, q4] <;> rfl))); done) | (apply Y6; (try simp only [evs, qn, qd, q1, q2, q4]); first | rfl)))))
 refine g_last (.mk ⟨.mk ?_, trivial⟩) ?_
 ·(apply again_of; exact Rf.mk; exact Rf.mk; (apply Ev.mk; (simp only [evs, Nat.reduceEqDiff, reduceIte, qn, qd, q1, q2, q4] <;> rfl)); exact Rf.mk; (repeat (first | apply wpN_cons | apply g_next | (apply G.h; constructor <;> (first | exact Zc | apply gI | ((repeat' (first | exact Y0 | apply Y1 | ((first | apply Y4 | apply Y5); simp only [evs, Nat.reduceEqDiff, reduceIte, qn, qd, q1, q2, q4] <;> rfl))); done) | (apply Y6; (try simp only [evs, qn, qd, q1, q2, q4]); first | exact rk9.load1 rfl rfl rfl))))); refine eret_nil ?_; (simp only [evs, Nat.reduceEqDiff, reduceIte, qn, qd, q1, q2, q4] <;> rfl))
 have k10 : Keep (plus X m.next) [83] m9 m10 := Keep.row hw9 h3.xw (by decide) o10 n10
 have k410 : Keep (plus X m.next) [49, 83, 84] ((a.m.new (.map [])).new (rowObj [I fn, .slice none 0 0, I 0, .map (some a.m.next)] 88 0)) m10 := ((k47.mono (by simp)).trans (k79.mono (by simp))).trans (k10.mono (by simp))
 have k310 : Keep (plus X m.next) [49, 83, 84] a.m m10 := (Keep.grow gm4).trans k410
 have rk10 := rk4.stay k410 (.inl (.inr rfl))
 have rx10 := rx4.stay k410 (.inr (by decide))
 have r10' : Row m10 wb [.slice (some ⟨A.nb, A.off, none⟩) A.l.length A.cap, I S1.pc, .slice (some ⟨c6, 0, none⟩) j6 p6, V.uv, V.gv, .map (some V.gb), .slice (some ⟨c9, 0, none⟩) j9 p9, V.mv, I S1.e, I S1.place] 83 0 := r10
 have h10 : Rep (plus X m.next) A m10 wb { S1 with funs := S1.funs ++ [⟨p, x.num, 0, []⟩], frames := ⟨S1.funs.length, [], 0, []⟩ :: S1.frames } ((a.m.next + 1) :: fB) dB { V with fv := .slice (some ⟨c6, 0, none⟩) j6 p6, frv := .slice (some ⟨c9, 0, none⟩) j9 p9, cvs := V.cvs ++ [.slice none 0 0] } := by
  have nx10 := k410.1
  refine h3.turn k310 r10' ?_ ((h3.caps.stay k310 (by decide)).opened _ rfl) (h3.uses.stay k310 (by decide)) (h3.globals.stay k310 (by decide)) rfl (gmap_keep h3 k310 (by decide)) ?_ (h3.means.stay k310 (by decide)) (h3.decls.stay k310 (by decide)) ?_
  ·simp only
   rw [encFns_app _ _ _ _ h3.caps.1]
   exact ((s6.stay k7 (by decide)).stay k79 (by decide)).stay k10 (by decide)
  ·simp only
   rw [List.reverse_cons, List.map_append]
   exact s9.stay k10 (by decide)
  ·refine ⟨a.m.next, .slice none 0 0, [], a.m.next, ⟨Nat.le_succ _, by omega, bmx _ (Nat.le_succ _), ?_, .inl ⟨rfl, rfl⟩, (fun c n k hv => by cases hv), trivial, Nat.le_refl _, by omega, bmx _ (Nat.le_refl _), ?_, by simp⟩, ?_⟩
   ·have q := rf4.stay k410 (.inr (by decide))
    rw [hfn] at q
    exact q
   ·exact mm4.stay k410 (.inr (by decide))
   ·exact h3.frs.stay k310 (by decide) (Nat.le_refl _)
 generalize hS2 : ({ S1 with funs := S1.funs ++ [⟨p, x.num, 0, []⟩], frames := ⟨S1.funs.length, [], 0, []⟩ :: S1.frames } : MS) = S2 at h10 hopen
 have hS2f : S2.frames = ⟨S1.funs.length, [], 0, []⟩ :: S1.frames := by rw [← hS2]
 (repeat (first | apply wpN_cons | apply g_next | (apply G.h; constructor <;> (first | exact Zc | apply gI | ((repeat' (first | exact Y0 | apply Y1 | ((first | apply Y4 | apply Y5); simp only [evs, Nat.reduceEqDiff, reduceIte, qn, qd, q1, q2, q4] <;> rfl))); done) | (apply Y6; (try simp only [evs, qn, qd, q1, q2, q4]); first | rfl)))))
 (apply g_makeFunc <;> (first | exact Zc | apply gI | ((repeat' (first | exact Y0 | apply Y1 | exact Y2 | apply Y3 | ((first | apply Y4 | apply Y5); simp only [evs, Nat.reduceEqDiff, reduceIte, qn, qd, q1, q2, q4] <;> rfl))); done) | (apply Hy.mk; (try simp only [evs, qn, qd, q1, q2, q4]); first | fail | assumption) | (apply Om.mk; first | fail) | (apply Y6; (try simp only [evs, qn, qd, q1, q2, q4]); first | rfl) | apply Cn.mk))
 (apply g_defer0 <;> (first | exact Zc | apply gI | ((repeat' (first | exact Y0 | apply Y1 | exact Y2 | apply Y3 | ((first | apply Y4 | apply Y5); simp only [evs, Nat.reduceEqDiff, reduceIte, qn, qd, q1, q2, q4] <;> rfl))); done) | (apply Hy.mk; (try simp only [evs, qn, qd, q1, q2, q4]); first | fail | assumption) | (apply Om.mk; first | fail) | (apply Y6; (try simp only [evs, qn, qd, q1, q2, q4]); first | rfl) | apply Cn.mk))
 (repeat (first | apply wpN_cons | apply g_next | (apply G.h; constructor <;> (first | exact Zc | apply gI | ((repeat' (first | exact Y0 | apply Y1 | ((first | apply Y4 | apply Y5); simp only [evs, Nat.reduceEqDiff, reduceIte, qn, qd, q1, q2, q4] <;> rfl))); done) | (apply Y6; (try simp only [evs, qn, qd, q1, q2, q4]); first | exact rk10.load1 rfl rfl rfl)))))
 ((first | apply g_run | apply g_run0) <;> (first | ((repeat' (first | exact Y0 | apply Y1 | exact Y2 | apply Y3 | ((first | apply Y4 | apply Y5); simp only [evs, Nat.reduceEqDiff, reduceIte, qn, qd, q1, q2, q4] <;> rfl))); done) | exact Rn.mk (enter76 (by simp only [evs]; exact h10) rfl hS2f (by simp only [List.length_cons]; omega) (Nat.zero_le _)) | apply Cn.mk))
 rintro v m11 ⟨kk, rfl, hkk, rkk, h11, k11⟩
 simp only [evs, qn, qd, q1, q2, q4] at hkk k11
 rw [← hopen] at h11
 have rk11 := rk10.stay k11 (.inl (.inr rfl))
 have rx11 := rx10.stay k11 (.inr (by decide))
 have hdB := h11.decls.1
 (apply g_defer0 <;> (first | exact Zc | apply gI | ((repeat' (first | exact Y0 | apply Y1 | exact Y2 | apply Y3 | ((first | apply Y4 | apply Y5); simp only [evs, Nat.reduceEqDiff, reduceIte, qn, qd, q1, q2, q4] <;> rfl))); done) | (apply Hy.mk; (try simp only [evs, qn, qd, q1, q2, q4]); first | fail | assumption) | (apply Om.mk; first | fail) | (apply Y6; (try simp only [evs, qn, qd, q1, q2, q4]); first | rfl) | apply Cn.mk))
 (repeat (first | apply wpN_cons | apply g_next | (apply G.h; constructor <;> (first | exact Zc | apply gI | ((repeat' (first | exact Y0 | apply Y1 | ((first | apply Y4 | apply Y5); simp only [evs, Nat.reduceEqDiff, reduceIte, qn, qd, q1, q2, q4] <;> rfl))); done) | (apply Y6; (try simp only [evs, qn, qd, q1, q2, q4]); first | exact rx11.load1 rfl rfl rfl)))))
 rw [hnum]
 have hofr : frK (S.open_ p x) = (S.funs.length, 1, 0) :: frK S := oi2
 have hzo : NZ (frK (S.open_ p x)) := by
  rw [hofr]
  intro q hq
  rcases List.mem_cons.1 hq with rfl | hq
  ·exact .inr Nat.one_pos
  ·exact hz q hq
 refine ewp_loop (ι := Nat × MS × List Nat) (fun i a' => (a'.n = 101 ∧ a'.defers = [(94, [ptr kk]), (95, [ptr m.next])] ∧ a'.tmp 2 = ptr m.next ∧ a'.tmp 5 = ptr (a.m.next + 1) ∧ a'.tmp 62 = I num ∧ a'.tmp 63 = I i.1) ∧ i.1 ≤ num ∧ MS.params A.l num (S.open_ p x) = MS.params A.l (num - i.1) i.2.1 ∧ i.2.1.pc = p + 1 + i.1 ∧
  Inv A.l (b + 1 + i.1) i.2.1 ∧ frK i.2.1 = frK (S.open_ p x) ∧ (∃ V', Rep (plus (plus X m.next) kk) A a'.m wb i.2.1 ((a.m.next + 1) :: fB) i.2.2 V') ∧ dB <+: i.2.2 ∧ Row a'.m m.next [ptr wb] 78 0 ∧ Row a'.m kk [ptr (a.m.next + 1)] 84 0 ∧ Keep (plus (plus X m.next) kk) TT m11 a'.m) (fun i => num - i.1) (0, S.open_ p x, dB) ?_ ?_
 ·refine ⟨(by refine ⟨?_, ?_, ?_, ?_, ?_, ?_⟩ <;> (simp only [evs, Nat.reduceEqDiff, reduceIte, qn, qd, q1, q2, q4] <;> first | rfl | (congr 1; omega) | omega)), Nat.zero_le _, rfl, by simp only; rw [oi6, hpc], oi1, rfl, ⟨_, by simp only [evs]; exact h11⟩, List.prefix_refl _, by simp only [evs]; exact rk11, by simp only [evs]; exact rkk, by simp only [evs]; exact Keep.refl⟩
 rintro ⟨i, T, dBi⟩ a' ⟨⟨wn, wd, t2, t5, t62, t63⟩, hi, hpr, hTp, JT, hTf, ⟨VT, hT⟩, hTd, rkw, rkk', kT⟩ ih
 simp only at t63 hi hpr hTp JT hTf hT hTd
 obtain ⟨fT, fsT, hTfr, hT1, hT2⟩ : ∃ f fs, T.frames = f :: fs ∧ f.fn < T.funs.length ∧ f.scopes.length = 1 := by
  have := hTf
  rw [hofr] at this
  unfold frK at this
  cases hh : T.frames with
  | nil => rw [hh] at this; cases this
  | cons f fs =>
   rw [hh] at this
   simp only [List.map_cons, List.cons.injEq, Prod.mk.injEq] at this
   exact ⟨f, fs, rfl, (JT.fr f (by rw [hh]; exact List.mem_cons_self)).1, this.1.2.1⟩
 have hTl := hT.frs.len
 have hTn := JT.nfr
 have hTc := JT.pc
 rcases Nat.lt_or_ge i num with hlt | hge
 ·have hpT : T.pc < A.l.length := by obtain ⟨hq, -⟩ := hpar' i hlt; omega
  obtain ⟨sc, hsc⟩ : ∃ sc, fT.scopes = [sc] := List.length_eq_one_iff.1 hT2
  have gz : Grow a'.m (a'.m.new (rowObj zeroNode 43 0)) := (Grow.refl a'.m).new _
  have hT0 := hT.grow gz
  have rz := row_new a'.m zeroNode 43 0
  have hxT := hT0.nodes.all T.pc hpT
  have hwT := hT0.w
  have rkw0 := rkw.grow gz
  have rkk0 := rkk'.grow gz
  (repeat (first | apply wpN_cons | apply g_next | (apply G.h; constructor <;> (first | exact Zc | apply gI | ((repeat' (first | exact Y0 | apply Y1 | ((first | apply Y4 | apply Y5); simp only [evs, Nat.reduceEqDiff, reduceIte, wn, wd, t2, t5, t62, t63] <;> rfl))); done) | (apply Y6; (try simp only [evs, wn, wd, t2, t5, t62, t63]); first | rfl)))))
  (apply g_regionN [10, 0, 1, 2, 3, 4, 5, 6, 7, 8, 9, 11] []; (focus exact Kr.mk (by kernel_rfl)); (focus exact Rf.mk))
  (repeat (first | apply wpN_cons | apply g_next | (apply G.h; constructor <;> (first | exact Zc | apply gI | ((repeat' (first | exact Y0 | apply Y1 | ((first | apply Y4 | apply Y5); simp only [evs, Nat.reduceEqDiff, reduceIte, wn, wd, t2, t5, t62, t63] <;> rfl))); done) | (apply Y6; (try simp only [evs, wn, wd, t2, t5, t62, t63]); first | exact rkw0.load1 rfl rfl rfl | exact hwT.load1 rfl rfl rfl | exact hxT)))))
  (apply g_stR <;> (first | exact Zc | apply gI | ((repeat' (first | exact Y0 | apply Y1 | exact Y2 | apply Y3 | ((first | apply Y4 | apply Y5); simp only [evs, Nat.reduceEqDiff, reduceIte, wn, wd, t2, t5, t62, t63] <;> rfl))); done) | (apply Hy.mk; (try simp only [evs, wn, wd, t2, t5, t62, t63]); first | exact rz | assumption) | (apply Om.mk; first | exact rz) | (apply Y6; (try simp only [evs, wn, wd, t2, t5, t62, t63]); first | rfl) | apply Cn.mk))
  intro m2 r2 o2 n2; simp only [evs, wn, wd, t2, t5, t62, t63] at r2 o2 n2
  (repeat (first | apply wpN_cons | apply g_next | (apply G.h; constructor <;> (first | exact Zc | apply gI | ((repeat' (first | exact Y0 | apply Y1 | ((first | apply Y4 | apply Y5); simp only [evs, Nat.reduceEqDiff, reduceIte, wn, wd, t2, t5, t62, t63] <;> rfl))); done) | (apply Y6; (try simp only [evs, wn, wd, t2, t5, t62, t63]); first | rfl)))))
  refine g_last (.mk trivial) ?_
  have gr2 : Grow a'.m m2 := ((Grow.refl a'.m).new _).wrote (Nat.le_refl _) o2 n2
  have h2 := hT.grow gr2
  have rkw2 := rkw.grow gr2
  have rkk2 := rkk'.grow gr2
  have hw2 := h2.w
  have hdecl := declare79 h2 rfl hTfr hsc (by omega) (by omega) hT1 (by have := slots_bd JT fT.fn; omega) (by rw [h2.decls.1]; exact JT.refs) JT.means A.l[T.pc].text T.pc hpT
  obtain ⟨di1, di2, di3, di4, di5, di6⟩ := JT.declare A.l[T.pc].text T.pc A.l[T.pc].pos
  generalize hxT2 : A.l[T.pc] = xT at r2 hdecl di1 di2 di3 di4 di5 di6
  obtain ⟨c0, cap, r, n, s0, cb, u1, u2, u3, u4, u5, -⟩ := h2.bound rfl hTfr hsc
  obtain rfl : n = 0 := by omega
  have u3' : r[0 + 0 * 1]? = some (.map (some s0)) := u3
  (repeat (first | apply wpN_cons | apply g_next | (apply G.h; constructor <;> (first | exact Zc | apply gI | ((repeat' (first | exact Y0 | apply Y1 | ((first | apply Y4 | apply Y5); simp only [evs, Nat.reduceEqDiff, reduceIte, wn, wd, t2, t5, t62, t63] <;> rfl))); done) | (apply Y6; (try simp only [evs, wn, wd, t2, t5, t62, t63]); first | rfl)))))
  (apply g_regionN [0, 1, 2, 3, 4, 5, 6, 7, 8, 9, 10, 11, 12, 13, 14, 15, 16] [(0, 16), (1, 16), (2, 16), (3, 16), (4, 16), (5, 16), (6, 16), (7, 16)]; (focus exact Kr.mk (by kernel_rfl)); (focus exact Rf.mk))
  (repeat (first | apply wpN_cons | apply g_next | (apply G.h; constructor <;> (first | exact Zc | apply gI | ((repeat' (first | exact Y0 | apply Y1 | ((first | apply Y4 | apply Y5); simp only [evs, Nat.reduceEqDiff, reduceIte, wn, wd, t2, t5, t62, t63] <;> rfl))); done) | (apply Y6; (try simp only [evs, wn, wd, t2, t5, t62, t63]); first | exact rkw2.load1 rfl rfl rfl | exact u1.load1 rfl rfl rfl | exact u2.load1 rfl rfl u3' | exact r2.load1 rfl rfl rfl | exact hw2.load1 rfl rfl rfl)))))
  ((first | apply g_run | apply g_run0) <;> (first | ((repeat' (first | exact Y0 | apply Y1 | exact Y2 | apply Y3 | ((first | apply Y4 | apply Y5); simp only [evs, Nat.reduceEqDiff, reduceIte, wn, wd, t2, t5, t62, t63] <;> rfl))); done) | exact Rn.mk ((by simp only [evs]; exact hdecl)) | apply Cn.mk))
  rintro v m3 ⟨nb, rfl, hnb, h3, k3⟩
  try simp only [evs] at k3
  replace k3 : Keep (plus (plus X m.next) kk) [83, 49, 90] m2 m3 := k3
  have hTfr3 : (T.declare xT.text T.pc xT.pos).frames = fT :: fsT := by rw [di4, hTfr]
  obtain ⟨c3', cap3, r3', n3', s3, cb3, y1, y2, y3, y4, y5, y6⟩ := h3.bound rfl hTfr3 hsc
  obtain rfl : n3' = 0 := by omega
  have u1' := u1.stay k3 (.inr (by decide))
  have hu1 := u1'.uniq y1
  simp only [List.cons.injEq, Value.slice.injEq, Option.some.injEq, Addr.mk.injEq, and_true, true_and, Value.map.injEq] at hu1
  obtain ⟨⟨rfl, rfl⟩, -⟩ := hu1
  obtain rfl := (u2.stay k3 (.inr (by decide))).uniq y2
  rw [u3] at y3
  cases y3
  have rkw3 := rkw2.stay k3 (.inl (.inl (.inr rfl)))
  have rkk3 := rkk2.stay k3 (.inl (.inr rfl))
  have r23 := r2.stay k3 (.inr (by decide))
  have hdBi := h2.decls.1
  have hdp : dptr (dBi ++ [nb]) T.decls.length = ptr nb := by rw [← hdBi]; exact dptr_last _ _
  have hupd := upd_str (g := dptr (dBi ++ [nb])) m3 xT.text T.decls.length sc
  rw [hdp] at hupd
  (repeat (first | apply wpN_cons | apply g_next | (apply G.h; constructor <;> (first | exact Zc | apply gI | ((repeat' (first | exact Y0 | apply Y1 | ((first | apply Y4 | apply Y5); simp only [evs, Nat.reduceEqDiff, reduceIte, wn, wd, t2, t5, t62, t63] <;> rfl))); done) | (apply Y6; (try simp only [evs, wn, wd, t2, t5, t62, t63]); first | rfl)))))
  (apply g_update <;> (first | exact Zc | apply gI | ((repeat' (first | exact Y0 | apply Y1 | exact Y2 | apply Y3 | ((first | apply Y4 | apply Y5); simp only [evs, Nat.reduceEqDiff, reduceIte, wn, wd, t2, t5, t62, t63] <;> rfl))); done) | (apply Hy.mk; (try simp only [evs, wn, wd, t2, t5, t62, t63]); first | exact y5 | exact hupd | assumption) | (apply Om.mk; first | exact y5 | exact hupd) | (apply Y6; (try simp only [evs, wn, wd, t2, t5, t62, t63]); first | rfl) | apply Cn.mk))
  intro m4 mp4 o4 n4
  simp only [evs] at o4 n4
  (repeat (first | apply wpN_cons | apply g_next | (apply G.h; constructor <;> (first | exact Zc | apply gI | ((repeat' (first | exact Y0 | apply Y1 | ((first | apply Y4 | apply Y5); simp only [evs, Nat.reduceEqDiff, reduceIte, wn, wd, t2, t5, t62, t63] <;> rfl))); done) | (apply Y6; (try simp only [evs, wn, wd, t2, t5, t62, t63]); first | rfl)))))
  refine g_last (.mk ⟨.mk ?_, .mk ?_, .mk ?_, .mk ?_, .mk ?_, .mk ?_, .mk ?_, .mk ?_, trivial⟩) ?_
  ·(apply again_of; exact Rf.mk; exact Rf.mk; (apply Ev.mk; (simp only [evs, Nat.reduceEqDiff, reduceIte, wn, wd, t2, t5, t62, t63] <;> rfl)); exact Rf.mk; (repeat (first | apply wpN_cons | apply g_next | (apply G.h; constructor <;> (first | exact Zc | apply gI | ((repeat' (first | exact Y0 | apply Y1 | ((first | apply Y4 | apply Y5); simp only [evs, Nat.reduceEqDiff, reduceIte, wn, wd, t2, t5, t62, t63] <;> rfl))); done) | (apply Y6; (try simp only [evs, wn, wd, t2, t5, t62, t63]); first | rfl))))); refine eret_nil ?_; (simp only [evs, Nat.reduceEqDiff, reduceIte, wn, wd, t2, t5, t62, t63] <;> rfl))
  ·(apply again_of; exact Rf.mk; exact Rf.mk; (apply Ev.mk; (simp only [evs, Nat.reduceEqDiff, reduceIte, wn, wd, t2, t5, t62, t63] <;> rfl)); exact Rf.mk; (repeat (first | apply wpN_cons | apply g_next | (apply G.h; constructor <;> (first | exact Zc | apply gI | ((repeat' (first | exact Y0 | apply Y1 | ((first | apply Y4 | apply Y5); simp only [evs, Nat.reduceEqDiff, reduceIte, wn, wd, t2, t5, t62, t63] <;> rfl))); done) | (apply Y6; (try simp only [evs, wn, wd, t2, t5, t62, t63]); first | rfl))))); refine eret_nil ?_; (simp only [evs, Nat.reduceEqDiff, reduceIte, wn, wd, t2, t5, t62, t63] <;> rfl))
  ·(apply again_of; exact Rf.mk; exact Rf.mk; (apply Ev.mk; (simp only [evs, Nat.reduceEqDiff, reduceIte, wn, wd, t2, t5, t62, t63] <;> rfl)); exact Rf.mk; (repeat (first | apply wpN_cons | apply g_next | (apply G.h; constructor <;> (first | exact Zc | apply gI | ((repeat' (first | exact Y0 | apply Y1 | ((first | apply Y4 | apply Y5); simp only [evs, Nat.reduceEqDiff, reduceIte, wn, wd, t2, t5, t62, t63] <;> rfl))); done) | (apply Y6; (try simp only [evs, wn, wd, t2, t5, t62, t63]); first | rfl))))); refine eret_nil ?_; (simp only [evs, Nat.reduceEqDiff, reduceIte, wn, wd, t2, t5, t62, t63] <;> rfl))
  ·(apply again_of; exact Rf.mk; exact Rf.mk; (apply Ev.mk; (simp only [evs, Nat.reduceEqDiff, reduceIte, wn, wd, t2, t5, t62, t63] <;> rfl)); exact Rf.mk; (repeat (first | apply wpN_cons | apply g_next | (apply G.h; constructor <;> (first | exact Zc | apply gI | ((repeat' (first | exact Y0 | apply Y1 | ((first | apply Y4 | apply Y5); simp only [evs, Nat.reduceEqDiff, reduceIte, wn, wd, t2, t5, t62, t63] <;> rfl))); done) | (apply Y6; (try simp only [evs, wn, wd, t2, t5, t62, t63]); first | exact u1'.load1 rfl rfl rfl))))); refine eret_nil ?_; (simp only [evs, Nat.reduceEqDiff, reduceIte, wn, wd, t2, t5, t62, t63] <;> rfl))
  ·(apply again_of; exact Rf.mk; exact Rf.mk; (apply Ev.mk; (simp only [evs, Nat.reduceEqDiff, reduceIte, wn, wd, t2, t5, t62, t63] <;> rfl)); exact Rf.mk; (repeat (first | apply wpN_cons | apply g_next | (apply G.h; constructor <;> (first | exact Zc | apply gI | ((repeat' (first | exact Y0 | apply Y1 | ((first | apply Y4 | apply Y5); simp only [evs, Nat.reduceEqDiff, reduceIte, wn, wd, t2, t5, t62, t63] <;> rfl))); done) | (apply Y6; (try simp only [evs, wn, wd, t2, t5, t62, t63]); first | rfl))))); refine eret_nil ?_; (simp only [evs, Nat.reduceEqDiff, reduceIte, wn, wd, t2, t5, t62, t63] <;> rfl))
  ·(apply again_of; exact Rf.mk; exact Rf.mk; (apply Ev.mk; (simp only [evs, Nat.reduceEqDiff, reduceIte, wn, wd, t2, t5, t62, t63] <;> rfl)); exact Rf.mk; (repeat (first | apply wpN_cons | apply g_next | (apply G.h; constructor <;> (first | exact Zc | apply gI | ((repeat' (first | exact Y0 | apply Y1 | ((first | apply Y4 | apply Y5); simp only [evs, Nat.reduceEqDiff, reduceIte, wn, wd, t2, t5, t62, t63] <;> rfl))); done) | (apply Y6; (try simp only [evs, wn, wd, t2, t5, t62, t63]); first | exact y2.load1 rfl rfl u3'))))); refine eret_nil ?_; (simp only [evs, Nat.reduceEqDiff, reduceIte, wn, wd, t2, t5, t62, t63] <;> rfl))
  ·(apply again_of; exact Rf.mk; exact Rf.mk; (apply Ev.mk; (simp only [evs, Nat.reduceEqDiff, reduceIte, wn, wd, t2, t5, t62, t63] <;> rfl)); exact Rf.mk; (repeat (first | apply wpN_cons | apply g_next | (apply G.h; constructor <;> (first | exact Zc | apply gI | ((repeat' (first | exact Y0 | apply Y1 | ((first | apply Y4 | apply Y5); simp only [evs, Nat.reduceEqDiff, reduceIte, wn, wd, t2, t5, t62, t63] <;> rfl))); done) | (apply Y6; (try simp only [evs, wn, wd, t2, t5, t62, t63]); first | rfl))))); refine eret_nil ?_; (simp only [evs, Nat.reduceEqDiff, reduceIte, wn, wd, t2, t5, t62, t63] <;> rfl))
  ·(apply again_of; exact Rf.mk; exact Rf.mk; (apply Ev.mk; (simp only [evs, Nat.reduceEqDiff, reduceIte, wn, wd, t2, t5, t62, t63] <;> rfl)); exact Rf.mk; (repeat (first | apply wpN_cons | apply g_next | (apply G.h; constructor <;> (first | exact Zc | apply gI | ((repeat' (first | exact Y0 | apply Y1 | ((first | apply Y4 | apply Y5); simp only [evs, Nat.reduceEqDiff, reduceIte, wn, wd, t2, t5, t62, t63] <;> rfl))); done) | (apply Y6; (try simp only [evs, wn, wd, t2, t5, t62, t63]); first | exact r23.load1 rfl rfl rfl))))); refine eret_nil ?_; (simp only [evs, Nat.reduceEqDiff, reduceIte, wn, wd, t2, t5, t62, t63] <;> rfl))
  obtain ⟨h4, k4⟩ := y6 m4 xT.text T.decls.length mp4 o4 n4
  have rkw4 := rkw3.stay k4 (.inr (by decide))
  have rkk4 := rkk3.stay k4 (.inr (by decide))
  have hw4 := h4.w
  obtain ⟨bi1, bi2, bi3⟩ := di1.bind xT.text (d := T.decls.length) di5 (by rw [di6]; exact (topFn_frK di2.fr).1.symm)
  have hwp : ((T.declare xT.text T.pc xT.pos).bind xT.text T.decls.length).pc = T.pc := by rw [bi3, di3]
  rw [hwp] at hw4
  (repeat (first | apply wpN_cons | apply g_next | (apply G.h; constructor <;> (first | exact Zc | apply gI | ((repeat' (first | exact Y0 | apply Y1 | ((first | apply Y4 | apply Y5); simp only [evs, Nat.reduceEqDiff, reduceIte, wn, wd, t2, t5, t62, t63] <;> rfl))); done) | (apply Y6; (try simp only [evs, wn, wd, t2, t5, t62, t63]); first | exact rkw4.load1 rfl rfl rfl | exact hw4.load1 rfl rfl rfl)))))
  (apply g_stR <;> (first | exact Zc | apply gI | ((repeat' (first | exact Y0 | apply Y1 | exact Y2 | apply Y3 | ((first | apply Y4 | apply Y5); simp only [evs, Nat.reduceEqDiff, reduceIte, wn, wd, t2, t5, t62, t63] <;> rfl))); done) | (apply Hy.mk; (try simp only [evs, wn, wd, t2, t5, t62, t63]); first | exact hw4 | assumption) | (apply Om.mk; first | exact hw4) | (apply Y6; (try simp only [evs, wn, wd, t2, t5, t62, t63]); first | rfl) | apply Cn.mk))
  intro m5 r5 o5 n5; simp only [evs, wn, wd, t2, t5, t62, t63] at r5 o5 n5
  have hTT : MS.params A.l (num - i) T = MS.params A.l (num - (i + 1)) { (T.declare xT.text T.pc xT.pos).bind xT.text T.decls.length with pc := T.pc + 1 } := by
   rw [show num - i = num - (i + 1) + 1 by omega, MS.params, List.getElem?_eq_getElem hpT, hxT2]
   simp only [hwp]
  have h5 : Rep (plus (plus X m.next) kk) A m5 wb { (T.declare xT.text T.pc xT.pos).bind xT.text T.decls.length with pc := T.pc + 1 } ((a.m.next + 1) :: fB) (dBi ++ [nb]) VT := h4.wrote o5 n5 r5 rfl rfl rfl rfl rfl rfl
  have k5 : Keep (plus (plus X m.next) kk) [83] m4 m5 := Keep.row hw4 h4.xw (by decide) o5 n5
  have k35 : Keep (plus (plus X m.next) kk) TT a'.m m5 := ((((Keep.grow gr2).trans (k3.mono (by simp))).trans (k4.mono (by simp))).trans (k5.mono (by simp)))
  have hi5 := bi1.go (p := T.pc + 1) (by rw [hwp]; exact Nat.le_succ _) hpT
  (repeat (first | apply wpN_cons | apply g_next | (apply G.h; constructor <;> (first | exact Zc | apply gI | ((repeat' (first | exact Y0 | apply Y1 | ((first | apply Y4 | apply Y5); simp only [evs, Nat.reduceEqDiff, reduceIte, wn, wd, t2, t5, t62, t63] <;> rfl))); done) | (apply Y6; (try simp only [evs, wn, wd, t2, t5, t62, t63]); first | rfl)))))
  refine ih (i + 1, { (T.declare xT.text T.pc xT.pos).bind xT.text T.decls.length with pc := T.pc + 1 }, dBi ++ [nb]) _ ⟨(by refine ⟨?_, ?_, ?_, ?_, ?_, ?_⟩ <;> (simp only [evs, Nat.reduceEqDiff, reduceIte, wn, wd, t2, t5, t62, t63] <;> first | rfl | (congr 1; omega) | omega)), hlt, hpr.trans hTT, by simp only; omega, hi5, ?_, ⟨VT, by simp only [evs]; exact h5⟩, hTd.trans (prefix_one dBi nb), by simp only [evs]; exact rkw4.stay k5 (.inr (by decide)), by simp only [evs]; exact rkk4.stay k5 (.inr (by decide)), by simp only [evs]; exact kT.trans k35⟩ (by simp only; omega)
  have q := (di2.trans bi2).fr
  rw [← hTf]
  exact q
 ·obtain rfl : i = num := by omega
  rw [Nat.sub_self, MS.params] at hpr
  have hDT : D (A.l.drop T.pc) 1 = some w2 := by rw [hTp]; exact e2
  (repeat (first | apply wpN_cons | apply g_next | (apply G.h; constructor <;> (first | exact Zc | apply gI | ((repeat' (first | exact Y0 | apply Y1 | ((first | apply Y4 | apply Y5); simp only [evs, Nat.reduceEqDiff, reduceIte, wn, wd, t2, t5, t62, t63] <;> rfl))); done) | (apply Y6; (try simp only [evs, wn, wd, t2, t5, t62, t63]); first | exact rkw.load1 rfl rfl rfl)))))
  ((first | apply g_run | apply g_run0) <;> (first | ((repeat' (first | exact Y0 | apply Y1 | exact Y2 | apply Y3 | ((first | apply Y4 | apply Y5); simp only [evs, Nat.reduceEqDiff, reduceIte, wn, wd, t2, t5, t62, t63] <;> rfl))); done) | exact Rn.mk (hN _ T _ _ dBi VT _ w2 (by simp only [evs]; exact hT) JT (by rw [hTf]; exact hzo) (by omega) hDT (by omega)) | apply Cn.mk))
  rintro v m6 ⟨dB6, V6, h6, p6, k6⟩
  try simp only [evs] at k6
  replace k6 : Keep (plus (plus X m.next) kk) TT a'.m m6 := k6
  have rkw6 := rkw.stay k6 (.inl (.inl (.inr rfl)))
  have rkk6 := rkk'.stay k6 (.inl (.inr rfl))
  obtain ⟨ni1, ni2, ni3⟩ := hnI T _ w2 JT hDT (by omega)
  replace h6 : Rep (plus (plus X m.next) kk) A m6 wb (nodeM A.l A.g f T) ((a.m.next + 1) :: fB) dB6 V6 := h6
  have hgoal : S.function A.l (nodeM A.l A.g f) p x = { (nodeM A.l A.g f T).leave with frames := (nodeM A.l A.g f T).leave.frames.tail } := by
   unfold MS.function
   rw [show x.num.toNat = i by omega, hpr]
  rw [hgoal]
  obtain ⟨f6, fs6, y1, y2, y3, y4⟩ := head_same ni2.fr hTfr
  generalize nodeM A.l A.g f T = S6 at h6 ni1 ni2 ni3 y1 hgoal ⊢
  have hne6 : f6.scopes ≠ [] := by intro hh; rw [hh, List.length_nil] at y3; omega
  apply ewpO_nil
  refine g_finDs (ds := [(94, [ptr kk]), (95, [ptr m.next])]) ?_ ?_
  ·(simp only [evs, Nat.reduceEqDiff, reduceIte, wn, wd, t2, t5, t62, t63] <;> first | rfl | (congr 1; omega) | omega)
  simp only [evs]
  refine RunsD.mono (leave94 h6 rfl y1 (.inr rfl) rkk6 (by omega) hne6).1 ?_
  rintro m7 ⟨h7, k7⟩
  have h7' := h7.less (.inl h.x0) (.inl h.xn)
  have rkw7 := rkw6.stay k7 (.inr (by decide))
  have hfr7 : S6.leave.frames = { f6 with scopes := f6.scopes.tail } :: fs6 := by unfold MS.leave MS.top; rw [y1]; rfl
  refine RunsD.mono (pop95 h7' rfl hfr7 (.inr rfl) rkw7 (by simp only [List.length_cons]; omega)) ?_
  rintro m8 ⟨frv, h8, k8⟩
  have hfs : S6.leave.frames.tail = fs6 := by rw [hfr7]; rfl
  rw [hfs]
  have sub1 : ∀ b, X b → plus X m.next b := fun b hb => .inl hb
  have sub2 : ∀ b, X b → plus (plus X m.next) kk b := fun b hb => .inl (.inl hb)
  have kk1 : Keep X TT m2 a.m := (k3.sub sub1).mono (by simp)
  have kk2 : Keep X TT a.m m10 := (k310.sub sub1).mono (by simp)
  have kk3 : Keep X TT m10 m11 := (k11.sub sub1).mono (by simp)
  have kk4 : Keep X TT m11 a'.m := kT.sub sub2
  have kk5 : Keep X TT a'.m m6 := k6.sub sub2
  have kk6 : Keep X TT m6 m7 := (k7.sub sub2).mono (by simp)
  have kk7 : Keep X TT m7 m8 := (k8.sub sub1).mono (by simp)
  exact ⟨dB6, _, h8.less h.x0 h.xn, hTd.trans p6, (((k02.trans kk1).trans kk2).trans kk3).trans (((kk4.trans kk5).trans kk6).trans kk7)⟩
end
end Go.Proofs.YtihokakelnfdgaaDoor
