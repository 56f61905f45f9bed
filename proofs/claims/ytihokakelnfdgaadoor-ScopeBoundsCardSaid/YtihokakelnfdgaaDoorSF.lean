/- Part of a verified evaluator of the model's programs and of runs by it: SQ5 SQ6 SR6. -/
import Derived.Test.YtihokakelnfdgaaDoorSE
namespace Go.Proofs.YtihokakelnfdgaaDoor
open Go Go.Ev
set_option maxRecDepth 100000
set_option linter.unusedVariables false
set_option linter.unusedSimpArgs false
set_option pp.maxSteps 1500
attribute [local irreducible] quiet allocs effect wp ret wpO Runs Act.tmp Act.eval fin results Tree.set binOp loadAt storeAt target wanted cellsFrom

section
variable {X : Nat → Prop} {A : Args} {wb : Nat} {S : MS} {fB dB : List Nat} {V : Vs} {m : Mem}

/-- the scope that names are laid into. -/
theorem FrR.scope {lo hi b cb : Nat} {f : Fr} {sv : Value} {sb : List Nat} (F : FrR X m dB lo hi b f sv sb cb) {sc : List (Bs × Nat)} {scr : List (List (Bs × Nat))} (hsc : f.scopes = sc :: scr) (hl : f.scopes.length ≤ 100000) :
  ∃ s0 sbt c0 cap r n, sb = s0 :: sbt ∧ sv = .slice (some ⟨c0, 0, none⟩) (n + 1) cap ∧ Row m c0 r 137 0 ∧ r[n]? = some (.map (some s0)) ∧ n ≤ 100000 ∧ lo ≤ s0 ∧ s0 < hi ∧ ¬ X s0 ∧ Mp m s0 (encE dB sc) := by
 obtain ⟨blo, bhi, bx, row, sl, slb, scs, clo, chi, cx, cmap, nodup⟩ := F
 rw [hsc] at scs hl
 match sb, scs with
 | s0 :: sbt, ⟨⟨q1, q2, q3, q4⟩, qs⟩ =>
  rw [List.reverse_cons, List.map_append] at sl
  obtain ⟨c0, cap, r, rfl, e2, e3, e4, e5, e6, e7⟩ := sl.last
  refine ⟨s0, sbt, c0, cap, r, _, rfl, rfl, e3, e6, ?_, q1, q2, q3, q4⟩
  have := qs.len
  simp only [List.length_cons] at hl
  simp; omega

/-- between the faults of a declaration. -/
def DSt (X : Nat → Prop) (A : Args) (wb : Nat) (fB dB : List Nat) (V : Vs) (m0 : Mem) (s : Bs) (at_ b fb fo nk s0 : Nat) (x : Nd) (S : MS) (a : Ev.Act) : Prop :=
 (a.n = 99 ∧ a.defers = [] ∧ a.tmp 0 = ptr wb ∧ a.tmp 1 = encS s ∧ a.tmp 2 = I at_ ∧ a.tmp 7 = ptr b ∧ a.tmp 8 = .pointer (some ⟨fb, fo, none⟩) ∧ a.tmp 9 = ptr nk ∧ a.tmp 10 = .map (some s0)) ∧
 Row a.m nk x.val 43 0 ∧ Rep X A a.m wb S fB dB V ∧ Keep X [83] m0 a.m

theorem declare79 (h : Rep X A m wb S fB dB V) {b : Nat} {bs : List Nat} {f : Fr} {fs : List Fr} {sc : List (Bs × Nat)} {scr : List (List (Bs × Nat))} (hf : fB = b :: bs) (hS : S.frames = f :: fs) (hsc : f.scopes = sc :: scr)
  (hs : fB.length ≤ 1000000) (hsl : f.scopes.length ≤ 100000) (hfn : f.fn < S.funs.length) (hslots : slotsOf S.funs f.fn ≤ 100000) (hR : Refs dB.length S) (hml : S.means.length = A.l.length) (s : Bs) (at_ : Nat) (hat : at_ < A.l.length) :
  Runs evEnv 79 [ptr wb, encS s, I at_] m fun v m' => ∃ nb, v = ptr nb ∧ m.next ≤ nb ∧ Rep X A m' wb (S.declare s at_ A.l[at_].pos) fB (dB ++ [nb]) V ∧ Keep X [83, 49, 90] m m' := by
 have hx := h.nodes.all at_ hat
 generalize A.l[at_] = x at hx
 obtain ⟨mid, sv, sb, cb, F, L⟩ := h.top_ hf hS
 obtain ⟨s0, sbt, c0, cap0, r0, n0, rfl, rfl, g3, g4, g5, g6, g7, g8, g9⟩ := F.scope hsc hsl
 have fr := F.row
 have hw := h.w
 have hfu := h.funs
 have hfl := encFns_len _ _ h.caps.1
 obtain ⟨fb, fcap, fr0, fn0, e1, e2, e3, e4, e5, e6, -⟩ := hfu.at (i := f.fn * 4) (by rw [hfl]; omega)
 rw [e1] at hw
 have hfn0 : fn0 = S.funs.length := by
  have := congrArg List.length e6
  rw [hfl, List.length_take] at this
  have : fn0 * 4 ≤ fcap * 4 := Nat.mul_le_mul_right _ e5
  omega
 have g4' : r0[0 + (n0 + 1 - 1) * 1]? = some (.map (some s0)) := by rw [show 0 + (n0 + 1 - 1) * 1 = n0 by omega]; exact g4
 refine runs_start rfl rfl rfl rfl ?_
 (repeat (first | (apply G.h; constructor <;> (first | exact Zc | apply gI | ((repeat' (first | exact Y0 | apply Y1 | ((first | apply Y4 | apply Y5); simp only [evs, Nat.reduceEqDiff, reduceIte] <;> rfl))); done) | (apply Y6; (try simp only [evs]); first | rfl)))))
 ((first | apply g_run | apply g_run0) <;> (first | ((repeat' (first | exact Y0 | apply Y1 | exact Y2 | apply Y3 | ((first | apply Y4 | apply Y5); simp only [evs, Nat.reduceEqDiff, reduceIte] <;> rfl))); done) | exact Rn.mk (top74 (by simp only [evs]; exact h) hf hs) | apply Cn.mk))
 rintro v m1 ⟨rfl, rfl⟩
 have hb := row_new m zeroNode 43 0
 (repeat (first | (apply G.h; constructor <;> (first | exact Zc | apply gI | ((repeat' (first | exact Y0 | apply Y1 | ((first | apply Y4 | apply Y5); simp only [evs, Nat.reduceEqDiff, reduceIte] <;> rfl))); done) | (apply Y6; (try simp only [evs]); first | exact hx | exact fr.load1 rfl rfl rfl | exact hw.load1 rfl rfl rfl)))))
 (apply g_stR <;> (first | exact Zc | apply gI | ((repeat' (first | exact Y0 | apply Y1 | exact Y2 | apply Y3 | ((first | apply Y4 | apply Y5); simp only [evs, Nat.reduceEqDiff, reduceIte] <;> rfl))); done) | (apply Hy.mk; (try simp only [evs]); first | exact hb | assumption) | (apply Om.mk; first | exact hb) | (apply Y6; (try simp only [evs]); first | rfl) | apply Cn.mk))
 intro m2 r2 o2 n2; simp only [evs] at r2 o2 n2
 have gr2 : Grow m m2 := ((Grow.refl m).new _).wrote (Nat.le_refl _) o2 n2
 have h2 := h.grow gr2
 have g3' := g3.grow gr2
 have fr' := fr.grow gr2
 (repeat (first | (apply G.h; constructor <;> (first | exact Zc | apply gI | ((repeat' (first | exact Y0 | apply Y1 | ((first | apply Y4 | apply Y5); simp only [evs, Nat.reduceEqDiff, reduceIte] <;> rfl))); done) | (apply Y6; (try simp only [evs]); first | exact g3'.load1 rfl rfl g4' | exact fr'.load1 rfl rfl rfl)))))
 ((first | apply g_run | apply g_run0) <;> (first | ((repeat' (first | exact Y0 | apply Y1 | exact Y2 | apply Y3 | ((first | apply Y4 | apply Y5); simp only [evs, Nat.reduceEqDiff, reduceIte] <;> rfl))); done) | exact Rn.mk (prim21 s _ (by simp only [evs]; exact h2.names)) | apply Cn.mk))
 rintro v m3 ⟨rfl, rfl⟩
 (repeat (first | (apply G.h; constructor <;> (first | exact Zc | apply gI | ((repeat' (first | exact Y0 | apply Y1 | ((first | apply Y4 | apply Y5); simp only [evs, Nat.reduceEqDiff, reduceIte] <;> rfl))); done) | (apply Y6; (try simp only [evs]); first | rfl)))))
 refine sel_cut (DSt X A wb fB dB V m s at_ b fb (0 + f.fn * 4) m.next s0 x (S.failIf (primI s).isSome 8 x.pos)) ?_ ?_
 ·cases hp : (primI s).isSome
  ·apply g_F
   (repeat (first | (apply G.h; constructor <;> (first | exact Zc | apply gI | ((repeat' (first | exact Y0 | apply Y1 | ((first | apply Y4 | apply Y5); simp only [evs, Nat.reduceEqDiff, reduceIte] <;> rfl))); done) | (apply Y6; (try simp only [evs]); first | rfl)))))
   refine eret_nil ⟨rfl, (by refine ⟨?_, ?_, ?_, ?_, ?_, ?_, ?_, ?_, ?_⟩ <;> (simp only [evs, Nat.reduceEqDiff, reduceIte] <;> first | rfl | (congr 1; omega) | omega)), ?_, ?_, ?_⟩
   ·simp only [evs]; exact r2
   ·simp only [evs]; exact h2
   ·simp only [evs]; exact Keep.grow gr2
  ·apply g_T
   (repeat (first | (apply G.h; constructor <;> (first | exact Zc | apply gI | ((repeat' (first | exact Y0 | apply Y1 | ((first | apply Y4 | apply Y5); simp only [evs, Nat.reduceEqDiff, reduceIte] <;> rfl))); done) | (apply Y6; (try simp only [evs]); first | exact r2.loadA rfl rfl rfl (Nat.le_refl 5) rfl)))))
   ((first | apply g_run | apply g_run0) <;> (first | ((repeat' (first | exact Y0 | apply Y1 | exact Y2 | apply Y3 | ((first | apply Y4 | apply Y5); simp only [evs, Nat.reduceEqDiff, reduceIte] <;> rfl))); done) | exact Rn.mk (fail90 (e := 8) (x := x) (by simp only [evs]; exact h2)) | apply Cn.mk))
   rintro v m4 ⟨h4, k4⟩
   simp only [evs] at k4
   (repeat (first | (apply G.h; constructor <;> (first | exact Zc | apply gI | ((repeat' (first | exact Y0 | apply Y1 | ((first | apply Y4 | apply Y5); simp only [evs, Nat.reduceEqDiff, reduceIte] <;> rfl))); done) | (apply Y6; (try simp only [evs]); first | rfl)))))
   refine eret_nil ⟨rfl, (by refine ⟨?_, ?_, ?_, ?_, ?_, ?_, ?_, ?_, ?_⟩ <;> (simp only [evs, Nat.reduceEqDiff, reduceIte] <;> first | rfl | (congr 1; omega) | omega)), ?_, ?_, ?_⟩
   ·simp only [evs]; exact r2.stay k4 (.inr (by decide))
   ·simp only [evs]; exact h4
   ·simp only [evs]; exact (Keep.grow gr2).trans k4
 clear r2 o2 n2 h2 g3' fr' hw
 rintro a ⟨⟨qn, qd, q0, q1, q2, q7, q8, q9, q10⟩, rb, h3, k3⟩
 (repeat (first | (apply G.h; constructor <;> (first | exact Zc | apply gI | ((repeat' (first | exact Y0 | apply Y1 | ((first | apply Y4 | apply Y5); simp only [evs, Nat.reduceEqDiff, reduceIte, qn, qd, q0, q1, q2, q7, q8, q9, q10] <;> rfl))); done) | (apply Y6; (try simp only [evs, qn, qd, q0, q1, q2, q7, q8, q9, q10]); first | rfl)))))
 have g9' := g9.stay k3 (.inr (by decide))
 generalize hS1 : S.failIf (primI s).isSome 8 x.pos = S1 at h3
 refine ewpO_cut (DSt X A wb fB dB V m s at_ b fb (0 + f.fn * 4) m.next s0 x (S1.failIf (look s sc).isSome 80 x.pos)) ?_ ?_
 ·cases hl : look s sc with
  | none =>
   have hfnd : quiet.find evEnv a.m 9 (encS s) (encE dB sc) = some none := by
    have := find_str (g := dptr dB) a.m s sc
    rw [hl] at this; exact this
   (apply g_lookup (f := none) <;> (first | exact Zc | apply gI | ((repeat' (first | exact Y0 | apply Y1 | exact Y2 | apply Y3 | ((first | apply Y4 | apply Y5); simp only [evs, Nat.reduceEqDiff, reduceIte, qn, qd, q0, q1, q2, q7, q8, q9, q10] <;> rfl))); done) | (apply Hy.mk; (try simp only [evs, qn, qd, q0, q1, q2, q7, q8, q9, q10]); first | exact g9'.2 | exact hfnd | assumption) | (apply Om.mk; first | exact g9'.2 | exact hfnd) | (apply Y6; (try simp only [evs, qn, qd, q0, q1, q2, q7, q8, q9, q10]); first | rfl) | apply Cn.mk))
   (repeat (first | (apply G.h; constructor <;> (first | exact Zc | apply gI | ((repeat' (first | exact Y0 | apply Y1 | ((first | apply Y4 | apply Y5); simp only [evs, Nat.reduceEqDiff, reduceIte, qn, qd, q0, q1, q2, q7, q8, q9, q10] <;> rfl))); done) | (apply Y6; (try simp only [evs, qn, qd, q0, q1, q2, q7, q8, q9, q10]); first | rfl)))))
   refine eret_nil ⟨rfl, (by refine ⟨?_, ?_, ?_, ?_, ?_, ?_, ?_, ?_, ?_⟩ <;> (simp only [evs, Nat.reduceEqDiff, reduceIte, qn, qd, q0, q1, q2, q7, q8, q9, q10] <;> first | rfl | (congr 1; omega) | omega)), ?_, ?_, ?_⟩
   ·simp only [evs]; exact rb
   ·simp only [evs]; exact h3
   ·simp only [evs]; exact k3
  | some d =>
   have hfnd : quiet.find evEnv a.m 9 (encS s) (encE dB sc) = some (some (dptr dB d)) := by
    have := find_str (g := dptr dB) a.m s sc
    rw [hl] at this; exact this
   (apply g_lookup (f := some (dptr dB d)) <;> (first | exact Zc | apply gI | ((repeat' (first | exact Y0 | apply Y1 | exact Y2 | apply Y3 | ((first | apply Y4 | apply Y5); simp only [evs, Nat.reduceEqDiff, reduceIte, qn, qd, q0, q1, q2, q7, q8, q9, q10] <;> rfl))); done) | (apply Hy.mk; (try simp only [evs, qn, qd, q0, q1, q2, q7, q8, q9, q10]); first | exact g9'.2 | exact hfnd | assumption) | (apply Om.mk; first | exact g9'.2 | exact hfnd) | (apply Y6; (try simp only [evs, qn, qd, q0, q1, q2, q7, q8, q9, q10]); first | rfl) | apply Cn.mk))
   (repeat (first | (apply G.h; constructor <;> (first | exact Zc | apply gI | ((repeat' (first | exact Y0 | apply Y1 | ((first | apply Y4 | apply Y5); simp only [evs, Nat.reduceEqDiff, reduceIte, qn, qd, q0, q1, q2, q7, q8, q9, q10] <;> rfl))); done) | (apply Y6; (try simp only [evs, qn, qd, q0, q1, q2, q7, q8, q9, q10]); first | exact rb.loadA rfl rfl rfl (Nat.le_refl 5) rfl)))))
   ((first | apply g_run | apply g_run0) <;> (first | ((repeat' (first | exact Y0 | apply Y1 | exact Y2 | apply Y3 | ((first | apply Y4 | apply Y5); simp only [evs, Nat.reduceEqDiff, reduceIte, qn, qd, q0, q1, q2, q7, q8, q9, q10] <;> rfl))); done) | exact Rn.mk (fail90 (e := 80) (x := x) (by simp only [evs]; exact h3)) | apply Cn.mk))
   rintro v m4 ⟨h4, k4⟩
   simp only [evs] at k4
   (repeat (first | (apply G.h; constructor <;> (first | exact Zc | apply gI | ((repeat' (first | exact Y0 | apply Y1 | ((first | apply Y4 | apply Y5); simp only [evs, Nat.reduceEqDiff, reduceIte, qn, qd, q0, q1, q2, q7, q8, q9, q10] <;> rfl))); done) | (apply Y6; (try simp only [evs, qn, qd, q0, q1, q2, q7, q8, q9, q10]); first | rfl)))))
   refine eret_nil ⟨rfl, (by refine ⟨?_, ?_, ?_, ?_, ?_, ?_, ?_, ?_, ?_⟩ <;> (simp only [evs, Nat.reduceEqDiff, reduceIte, qn, qd, q0, q1, q2, q7, q8, q9, q10] <;> first | rfl | (congr 1; omega) | omega)), ?_, ?_, ?_⟩
   ·simp only [evs]; exact rb.stay k4 (.inr (by decide))
   ·simp only [evs]; exact h4
   ·simp only [evs]; exact k3.trans k4
 clear h3 k3 rb g9' qn qd q0 q1 q2 q7 q8 q9 q10
 generalize hS2 : S1.failIf (look s sc).isSome 80 x.pos = S2
 rintro a ⟨⟨qn, qd, q0, q1, q2, q7, q8, q9, q10⟩, rb, h3, k3⟩
 obtain ⟨z1, z2, z3, z4, z5, z6, z7⟩ := failIf_rest S (primI s).isSome 8 x.pos
 obtain ⟨y1, y2, y3, y4, y5, y6, y7⟩ := failIf_rest S1 (look s sc).isSome 80 x.pos
 have hgs : (encFns V.cvs S.funs)[f.fn * 4 + 2]? = some (I (slotsOf S.funs f.fn)) := slots_get h.caps.1 hfn
 have hrs : fr0[0 + f.fn * 4 + 2]? = some (I (slotsOf S.funs f.fn)) := by
  rw [e6, List.getElem?_take_of_lt (by omega)] at hgs
  rw [Nat.zero_add]; exact hgs
 generalize hsl0 : slotsOf S.funs f.fn = slots at hrs hslots hgs
 have e3' := e3.stay k3 (.inr (by decide))
 (repeat (first | (apply G.h; constructor <;> (first | exact Zc | apply gI | ((repeat' (first | exact Y0 | apply Y1 | ((first | apply Y4 | apply Y5); simp only [evs, Nat.reduceEqDiff, reduceIte, qn, qd, q0, q1, q2, q7, q8, q9, q10] <;> rfl))); done) | (apply Y6; (try simp only [evs, qn, qd, q0, q1, q2, q7, q8, q9, q10]); first | exact e3'.load1 rfl rfl hrs)))))
 refine ewpO_cut (DSt X A wb fB dB V m s at_ b fb (0 + f.fn * 4) m.next s0 x (S2.failIf (decide (slots = 256)) 3 x.pos)) ?_ ?_
 ·by_cases h256 : slots = 256
  ·rw [decide_eq_true h256]
   (repeat (first | (apply G.h; constructor <;> (first | exact Zc | apply gI | ((repeat' (first | exact Y0 | apply Y1 | ((first | apply Y4 | apply Y5); simp only [evs, Nat.reduceEqDiff, reduceIte, qn, qd, q0, q1, q2, q7, q8, q9, q10] <;> rfl))); done) | (apply Y6; (try simp only [evs, qn, qd, q0, q1, q2, q7, q8, q9, q10]); first | exact rb.loadA rfl rfl rfl (Nat.le_refl 5) rfl)))))
   ((first | apply g_run | apply g_run0) <;> (first | ((repeat' (first | exact Y0 | apply Y1 | exact Y2 | apply Y3 | ((first | apply Y4 | apply Y5); simp only [evs, Nat.reduceEqDiff, reduceIte, qn, qd, q0, q1, q2, q7, q8, q9, q10] <;> rfl))); done) | exact Rn.mk (fail90 (e := 3) (x := x) (by simp only [evs]; exact h3)) | apply Cn.mk))
   rintro v m4 ⟨h4, k4⟩
   simp only [evs] at k4
   (repeat (first | (apply G.h; constructor <;> (first | exact Zc | apply gI | ((repeat' (first | exact Y0 | apply Y1 | ((first | apply Y4 | apply Y5); simp only [evs, Nat.reduceEqDiff, reduceIte, qn, qd, q0, q1, q2, q7, q8, q9, q10] <;> rfl))); done) | (apply Y6; (try simp only [evs, qn, qd, q0, q1, q2, q7, q8, q9, q10]); first | rfl)))))
   refine eret_nil ⟨rfl, (by refine ⟨?_, ?_, ?_, ?_, ?_, ?_, ?_, ?_, ?_⟩ <;> (simp only [evs, Nat.reduceEqDiff, reduceIte, qn, qd, q0, q1, q2, q7, q8, q9, q10] <;> first | rfl | (congr 1; omega) | omega)), ?_, ?_, ?_⟩
   ·simp only [evs]; exact rb.stay k4 (.inr (by decide))
   ·simp only [evs]; exact h4
   ·simp only [evs]; exact k3.trans k4
  ·rw [decide_eq_false h256]
   (repeat (first | (apply G.h; constructor <;> (first | exact Zc | apply gI | ((repeat' (first | exact Y0 | apply Y1 | ((first | apply Y4 | apply Y5); simp only [evs, Nat.reduceEqDiff, reduceIte, qn, qd, q0, q1, q2, q7, q8, q9, q10] <;> rfl))); done) | (apply Y6; (try simp only [evs, qn, qd, q0, q1, q2, q7, q8, q9, q10]); first | rfl)))))
   refine eret_nil ⟨rfl, (by refine ⟨?_, ?_, ?_, ?_, ?_, ?_, ?_, ?_, ?_⟩ <;> (simp only [evs, Nat.reduceEqDiff, reduceIte, qn, qd, q0, q1, q2, q7, q8, q9, q10] <;> first | rfl | (congr 1; omega) | omega)), ?_, ?_, ?_⟩
   ·simp only [evs]; exact rb
   ·simp only [evs]; exact h3
   ·simp only [evs]; exact k3
 clear h3 k3 rb e3' qn qd q0 q1 q2 q7 q8 q9 q10
 generalize hS3 : S2.failIf (decide (slots = 256)) 3 x.pos = S3
 rintro a ⟨⟨qn, qd, q0, q1, q2, q7, q8, q9, q10⟩, rb, h3, k3⟩
 obtain ⟨x1, x2, x3, x4, x5, x6, x7⟩ := failIf_rest S2 (decide (slots = 256)) 3 x.pos
 have e3' := e3.stay k3 (.inr (by decide))
 have fr3 := fr.stay k3 (.inr (by decide))
 (repeat (first | (apply G.h; constructor <;> (first | exact Zc | apply gI | ((repeat' (first | exact Y0 | apply Y1 | ((first | apply Y4 | apply Y5); simp only [evs, Nat.reduceEqDiff, reduceIte, qn, qd, q0, q1, q2, q7, q8, q9, q10] <;> rfl))); done) | (apply Y6; (try simp only [evs, qn, qd, q0, q1, q2, q7, q8, q9, q10]); first | exact e3'.load1 rfl rfl hrs | exact fr3.load1 rfl rfl rfl)))))
 have e3n := e3'.keep_new (rowObj [I f.fn, I slots, .bool false] 92 0)
 have rd := row_new a.m [I f.fn, I slots, .bool false] 92 0
 have h3w := h3.w
 have h3m := h3.means
 have hml3 : (S3.means.map (optPtr dB)).length = A.l.length := by rw [List.length_map, ← hml, ← hS3, x5, ← hS2, y5, ← hS1, z5]
 obtain ⟨mb, mcap, mr, mn, v1, v2, v3, v4, v5, v6, -⟩ := h3m.at (i := at_) (by omega)
 have hmn : mn = A.l.length := by
  have := congrArg List.length v6
  rw [hml3, List.length_take] at this
  omega
 rw [v1] at h3w
 have hfr : 0 + f.fn * 4 + 2 + 1 ≤ fr0.length := by have : fn0 * 4 ≤ fcap * 4 := Nat.mul_le_mul_right _ e5; omega
 have hmr : 0 + at_ * 1 + 1 ≤ mr.length := by omega
 (repeat (first | (apply G.h; constructor <;> (first | exact Zc | apply gI | ((repeat' (first | exact Y0 | apply Y1 | ((first | apply Y4 | apply Y5); simp only [evs, Nat.reduceEqDiff, reduceIte, qn, qd, q0, q1, q2, q7, q8, q9, q10] <;> rfl))); done) | (apply Y6; (try simp only [evs, qn, qd, q0, q1, q2, q7, q8, q9, q10]); first | exact e3n.load1 rfl rfl hrs)))))
 (apply g_stR <;> (first | exact Zc | apply gI | ((repeat' (first | exact Y0 | apply Y1 | exact Y2 | apply Y3 | ((first | apply Y4 | apply Y5); simp only [evs, Nat.reduceEqDiff, reduceIte, qn, qd, q0, q1, q2, q7, q8, q9, q10] <;> rfl))); done) | (apply Hy.mk; (try simp only [evs, qn, qd, q0, q1, q2, q7, q8, q9, q10]); first | exact e3n | exact hfr | assumption) | (apply Om.mk; first | exact e3n | exact hfr) | (apply Y6; (try simp only [evs, qn, qd, q0, q1, q2, q7, q8, q9, q10]); first | rfl) | apply Cn.mk))
 intro m5 r5 o5 n5; simp only [evs, qn, qd, q0, q1, q2, q7, q8, q9, q10] at r5 o5 n5
 have k5 : Keep X [49] (a.m.new (rowObj [I f.fn, I slots, .bool false] 92 0)) m5 := Keep.row e3n e2 (by decide) o5 n5
 have hw5 := (h3w.keep_new (rowObj [I f.fn, I slots, .bool false] 92 0)).stay k5 (.inr (by decide))
 have v5r := (v3.keep_new (rowObj [I f.fn, I slots, .bool false] 92 0)).stay k5 (.inr (by decide))
 (repeat (first | (apply G.h; constructor <;> (first | exact Zc | apply gI | ((repeat' (first | exact Y0 | apply Y1 | ((first | apply Y4 | apply Y5); simp only [evs, Nat.reduceEqDiff, reduceIte, qn, qd, q0, q1, q2, q7, q8, q9, q10] <;> rfl))); done) | (apply Y6; (try simp only [evs, qn, qd, q0, q1, q2, q7, q8, q9, q10]); first | exact hw5.load1 rfl rfl rfl)))))
 (apply g_stR <;> (first | exact Zc | apply gI | ((repeat' (first | exact Y0 | apply Y1 | exact Y2 | apply Y3 | ((first | apply Y4 | apply Y5); simp only [evs, Nat.reduceEqDiff, reduceIte, qn, qd, q0, q1, q2, q7, q8, q9, q10] <;> rfl))); done) | (apply Hy.mk; (try simp only [evs, qn, qd, q0, q1, q2, q7, q8, q9, q10]); first | exact v5r | exact hmr | assumption) | (apply Om.mk; first | exact v5r | exact hmr) | (apply Y6; (try simp only [evs, qn, qd, q0, q1, q2, q7, q8, q9, q10]); first | rfl) | apply Cn.mk))
 intro m6 r6 o6 n6; simp only [evs, qn, qd, q0, q1, q2, q7, q8, q9, q10] at r6 o6 n6
 (repeat (first | (apply G.h; constructor <;> (first | exact Zc | apply gI | ((repeat' (first | exact Y0 | apply Y1 | ((first | apply Y4 | apply Y5); simp only [evs, Nat.reduceEqDiff, reduceIte, qn, qd, q0, q1, q2, q7, q8, q9, q10] <;> rfl))); done) | (apply Y6; (try simp only [evs, qn, qd, q0, q1, q2, q7, q8, q9, q10]); first | rfl)))))
 (refine g_fin (by repeat' first | exact Rs.nil | apply Rs.cons | (apply Y4; simp only [evs, Nat.reduceEqDiff, reduceIte, qn, qd, q0, q1, q2, q7, q8, q9, q10] <;> rfl)) (by (simp only [evs, Nat.reduceEqDiff, reduceIte, qn, qd, q0, q1, q2, q7, q8, q9, q10] <;> first | rfl | (congr 1; omega) | omega)) ?_)
 simp only [evs]
 have k6 : Keep X [90] m5 m6 := Keep.row v5r v2 (by decide) o6 n6
 have kall : Keep X [49, 90] a.m m6 := ((Keep.new _).trans (k5.mono (by decide))).trans (k6.mono (by decide))
 refine ⟨a.m.next, rfl, k3.1, ?_, (k3.mono (by decide)).trans (kall.mono (by decide))⟩
 have hD : S.declare s at_ x.pos = { S3 with decls := S3.decls ++ [⟨f.fn, slots, false⟩], funs := S3.funs.modify f.fn fun f => { f with slots := f.slots + 1 }, means := S3.means.set at_ (some S.decls.length) } := by
  unfold MS.declare MS.topFn MS.topScopes
  rw [hS]
  simp only [hsc, headSc, hS1, hS2, hsl0, hS3]
 have w1 : S3.funs = S.funs := by rw [← hS3, x1, ← hS2, y1, ← hS1, z1]
 have w4 : S3.frames = S.frames := by rw [← hS3, x4, ← hS2, y4, ← hS1, z4]
 have w5 : S3.means = S.means := by rw [← hS3, x5, ← hS2, y5, ← hS1, z5]
 have w6 : S3.decls = S.decls := by rw [← hS3, x6, ← hS2, y6, ← hS1, z6]
 have hdl := h.decls.1
 rw [hD]
 refine h3.turn kall ?_ ?_ ?_ (h3.uses.stay kall (by decide)) (h3.globals.stay kall (by decide)) rfl ((kall.2 _ _ h3.gmap.1 h3.gmap.2 (.inr (show mapTag ∉ [49, 90] by decide))).trans h3.gmap.2.symm) (h3.frames.stay kall (by decide)) ?_ ?_ ?_
 ·have := hw5.stay k6 (.inr (by decide))
  rw [← v1] at this
  exact this
 ·have q := h3.funs
  rw [e1] at q
  have q2 := (q.stored (o := f.fn * 4 + 2) (w := I ((slots + 1 : Nat) : Int)) e3' (by have := r5; rw [show 0 + f.fn * 4 + 2 = f.fn * 4 + 2 by omega] at this; exact this) (by rw [w1, hfl]; omega)).stay k6 (by decide)
  rw [encFns_set _ _ _ _ _ (fun f => { f with slots := f.slots + 1 }) (by rw [w1]; exact hfn) h3.caps.1 (by omega) ?_, ← e1] at q2
  ·exact q2
  ·intro cv f0 _ hf0
   have : slotsOf S.funs f.fn = f0.slots := by unfold slotsOf; rw [← w1, hf0]
   rw [← hsl0, this]; rfl
 ·exact (h3.caps.stay kall (by decide)).same (List.length_modify ..) (modify_caps _ _ _ fun _ => rfl)
 ·have q := ((h3m.grow ((Grow.refl a.m).new (rowObj [I f.fn, I slots, .bool false] 92 0))).stay k5 (by decide))
  rw [v1] at q
  have q2 := q.stored (o := at_) (w := ptr a.m.next) v5r (by have z : Row m6 mb (put mr (0 + at_ * 1) [ptr a.m.next]) 90 0 := r6; rw [show 0 + at_ * 1 = at_ by omega] at z; exact z) (by omega)
  rw [means_more (fun d hd => hR.1 d (by rw [← w5]; exact hd)), ← v1, hdl] at q2
  exact q2
 ·refine (h3.decls.stay kall (by decide)).more (fun b hb hk => ?_) (fun hX => Nat.lt_irrefl _ (h3.hX _ hX)) ((rd.stay k5 (.inr (by decide))).stay k6 (.inr (by decide)))
  obtain ⟨i, hi, rfl⟩ := List.getElem_of_mem hb
  have := (h3.decls.2.2 i _ _ (List.getElem?_eq_getElem hi) (List.getElem?_eq_getElem (by have := h3.decls.1; omega))).2.1
  omega
 ·exact (h3.frs.stay kall (by decide) kall.1).dec (by rw [w4]; exact hR.2)
end
end Go.Proofs.YtihokakelnfdgaaDoor

namespace Go.Proofs.YtihokakelnfdgaaDoor
open Go Go.Ev
set_option maxRecDepth 100000
set_option linter.unusedVariables false
set_option linter.unusedSimpArgs false
set_option pp.maxSteps 1500
attribute [local irreducible] quiet allocs effect wp ret wpO Runs Act.tmp Act.eval fin results Tree.set binOp loadAt storeAt target wanted cellsFrom

section
variable {X : Nat → Prop} {A : Args} {wb : Nat} {S : MS} {fB dB : List Nat} {V : Vs} {m : Mem}

/-- between the faults of a global. -/
def GSt (X : Nat → Prop) (A : Args) (wb : Nat) (fB dB : List Nat) (V : Vs) (m0 : Mem) (s : Bs) (at_ nk : Nat) (x : Nd) (S : MS) (a : Ev.Act) : Prop :=
 (a.n = 81 ∧ a.defers = [] ∧ a.tmp 0 = ptr wb ∧ a.tmp 1 = encS s ∧ a.tmp 2 = I at_ ∧ a.tmp 6 = ptr nk) ∧ Row a.m nk x.val 43 0 ∧ Rep X A a.m wb S fB dB V ∧ Keep X [83] m0 a.m

theorem global78 (h : Rep X A m wb S fB dB V) (hul : S.uses.length = A.l.length) (hgl : S.globals.length ≤ 100000) (s : Bs) (at_ : Nat) (hat : at_ < A.l.length) :
  Runs evEnv 78 [ptr wb, encS s, I at_] m fun v m' => ∃ gv, Rep X A m' wb (S.global A.g s at_ A.l[at_].pos) fB dB { V with gv := gv } ∧ Keep X [83, 57, 9] m m' := by
 have hx := h.nodes.all at_ hat
 generalize A.l[at_] = x at hx
 have hw := h.w
 refine runs_start rfl rfl rfl rfl ?_
 have hb := row_new m zeroNode 43 0
 (repeat (first | (apply G.h; constructor <;> (first | exact Zc | apply gI | ((repeat' (first | exact Y0 | apply Y1 | ((first | apply Y4 | apply Y5); simp only [evs, Nat.reduceEqDiff, reduceIte] <;> rfl))); done) | (apply Y6; (try simp only [evs]); first | exact hx | exact hw.load1 rfl rfl rfl)))))
 (apply g_stR <;> (first | exact Zc | apply gI | ((repeat' (first | exact Y0 | apply Y1 | exact Y2 | apply Y3 | ((first | apply Y4 | apply Y5); simp only [evs, Nat.reduceEqDiff, reduceIte] <;> rfl))); done) | (apply Hy.mk; (try simp only [evs]); first | exact hb | assumption) | (apply Om.mk; first | exact hb) | (apply Y6; (try simp only [evs]); first | rfl) | apply Cn.mk))
 intro m2 r2 o2 n2; simp only [evs] at r2 o2 n2
 have gr2 : Grow m m2 := ((Grow.refl m).new _).wrote (Nat.le_refl _) o2 n2
 have h2 := h.grow gr2
 (repeat (first | (apply G.h; constructor <;> (first | exact Zc | apply gI | ((repeat' (first | exact Y0 | apply Y1 | ((first | apply Y4 | apply Y5); simp only [evs, Nat.reduceEqDiff, reduceIte] <;> rfl))); done) | (apply Y6; (try simp only [evs]); first | rfl)))))
 ((first | apply g_run | apply g_run0) <;> (first | ((repeat' (first | exact Y0 | apply Y1 | exact Y2 | apply Y3 | ((first | apply Y4 | apply Y5); simp only [evs, Nat.reduceEqDiff, reduceIte] <;> rfl))); done) | exact Rn.mk (prim21 s _ (by simp only [evs]; exact h2.names)) | apply Cn.mk))
 rintro v m3 ⟨rfl, rfl⟩
 (repeat (first | (apply G.h; constructor <;> (first | exact Zc | apply gI | ((repeat' (first | exact Y0 | apply Y1 | ((first | apply Y4 | apply Y5); simp only [evs, Nat.reduceEqDiff, reduceIte] <;> rfl))); done) | (apply Y6; (try simp only [evs]); first | rfl)))))
 refine sel_cut (GSt X A wb fB dB V m s at_ m.next x (S.failIf (primI s).isSome 8 x.pos)) ?_ ?_
 ·cases hp : (primI s).isSome
  ·apply g_F
   (repeat (first | (apply G.h; constructor <;> (first | exact Zc | apply gI | ((repeat' (first | exact Y0 | apply Y1 | ((first | apply Y4 | apply Y5); simp only [evs, Nat.reduceEqDiff, reduceIte] <;> rfl))); done) | (apply Y6; (try simp only [evs]); first | rfl)))))
   refine eret_nil ⟨rfl, (by refine ⟨?_, ?_, ?_, ?_, ?_, ?_⟩ <;> (simp only [evs, Nat.reduceEqDiff, reduceIte] <;> first | rfl | (congr 1; omega) | omega)), ?_, ?_, ?_⟩
   ·simp only [evs]; exact r2
   ·simp only [evs]; exact h2
   ·simp only [evs]; exact Keep.grow gr2
  ·apply g_T
   (repeat (first | (apply G.h; constructor <;> (first | exact Zc | apply gI | ((repeat' (first | exact Y0 | apply Y1 | ((first | apply Y4 | apply Y5); simp only [evs, Nat.reduceEqDiff, reduceIte] <;> rfl))); done) | (apply Y6; (try simp only [evs]); first | exact r2.loadA rfl rfl rfl (Nat.le_refl 5) rfl)))))
   ((first | apply g_run | apply g_run0) <;> (first | ((repeat' (first | exact Y0 | apply Y1 | exact Y2 | apply Y3 | ((first | apply Y4 | apply Y5); simp only [evs, Nat.reduceEqDiff, reduceIte] <;> rfl))); done) | exact Rn.mk (fail90 (e := 8) (x := x) (by simp only [evs]; exact h2)) | apply Cn.mk))
   rintro v m4 ⟨h4, k4⟩
   simp only [evs] at k4
   (repeat (first | (apply G.h; constructor <;> (first | exact Zc | apply gI | ((repeat' (first | exact Y0 | apply Y1 | ((first | apply Y4 | apply Y5); simp only [evs, Nat.reduceEqDiff, reduceIte] <;> rfl))); done) | (apply Y6; (try simp only [evs]); first | rfl)))))
   refine eret_nil ⟨rfl, (by refine ⟨?_, ?_, ?_, ?_, ?_, ?_⟩ <;> (simp only [evs, Nat.reduceEqDiff, reduceIte] <;> first | rfl | (congr 1; omega) | omega)), ?_, ?_, ?_⟩
   ·simp only [evs]; exact r2.stay k4 (.inr (by decide))
   ·simp only [evs]; exact h4
   ·simp only [evs]; exact (Keep.grow gr2).trans k4
 clear r2 o2 n2 h2 hw
 generalize hS1 : S.failIf (primI s).isSome 8 x.pos = S1
 rintro a ⟨⟨qn, qd, q0, q1, q2, q6⟩, rb, h3, k3⟩
 have hw3 := h3.w
 (repeat (first | (apply G.h; constructor <;> (first | exact Zc | apply gI | ((repeat' (first | exact Y0 | apply Y1 | ((first | apply Y4 | apply Y5); simp only [evs, Nat.reduceEqDiff, reduceIte, qn, qd, q0, q1, q2, q6] <;> rfl))); done) | (apply Y6; (try simp only [evs, qn, qd, q0, q1, q2, q6]); first | exact hw3.load1 rfl rfl rfl)))))
 have hgm := h3.gmap.2
 refine ewpO_cut0 (fun a => GSt X A wb fB dB V m s at_ m.next x S1 a ∧ a.tmp 9 = I ((look s A.g).getD 0 : Nat) ∧ a.tmp 10 = .bool (look s A.g).isSome) ?_ ?_
 ·cases hl : look s A.g with
  | none =>
   have hfnd : quiet.find evEnv a.m 9 (encS s) (encG A.g) = some none := by
    have := find_str (g := fun i => I i) a.m s A.g
    rw [hl] at this; exact this
   (apply g_lookup (f := none) <;> (first | exact Zc | apply gI | ((repeat' (first | exact Y0 | apply Y1 | exact Y2 | apply Y3 | ((first | apply Y4 | apply Y5); simp only [evs, Nat.reduceEqDiff, reduceIte, qn, qd, q0, q1, q2, q6] <;> rfl))); done) | (apply Hy.mk; (try simp only [evs, qn, qd, q0, q1, q2, q6]); first | exact hgm | exact hfnd | assumption) | (apply Om.mk; first | exact hgm | exact hfnd) | (apply Y6; (try simp only [evs, qn, qd, q0, q1, q2, q6]); first | rfl) | apply Cn.mk))
   (repeat (first | (apply G.h; constructor <;> (first | exact Zc | apply gI | ((repeat' (first | exact Y0 | apply Y1 | ((first | apply Y4 | apply Y5); simp only [evs, Nat.reduceEqDiff, reduceIte, qn, qd, q0, q1, q2, q6] <;> rfl))); done) | (apply Y6; (try simp only [evs, qn, qd, q0, q1, q2, q6]); first | rfl)))))
   refine eret_nil ⟨rfl, ⟨(by refine ⟨?_, ?_, ?_, ?_, ?_, ?_⟩ <;> (simp only [evs, Nat.reduceEqDiff, reduceIte, qn, qd, q0, q1, q2, q6] <;> first | rfl | (congr 1; omega) | omega)), ?_, ?_, ?_⟩, by (simp only [evs, Nat.reduceEqDiff, reduceIte, qn, qd, q0, q1, q2, q6] <;> first | rfl | (congr 1; omega) | omega), by (simp only [evs, Nat.reduceEqDiff, reduceIte, qn, qd, q0, q1, q2, q6] <;> first | rfl | (congr 1; omega) | omega)⟩
   ·simp only [evs]; exact rb
   ·simp only [evs]; exact h3
   ·simp only [evs]; exact k3
  | some i =>
   have hfnd : quiet.find evEnv a.m 9 (encS s) (encG A.g) = some (some (I i)) := by
    have := find_str (g := fun i => I i) a.m s A.g
    rw [hl] at this; exact this
   (apply g_lookup (f := some (I i)) <;> (first | exact Zc | apply gI | ((repeat' (first | exact Y0 | apply Y1 | exact Y2 | apply Y3 | ((first | apply Y4 | apply Y5); simp only [evs, Nat.reduceEqDiff, reduceIte, qn, qd, q0, q1, q2, q6] <;> rfl))); done) | (apply Hy.mk; (try simp only [evs, qn, qd, q0, q1, q2, q6]); first | exact hgm | exact hfnd | assumption) | (apply Om.mk; first | exact hgm | exact hfnd) | (apply Y6; (try simp only [evs, qn, qd, q0, q1, q2, q6]); first | rfl) | apply Cn.mk))
   (repeat (first | (apply G.h; constructor <;> (first | exact Zc | apply gI | ((repeat' (first | exact Y0 | apply Y1 | ((first | apply Y4 | apply Y5); simp only [evs, Nat.reduceEqDiff, reduceIte, qn, qd, q0, q1, q2, q6] <;> rfl))); done) | (apply Y6; (try simp only [evs, qn, qd, q0, q1, q2, q6]); first | rfl)))))
   refine eret_nil ⟨rfl, ⟨(by refine ⟨?_, ?_, ?_, ?_, ?_, ?_⟩ <;> (simp only [evs, Nat.reduceEqDiff, reduceIte, qn, qd, q0, q1, q2, q6] <;> first | rfl | (congr 1; omega) | omega)), ?_, ?_, ?_⟩, by (simp only [evs, Nat.reduceEqDiff, reduceIte, qn, qd, q0, q1, q2, q6] <;> first | rfl | (congr 1; omega) | omega), by (simp only [evs, Nat.reduceEqDiff, reduceIte, qn, qd, q0, q1, q2, q6] <;> first | rfl | (congr 1; omega) | omega)⟩
   ·simp only [evs]; exact rb
   ·simp only [evs]; exact h3
   ·simp only [evs]; exact k3
 clear h3 k3 rb hw3 hgm qn qd q0 q1 q2 q6
 rintro a ⟨⟨⟨qn, qd, q0, q1, q2, q6⟩, rb, h3, k3⟩, q9, q10⟩
 apply eret_seq
 apply ewp_seq
 refine ewp_cut (GSt X A wb fB dB V m s at_ m.next x (S1.failIf (match look s A.g with | some i => decide (i < at_) | none => false) 80 x.pos)) ?_ ?_
 ·cases hl : look s A.g with
  | none =>
   rw [hl] at q9 q10
   replace q10 : a.tmp 10 = .bool false := q10
   (repeat (first | (apply G.h; constructor <;> (first | exact Zc | apply gI | ((repeat' (first | exact Y0 | apply Y1 | ((first | apply Y4 | apply Y5); simp only [evs, Nat.reduceEqDiff, reduceIte, qn, qd, q0, q1, q2, q6, q9, q10] <;> rfl))); done) | (apply Y6; (try simp only [evs, qn, qd, q0, q1, q2, q6, q9, q10]); first | rfl)))))
   refine eret_nil ⟨rfl, (by refine ⟨?_, ?_, ?_, ?_, ?_, ?_⟩ <;> (simp only [evs, Nat.reduceEqDiff, reduceIte, qn, qd, q0, q1, q2, q6, q9, q10] <;> first | rfl | (congr 1; omega) | omega)), ?_, ?_, ?_⟩
   ·simp only [evs]; exact rb
   ·simp only [evs]; exact h3
   ·simp only [evs]; exact k3
  | some i =>
   rw [hl] at q9 q10
   replace q9 : a.tmp 9 = I i := q9
   replace q10 : a.tmp 10 = .bool true := q10
   simp only
   by_cases hi : i < at_
   ·rw [decide_eq_true hi]
    (repeat (first | (apply G.h; constructor <;> (first | exact Zc | apply gI | ((repeat' (first | exact Y0 | apply Y1 | ((first | apply Y4 | apply Y5); simp only [evs, Nat.reduceEqDiff, reduceIte, qn, qd, q0, q1, q2, q6, q9, q10] <;> rfl))); done) | (apply Y6; (try simp only [evs, qn, qd, q0, q1, q2, q6, q9, q10]); first | exact rb.loadA rfl rfl rfl (Nat.le_refl 5) rfl)))))
    ((first | apply g_run | apply g_run0) <;> (first | ((repeat' (first | exact Y0 | apply Y1 | exact Y2 | apply Y3 | ((first | apply Y4 | apply Y5); simp only [evs, Nat.reduceEqDiff, reduceIte, qn, qd, q0, q1, q2, q6, q9, q10] <;> rfl))); done) | exact Rn.mk (fail90 (e := 80) (x := x) (by simp only [evs]; exact h3)) | apply Cn.mk))
    rintro v m4 ⟨h4, k4⟩
    simp only [evs] at k4
    (repeat (first | (apply G.h; constructor <;> (first | exact Zc | apply gI | ((repeat' (first | exact Y0 | apply Y1 | ((first | apply Y4 | apply Y5); simp only [evs, Nat.reduceEqDiff, reduceIte, qn, qd, q0, q1, q2, q6, q9, q10] <;> rfl))); done) | (apply Y6; (try simp only [evs, qn, qd, q0, q1, q2, q6, q9, q10]); first | rfl)))))
    refine eret_nil ⟨rfl, (by refine ⟨?_, ?_, ?_, ?_, ?_, ?_⟩ <;> (simp only [evs, Nat.reduceEqDiff, reduceIte, qn, qd, q0, q1, q2, q6, q9, q10] <;> first | rfl | (congr 1; omega) | omega)), ?_, ?_, ?_⟩
    ·simp only [evs]; exact rb.stay k4 (.inr (by decide))
    ·simp only [evs]; exact h4
    ·simp only [evs]; exact k3.trans k4
   ·rw [decide_eq_false hi]
    (repeat (first | (apply G.h; constructor <;> (first | exact Zc | apply gI | ((repeat' (first | exact Y0 | apply Y1 | ((first | apply Y4 | apply Y5); simp only [evs, Nat.reduceEqDiff, reduceIte, qn, qd, q0, q1, q2, q6, q9, q10] <;> rfl))); done) | (apply Y6; (try simp only [evs, qn, qd, q0, q1, q2, q6, q9, q10]); first | rfl)))))
    refine eret_nil ⟨rfl, (by refine ⟨?_, ?_, ?_, ?_, ?_, ?_⟩ <;> (simp only [evs, Nat.reduceEqDiff, reduceIte, qn, qd, q0, q1, q2, q6, q9, q10] <;> first | rfl | (congr 1; omega) | omega)), ?_, ?_, ?_⟩
    ·simp only [evs]; exact rb
    ·simp only [evs]; exact h3
    ·simp only [evs]; exact k3
 clear h3 k3 rb qn qd q0 q1 q2 q6 q9 q10
 generalize hS2 : S1.failIf (match look s A.g with | some i => decide (i < at_) | none => false) 80 x.pos = S2
 rintro a ⟨⟨qn, qd, q0, q1, q2, q6⟩, rb, h3, k3⟩
 obtain ⟨z1, z2, z3, z4, z5, z6, z7⟩ := failIf_rest S (primI s).isSome 8 x.pos
 obtain ⟨y1, y2, y3, y4, y5, y6, y7⟩ := failIf_rest S1 (match look s A.g with | some i => decide (i < at_) | none => false) 80 x.pos
 obtain ⟨ga, gn, gc, ge, gl⟩ := h3.globals.form (by decide)
 have hgn : S.globals.length = gn := by rw [List.length_map, ← hS2, y3, ← hS1, z3] at gl; omega
 have hw3 := h3.w
 rw [ge] at hw3
 apply eret_seq
 apply ewp_seq
 refine ewp_cut (GSt X A wb fB dB V m s at_ m.next x (S2.failIf (decide (gn = 1024)) 3 x.pos)) ?_ ?_
 ·by_cases h1024 : gn = 1024
  ·rw [decide_eq_true h1024]
   (repeat (first | (apply G.h; constructor <;> (first | exact Zc | apply gI | ((repeat' (first | exact Y0 | apply Y1 | ((first | apply Y4 | apply Y5); simp only [evs, Nat.reduceEqDiff, reduceIte, qn, qd, q0, q1, q2, q6] <;> rfl))); done) | (apply Y6; (try simp only [evs, qn, qd, q0, q1, q2, q6]); first | exact rb.loadA rfl rfl rfl (Nat.le_refl 5) rfl | exact hw3.load1 rfl rfl rfl)))))
   ((first | apply g_run | apply g_run0) <;> (first | ((repeat' (first | exact Y0 | apply Y1 | exact Y2 | apply Y3 | ((first | apply Y4 | apply Y5); simp only [evs, Nat.reduceEqDiff, reduceIte, qn, qd, q0, q1, q2, q6] <;> rfl))); done) | exact Rn.mk (fail90 (e := 3) (x := x) (by simp only [evs]; exact h3)) | apply Cn.mk))
   rintro v m4 ⟨h4, k4⟩
   simp only [evs] at k4
   (repeat (first | (apply G.h; constructor <;> (first | exact Zc | apply gI | ((repeat' (first | exact Y0 | apply Y1 | ((first | apply Y4 | apply Y5); simp only [evs, Nat.reduceEqDiff, reduceIte, qn, qd, q0, q1, q2, q6] <;> rfl))); done) | (apply Y6; (try simp only [evs, qn, qd, q0, q1, q2, q6]); first | rfl)))))
   refine eret_nil ⟨rfl, (by refine ⟨?_, ?_, ?_, ?_, ?_, ?_⟩ <;> (simp only [evs, Nat.reduceEqDiff, reduceIte, qn, qd, q0, q1, q2, q6] <;> first | rfl | (congr 1; omega) | omega)), ?_, ?_, ?_⟩
   ·simp only [evs]; exact rb.stay k4 (.inr (by decide))
   ·simp only [evs]; exact h4
   ·simp only [evs]; exact k3.trans k4
  ·rw [decide_eq_false h1024]
   (repeat (first | (apply G.h; constructor <;> (first | exact Zc | apply gI | ((repeat' (first | exact Y0 | apply Y1 | ((first | apply Y4 | apply Y5); simp only [evs, Nat.reduceEqDiff, reduceIte, qn, qd, q0, q1, q2, q6] <;> rfl))); done) | (apply Y6; (try simp only [evs, qn, qd, q0, q1, q2, q6]); first | exact hw3.load1 rfl rfl rfl)))))
   refine eret_nil ⟨rfl, (by refine ⟨?_, ?_, ?_, ?_, ?_, ?_⟩ <;> (simp only [evs, Nat.reduceEqDiff, reduceIte, qn, qd, q0, q1, q2, q6] <;> first | rfl | (congr 1; omega) | omega)), ?_, ?_, ?_⟩
   ·simp only [evs]; exact rb
   ·simp only [evs]; exact h3
   ·simp only [evs]; exact k3
 clear h3 k3 rb hw3 qn qd q0 q1 q2 q6
 generalize hS3 : S2.failIf (decide (gn = 1024)) 3 x.pos = S3
 obtain ⟨x1, x2, x3, x4, x5, x6, x7⟩ := failIf_rest S2 (decide (gn = 1024)) 3 x.pos
 rintro a ⟨⟨qn, qd, q0, q1, q2, q6⟩, rb, h3, k3⟩
 have w2 : S3.uses = S.uses := by rw [← hS3, x2, ← hS2, y2, ← hS1, z2]
 have w3 : S3.globals = S.globals := by rw [← hS3, x3, ← hS2, y3, ← hS1, z3]
 have hul3 : (encPs S3.uses).length = A.l.length * 2 := by rw [encPs_len, w2, hul]
 obtain ⟨ub, ucap, ur, un, u1, u2, u3, u4, u5, u6, -⟩ := h3.uses.at (i := at_ * 2) (by omega)
 have hun : un = A.l.length := by
  have := congrArg List.length u6
  have h9 : un * 2 ≤ ucap * 2 := Nat.mul_le_mul_right _ u5
  rw [hul3, List.length_take] at this
  omega
 have hur : 0 + at_ * 2 + 2 ≤ ur.length := by have h9 : un * 2 ≤ ucap * 2 := Nat.mul_le_mul_right _ u5; omega
 have hw4 := h3.w
 have g3 := h3.globals
 rw [ge, u1] at hw4
 rw [ge, w3] at g3
 (repeat (first | (apply G.h; constructor <;> (first | exact Zc | apply gI | ((repeat' (first | exact Y0 | apply Y1 | ((first | apply Y4 | apply Y5); simp only [evs, Nat.reduceEqDiff, reduceIte, qn, qd, q0, q1, q2, q6] <;> rfl))); done) | (apply Y6; (try simp only [evs, qn, qd, q0, q1, q2, q6]); first | exact hw4.load1 rfl rfl rfl)))))
 (apply g_stR <;> (first | exact Zc | apply gI | ((repeat' (first | exact Y0 | apply Y1 | exact Y2 | apply Y3 | ((first | apply Y4 | apply Y5); simp only [evs, Nat.reduceEqDiff, reduceIte, qn, qd, q0, q1, q2, q6] <;> rfl))); done) | (apply Hy.mk; (try simp only [evs, qn, qd, q0, q1, q2, q6]); first | exact u3 | exact hur | assumption) | (apply Om.mk; first | exact u3 | exact hur) | (apply Y6; (try simp only [evs, qn, qd, q0, q1, q2, q6]); first | rfl) | apply Cn.mk))
 intro m5 r5 o5 n5; simp only [evs, qn, qd, q0, q1, q2, q6] at r5 o5 n5
 have k5 : Keep X [57] a.m m5 := Keep.row u3 u2 (by decide) o5 n5
 have hw5 := hw4.stay k5 (.inr (by decide))
 (repeat (first | (apply G.h; constructor <;> (first | exact Zc | apply gI | ((repeat' (first | exact Y0 | apply Y1 | ((first | apply Y4 | apply Y5); simp only [evs, Nat.reduceEqDiff, reduceIte, qn, qd, q0, q1, q2, q6] <;> rfl))); done) | (apply Y6; (try simp only [evs, qn, qd, q0, q1, q2, q6]); first | exact hw5.load1 rfl rfl rfl)))))
 have s5 := (g3.stay k5 (by decide)).grow ((Grow.refl m5).new (rowObj [encS s] 9 0))
 have hx5 : ∀ c, X c → c < (m5.new (rowObj [encS s] 9 0)).next := fun c hc => Nat.lt_succ_of_lt (Nat.lt_of_lt_of_le (h3.hX c hc) k5.1)
 have hin : effect.cellsIn (m5.new (rowObj [encS s] 9 0)) 1 (.slice (some ⟨m5.next, 0, none⟩) 1 1) = some (1, [encS s]) := cellsIn_row (kc := 1) (new := [encS s]) (row_new m5 [encS s] 9 0) (Nat.le_refl 1) rfl
 have hgl2 : (S.globals.map encS).length ≤ 100000 := by simpa using hgl
 (apply g_app <;> (first | exact Zc | apply gI | ((repeat' (first | exact Y0 | apply Y1 | exact Y2 | apply Y3 | ((first | apply Y4 | apply Y5); simp only [evs, Nat.reduceEqDiff, reduceIte, qn, qd, q0, q1, q2, q6] <;> rfl))); done) | (apply Hy.mk; (try simp only [evs, qn, qd, q0, q1, q2, q6]); first | exact hin | exact s5 | exact hx5 | assumption) | (apply Om.mk; first | exact hin | exact s5 | exact hx5) | (apply Y6; (try simp only [evs, qn, qd, q0, q1, q2, q6]); first | rfl) | apply Cn.mk))
 intro v' m6 s6 k6 o6 b6 f6
 obtain ⟨c6, j6, p6, rfl, hc6⟩ := f6
 simp only [evs, qn, qd, q0, q1, q2, q6] at k6 o6 b6
 replace k6 : Keep X [9] (m5.new (rowObj [encS s] 9 0)) m6 := k6
 have hw6 := (hw5.keep_new (rowObj [encS s] 9 0)).stay k6 (.inr (by decide))
 (repeat (first | (apply G.h; constructor <;> (first | exact Zc | apply gI | ((repeat' (first | exact Y0 | apply Y1 | ((first | apply Y4 | apply Y5); simp only [evs, Nat.reduceEqDiff, reduceIte, qn, qd, q0, q1, q2, q6] <;> rfl))); done) | (apply Y6; (try simp only [evs, qn, qd, q0, q1, q2, q6]); first | rfl)))))
 (apply g_stR <;> (first | exact Zc | apply gI | ((repeat' (first | exact Y0 | apply Y1 | exact Y2 | apply Y3 | ((first | apply Y4 | apply Y5); simp only [evs, Nat.reduceEqDiff, reduceIte, qn, qd, q0, q1, q2, q6] <;> rfl))); done) | (apply Hy.mk; (try simp only [evs, qn, qd, q0, q1, q2, q6]); first | exact hw6 | assumption) | (apply Om.mk; first | exact hw6) | (apply Y6; (try simp only [evs, qn, qd, q0, q1, q2, q6]); first | rfl) | apply Cn.mk))
 intro m7 r7 o7 n7; simp only [evs, qn, qd, q0, q1, q2, q6] at r7 o7 n7
 (repeat (first | (apply G.h; constructor <;> (first | exact Zc | apply gI | ((repeat' (first | exact Y0 | apply Y1 | ((first | apply Y4 | apply Y5); simp only [evs, Nat.reduceEqDiff, reduceIte, qn, qd, q0, q1, q2, q6] <;> rfl))); done) | (apply Y6; (try simp only [evs, qn, qd, q0, q1, q2, q6]); first | rfl)))))
 (refine g_finN (by first | exact Rs.nil | skip) (by (simp only [evs, Nat.reduceEqDiff, reduceIte, qn, qd, q0, q1, q2, q6] <;> first | rfl | (congr 1; omega) | omega)) ?_)
 simp only [evs]
 have k7 : Keep X [83] m6 m7 := Keep.row hw6 h3.xw (by decide) o7 n7
 have kall : Keep X [83, 57, 9] a.m m7 := (((k5.mono (by decide)).trans (Keep.new _)).trans (k6.mono (by decide))).trans (k7.mono (by decide))
 have hD : S.global A.g s at_ x.pos = { S3 with uses := S3.uses.set at_ (4, S.globals.length), globals := S3.globals ++ [s] } := by
  rw [← hS3, ← hS2, ← hS1, ← hgn]; rfl
 rw [hD]
 refine ⟨.slice (some ⟨c6, 0, none⟩) j6 p6, ?_, (k3.mono (by decide)).trans kall⟩
 refine h3.turn kall ?_ (h3.funs.stay kall (by decide)) (h3.caps.stay kall (by decide)) ?_ ?_ rfl ((kall.2 _ _ h3.gmap.1 h3.gmap.2 (.inr (show mapTag ∉ [83, 57, 9] by decide))).trans h3.gmap.2.symm) (h3.frames.stay kall (by decide)) (h3.means.stay kall (by decide)) (h3.decls.stay kall (by decide)) (h3.frs.stay kall (by decide) kall.1)
 ·rw [u1]
  exact r7
 ·have q := h3.uses
  rw [u1] at q
  have z : Row m5 ub (put ur (0 + at_ * 2) (encP (4, gn))) 57 0 := r5
  rw [show 0 + at_ * 2 = at_ * 2 by omega] at z
  have q2 := (((q.put u3 z).grow ((Grow.refl m5).new (rowObj [encS s] 9 0))).stay k6 (by decide)).stay k7 (by decide)
  rw [encPs_put _ _ _ (by rw [w2, hul]; exact hat), ← u1] at q2
  rw [hgn]
  exact q2
 ·have := s6.stay k7 (by decide)
  rw [w3, List.map_append]
  exact this
end
end Go.Proofs.YtihokakelnfdgaaDoor

namespace Go.Proofs.YtihokakelnfdgaaDoor
set_option linter.unusedSimpArgs false
open Go Go.Ev
set_option linter.unusedVariables false
section
variable {X : Nat → Prop} {m : Mem} {dB : List Nat}
/-- the frame at a depth. -/
theorem FrsR.nth {lo : Nat} : ∀ {hi : Nat} {bs : List Nat} {fs : List Fr} (k : Nat), FrsR X m dB lo hi bs fs → k < fs.length → ∃ b f mid top, bs[k]? = some b ∧ fs[k]? = some f ∧ ∃ sv sb cb, FrR X m dB mid top b f sv sb cb
 | hi, [], [], k, _, hk => by simp at hk
 | hi, b :: bs, f :: fs, 0, ⟨mid, sv, sb, cb, h1, h2⟩, _ => ⟨b, f, mid, hi, rfl, rfl, sv, sb, cb, h1⟩
 | hi, b :: bs, f :: fs, k + 1, ⟨mid, sv, sb, cb, h1, h2⟩, hk => by
  obtain ⟨b', f', mid', top, e1, e2, e3⟩ := h2.nth k (by simpa using hk)
  exact ⟨b', f', mid', top, by simpa using e1, by simpa using e2, e3⟩
theorem FrsR.len {lo : Nat} : ∀ {hi : Nat} {bs : List Nat} {fs : List Fr}, FrsR X m dB lo hi bs fs → bs.length = fs.length
 | hi, [], [], _ => rfl
 | hi, b :: bs, f :: fs, ⟨mid, sv, sb, cb, h1, h2⟩ => by simp [h2.len]
theorem ScsR.nth {lo hi : Nat} : ∀ {bs : List Nat} {scs : List (List (Bs × Nat))} (k : Nat), ScsR X m dB lo hi bs scs → k < scs.length → ∃ b sc, bs[k]? = some b ∧ scs[k]? = some sc ∧ Mp m b (encE dB sc)
 | [], [], k, _, hk => by simp at hk
 | b :: bs, sc :: scs, 0, ⟨⟨_, _, _, h4⟩, _⟩, _ => ⟨b, sc, rfl, rfl, h4⟩
 | b :: bs, sc :: scs, k + 1, ⟨_, h⟩, hk => by
  obtain ⟨b', sc', e1, e2, e3⟩ := h.nth k (by simpa using hk)
  exact ⟨b', sc', by simpa using e1, by simpa using e2, e3⟩
theorem rev_get {α : Type} (l : List α) (k : Nat) (h : k < l.length) : l.reverse[l.length - 1 - k]? = l[k]? := by
 rw [List.getElem?_reverse (by omega)]
 congr 1; omega
theorem findFr_drop (s : Bs) : ∀ (fs : List Fr) (k : Nat), k ≤ fs.length → (∀ i f, i < k → fs[i]? = some f → findSc s f.scopes = none) → findFr s fs = (findFr s (fs.drop k)).map fun q => (q.1, q.2 + k)
 | fs, 0, _, _ => by
  rw [List.drop_zero]
  cases findFr s fs <;> rfl
 | [], k + 1, h, _ => by simp at h
 | f :: fs, k + 1, h, hn => by
  have h0 := hn 0 f (by omega) rfl
  rw [List.drop_succ_cons, findFr, h0, findFr_drop s fs k (by simpa using h) (fun i g hi hg => hn (i + 1) g (by omega) (by simpa using hg))]
  cases findFr s (fs.drop k) with
  | none => rfl
  | some q => simp only [Option.map_some]; rfl
end
end Go.Proofs.YtihokakelnfdgaaDoor
