/- Part of a verified evaluator of the model's programs and of runs by it: SQH. -/
import Derived.Test.YtihokakelnfdgaaDoorSK
namespace Go.Proofs.YtihokakelnfdgaaDoor
open Go Go.Ev
set_option maxRecDepth 100000
set_option linter.unusedVariables false
set_option linter.unusedSimpArgs false
set_option pp.maxSteps 1500
attribute [local irreducible] quiet allocs effect wp ret wpO Runs Act.tmp Act.eval fin results Tree.set binOp loadAt storeAt target wanted cellsFrom

section
variable {A : Args} {wb : Nat}

/-- where a node's kind is asked. -/
def KSt (X : Nat → Prop) (A : Args) (wb : Nat) (fB dB : List Nat) (V : Vs) (m0 : Mem) (p nk b0 : Nat) (x : Nd) (S : MS) (a : Ev.Act) : Prop :=
 (a.n = 144 ∧ a.defers = [] ∧ a.tmp 0 = ptr wb ∧ a.tmp 2 = I p ∧ a.tmp 3 = ptr nk ∧ a.tmp 4 = ptr b0 ∧ a.tmp 52 = I x.kind) ∧ Row a.m nk x.val 43 0 ∧ Rep X A a.m wb S fB dB V ∧ Keep X [83] m0 a.m

set_option maxHeartbeats 4000000 in
theorem node59 (P : Prog A) : ∀ f, NodeC A wb f
 | 0, X, S, m, fB, dB, V, b, k, h, J, hz, hb, hD, hk => by have := (D_le _ _ _ hD).1; omega
 | f + 1, X, S, m, fB, dB, V, b, k, h, J, hz, hb, hD, hk => by
  have hN := node59 P f
  have hle := D_le _ _ _ hD
  rw [List.length_drop] at hle
  have hlt : S.pc < A.l.length := by omega
  have hple := P.le
  have hw := h.w
  rw [nodeM]
  refine runs_start rfl rfl rfl rfl ?_
  by_cases he : S.e ≠ 0
  ·rw [if_pos he]
   have hwd : width A.l S.pc = k := by unfold width; rw [hD]; rfl
   have hbeh := behind58 m A.nb A.off A.cap P.prg h.nodes (by omega) S.pc hlt
   (repeat (first | apply wpN_cons | apply g_next | (apply G.h; constructor <;> (first | exact Zc | apply gI | ((repeat' (first | exact Y0 | apply Y1 | ((first | apply Y4 | apply Y5); simp only [evs, Nat.reduceEqDiff, reduceIte] <;> rfl))); done) | (apply Y6; (try simp only [evs]); first | exact hw.load1 rfl rfl rfl)))))
   (apply g_regionN [0, 1, 2, 3, 4, 5, 6, 7, 8, 9, 10, 11, 12, 13, 14, 15] [(0, 15), (12, 16)]; (focus exact Kr.mk (by kernel_rfl)); (focus exact Rf.mk))
   (repeat (first | apply wpN_cons | apply g_next | (apply G.h; constructor <;> (first | exact Zc | apply gI | ((repeat' (first | exact Y0 | apply Y1 | ((first | apply Y4 | apply Y5); simp only [evs, Nat.reduceEqDiff, reduceIte] <;> rfl))); done) | (apply Y6; (try simp only [evs]); first | exact hw.load1 rfl rfl rfl)))))
   ((first | apply g_run | apply g_run0) <;> (first | ((repeat' (first | exact Y0 | apply Y1 | exact Y2 | apply Y3 | ((first | apply Y4 | apply Y5); simp only [evs, Nat.reduceEqDiff, reduceIte] <;> rfl))); done) | exact Rn.mk ((by simp only [evs]; exact hbeh)) | apply Cn.mk))
   rintro v m1 ⟨rfl, rfl⟩
   (repeat (first | apply wpN_cons | apply g_next | (apply G.h; constructor <;> (first | exact Zc | apply gI | ((repeat' (first | exact Y0 | apply Y1 | ((first | apply Y4 | apply Y5); simp only [evs, Nat.reduceEqDiff, reduceIte] <;> rfl))); done) | (apply Y6; (try simp only [evs]); first | rfl)))))
   (apply g_stR <;> (first | exact Zc | apply gI | ((repeat' (first | exact Y0 | apply Y1 | exact Y2 | apply Y3 | ((first | apply Y4 | apply Y5); simp only [evs, Nat.reduceEqDiff, reduceIte] <;> rfl))); done) | (apply Hy.mk; (try simp only [evs]); first | exact hw | assumption) | (apply Om.mk; first | exact hw) | (apply Y6; (try simp only [evs]); first | rfl) | apply Cn.mk))
   intro m2 r2 o2 n2; simp only [evs] at r2 o2 n2
   (repeat (first | apply wpN_cons | apply g_next | (apply G.h; constructor <;> (first | exact Zc | apply gI | ((repeat' (first | exact Y0 | apply Y1 | ((first | apply Y4 | apply Y5); simp only [evs, Nat.reduceEqDiff, reduceIte] <;> rfl))); done) | (apply Y6; (try simp only [evs]); first | rfl)))))
   refine g_last (.mk ⟨.mk ?_, .mk ?_, trivial⟩) ?_
   ·(apply again_of; exact Rf.mk; exact Rf.mk; (apply Ev.mk; (simp only [evs, Nat.reduceEqDiff, reduceIte] <;> rfl)); exact Rf.mk; (repeat (first | apply wpN_cons | apply g_next | (apply G.h; constructor <;> (first | exact Zc | apply gI | ((repeat' (first | exact Y0 | apply Y1 | ((first | apply Y4 | apply Y5); simp only [evs, Nat.reduceEqDiff, reduceIte] <;> rfl))); done) | (apply Y6; (try simp only [evs]); first | rfl))))); refine eret_nil ?_; (simp only [evs, Nat.reduceEqDiff, reduceIte] <;> rfl))
   ·(apply again_of; exact Rf.mk; exact Rf.mk; (apply Ev.mk; (simp only [evs, Nat.reduceEqDiff, reduceIte] <;> rfl)); exact Rf.mk; (repeat (first | apply wpN_cons | apply g_next | (apply G.h; constructor <;> (first | exact Zc | apply gI | ((repeat' (first | exact Y0 | apply Y1 | ((first | apply Y4 | apply Y5); simp only [evs, Nat.reduceEqDiff, reduceIte] <;> rfl))); done) | (apply Y6; (try simp only [evs]); first | rfl))))); refine eret_nil ?_; (simp only [evs, Nat.reduceEqDiff, reduceIte] <;> rfl))
   (repeat (first | apply wpN_cons | apply g_next | (apply G.h; constructor <;> (first | exact Zc | apply gI | ((repeat' (first | exact Y0 | apply Y1 | ((first | apply Y4 | apply Y5); simp only [evs, Nat.reduceEqDiff, reduceIte] <;> rfl))); done) | (apply Y6; (try simp only [evs]); first | rfl)))))
   (refine g_fin (by repeat' first | exact Rs.nil | apply Rs.cons | (apply Y4; simp only [evs, Nat.reduceEqDiff, reduceIte] <;> rfl)) (by (simp only [evs, Nat.reduceEqDiff, reduceIte] <;> first | rfl | (congr 1; omega) | omega)) ?_)
   simp only [evs]
   exact Done.of (h.wrote (S' := { S with pc := S.pc + width A.l S.pc }) o2 n2 r2 rfl rfl rfl rfl rfl rfl) (Keep.row hw h.xw (by decide) o2 n2 : Keep X [83] m1 m2) (by simp)
  ·rw [if_neg he, List.getElem?_eq_getElem hlt]
   simp only
   have he0 : S.e = 0 := by omega
   obtain ⟨b0, bs, fr, fs, hfB, hfr⟩ := h.head J.ne
   have hfl := h.frs.len
   have hJ1 := J.nfr
   have hf0 := J.fr fr (by rw [hfr]; exact List.mem_cons_self)
   obtain ⟨d1, d2, d3⟩ := D_kids hlt hD
   have hx := h.nodes.all S.pc hlt
   have hok := P.prg.ok _ (List.getElem_mem hlt)
   have J0 := J.go (p := S.pc + 1) (Nat.le_succ _) hlt
   have hxr := row_new m zeroNode 43 0
   (repeat (first | apply wpN_cons | apply g_next | (apply G.h; constructor <;> (first | exact Zc | apply gI | ((repeat' (first | exact Y0 | apply Y1 | ((first | apply Y4 | apply Y5); simp only [evs, Nat.reduceEqDiff, reduceIte] <;> rfl))); done) | (apply Y6; (try simp only [evs]); first | exact hw.load1 rfl rfl rfl | exact hx)))))
   (apply g_stR <;> (first | exact Zc | apply gI | ((repeat' (first | exact Y0 | apply Y1 | exact Y2 | apply Y3 | ((first | apply Y4 | apply Y5); simp only [evs, Nat.reduceEqDiff, reduceIte] <;> rfl))); done) | (apply Hy.mk; (try simp only [evs]); first | exact hxr | assumption) | (apply Om.mk; first | exact hxr) | (apply Y6; (try simp only [evs]); first | rfl) | apply Cn.mk))
   intro m2 r2 o2 n2; simp only [evs] at r2 o2 n2
   have gr2 : Grow m m2 := ((Grow.refl m).new _).wrote (Nat.le_refl _) o2 n2
   have h2 := h.grow gr2
   have hw2 := h2.w
   (repeat (first | apply wpN_cons | apply g_next | (apply G.h; constructor <;> (first | exact Zc | apply gI | ((repeat' (first | exact Y0 | apply Y1 | ((first | apply Y4 | apply Y5); simp only [evs, Nat.reduceEqDiff, reduceIte] <;> rfl))); done) | (apply Y6; (try simp only [evs]); first | rfl)))))
   ((first | apply g_run | apply g_run0) <;> (first | ((repeat' (first | exact Y0 | apply Y1 | exact Y2 | apply Y3 | ((first | apply Y4 | apply Y5); simp only [evs, Nat.reduceEqDiff, reduceIte] <;> rfl))); done) | exact Rn.mk (top74 (by simp only [evs]; exact h2) hfB (by omega)) | apply Cn.mk))
   rintro v m3 ⟨rfl, rfl⟩
   by_cases h19 : A.l[S.pc].kind = 19
   ·rw [if_pos h19]
    (repeat (first | apply wpN_cons | apply g_next | (apply G.h; constructor <;> (first | exact Zc | apply gI | ((repeat' (first | exact Y0 | apply Y1 | ((first | apply Y4 | apply Y5); simp only [evs, Nat.reduceEqDiff, reduceIte] <;> rfl))); done) | (apply Y6; (try simp only [evs]); first | exact r2.load1 rfl rfl rfl)))))
    ((first | apply g_run | apply g_run0) <;> (first | ((repeat' (first | exact Y0 | apply Y1 | exact Y2 | apply Y3 | ((first | apply Y4 | apply Y5); simp only [evs, Nat.reduceEqDiff, reduceIte] <;> rfl))); done) | exact Rn.mk (name75 (by simp only [evs]; exact h2) J P (by omega) hlt false) | apply Cn.mk))
    rintro v m4 ⟨cvs, h4, k4⟩
    try simp only [evs] at k4
    (repeat (first | apply wpN_cons | apply g_next | (apply G.h; constructor <;> (first | exact Zc | apply gI | ((repeat' (first | exact Y0 | apply Y1 | ((first | apply Y4 | apply Y5); simp only [evs, Nat.reduceEqDiff, reduceIte] <;> rfl))); done) | (apply Y6; (try simp only [evs]); first | rfl)))))
    (refine g_fin (by repeat' first | exact Rs.nil | apply Rs.cons | (apply Y4; simp only [evs, Nat.reduceEqDiff, reduceIte] <;> rfl)) (by (simp only [evs, Nat.reduceEqDiff, reduceIte] <;> first | rfl | (congr 1; omega) | omega)) ?_)
    simp only [evs]
    exact Done.of h4 ((Keep.grow gr2).trans k4) (by simp)
   ·rw [if_neg h19]
    (repeat (first | apply wpN_cons | apply g_next | (apply G.h; constructor <;> (first | exact Zc | apply gI | ((repeat' (first | exact Y0 | apply Y1 | ((first | apply Y4 | apply Y5); simp only [evs, Nat.reduceEqDiff, reduceIte] <;> rfl))); done) | (apply Y6; (try simp only [evs]); first | exact r2.load1 rfl rfl rfl | exact hw2.load1 rfl rfl rfl)))))
    (apply g_stR <;> (first | exact Zc | apply gI | ((repeat' (first | exact Y0 | apply Y1 | exact Y2 | apply Y3 | ((first | apply Y4 | apply Y5); simp only [evs, Nat.reduceEqDiff, reduceIte] <;> rfl))); done) | (apply Hy.mk; (try simp only [evs]); first | exact hw2 | assumption) | (apply Om.mk; first | exact hw2) | (apply Y6; (try simp only [evs]); first | rfl) | apply Cn.mk))
    intro m4 r4 o4 n4; simp only [evs] at r4 o4 n4
    have h4 : Rep X A m4 wb { S with pc := S.pc + 1 } fB dB V := h2.wrote o4 n4 r4 rfl rfl rfl rfl rfl rfl
    have k24 : Keep X [83] m2 m4 := Keep.row hw2 h2.xw (by decide) o4 n4
    have rx4 := r2.stay k24 (.inr (by decide))
    have hnum : 0 ≤ A.l[S.pc].n := P.prg.pos _ (List.getElem_mem hlt)
    generalize hp : S.pc = p at hlt hx hok d1 d2 d3 J0 hxr h19 h4 rx4 r2 hnum
    generalize hS0 : ({ S with pc := p + 1 } : MS) = S0 at h4 J0
    have hS0p : S0.pc = p + 1 := by rw [← hS0]
    have hS0f : S0.frames = fr :: fs := by rw [← hS0]; exact hfr
    have hz0 : NZ (frK S0) := by rw [← hS0]; exact hz
    have hS0l : S0.frames.length + 1 ≤ S0.pc := by rw [hS0p, ← hS0]; simp only; omega
    have hnI := nodeI P.prg P.le A.g f
    have kk4 : Keep X [83] m m4 := (Keep.grow gr2).trans k24
    have hw4 := h4.w
    have d3' : D (A.l.drop S0.pc) A.l[p].n.toNat = some (k - 1) := by rw [hS0p]; exact d3
    have hb0 : fr.scopes.length ≤ 1300 := by omega
    unfold MS.step
    by_cases h2k : A.l[p].kind = 2
    ·rw [if_pos h2k]
     (repeat (first | apply wpN_cons | apply g_next | (apply G.h; constructor <;> (first | exact Zc | apply gI | ((repeat' (first | exact Y0 | apply Y1 | ((first | apply Y4 | apply Y5); simp only [evs, Nat.reduceEqDiff, reduceIte] <;> rfl))); done) | (apply Y6; (try simp only [evs]); first | exact rx4.load1 rfl rfl rfl)))))
     ((first | apply g_run | apply g_run0) <;> (first | ((repeat' (first | exact Y0 | apply Y1 | exact Y2 | apply Y3 | ((first | apply Y4 | apply Y5); simp only [evs, Nat.reduceEqDiff, reduceIte] <;> rfl))); done) | exact Rn.mk (enter76 (by simp only [evs]; exact h4) hfB hS0f (by omega) (by omega)) | apply Cn.mk))
     rintro v m5 ⟨kk, rfl, hkk, rkk, h5, k5⟩
     try simp only [evs] at k5 hkk
     have rx5 := rx4.stay k5 (.inr (by decide))
     have hzE : NZ (frK S0.enter) := by rw [frK_enter]; exact nz_bump hz0
     have hn := kids29 (k := k - 1) P hN A.l[p].n.toNat h5 J0.enter hzE (by omega) d3' (by omega)
     rw [show ((A.l[p].n.toNat : Nat) : Int) = A.l[p].n by omega] at hn
     obtain ⟨ti1, ti2, ti3⟩ := times_inv hnI A.l[p].n.toNat S0.enter (b + 1) (k - 1) J0.enter d3' (by omega)
     (apply g_defer0 <;> (first | exact Zc | apply gI | ((repeat' (first | exact Y0 | apply Y1 | exact Y2 | apply Y3 | ((first | apply Y4 | apply Y5); simp only [evs, Nat.reduceEqDiff, reduceIte] <;> rfl))); done) | (apply Hy.mk; (try simp only [evs]); first | fail | assumption) | (apply Om.mk; first | fail) | (apply Y6; (try simp only [evs]); first | rfl) | apply Cn.mk))
     (repeat (first | apply wpN_cons | apply g_next | (apply G.h; constructor <;> (first | exact Zc | apply gI | ((repeat' (first | exact Y0 | apply Y1 | ((first | apply Y4 | apply Y5); simp only [evs, Nat.reduceEqDiff, reduceIte] <;> rfl))); done) | (apply Y6; (try simp only [evs]); first | exact rx5.load1 rfl rfl rfl)))))
     ((first | apply g_run | apply g_run0) <;> (first | ((repeat' (first | exact Y0 | apply Y1 | exact Y2 | apply Y3 | ((first | apply Y4 | apply Y5); simp only [evs, Nat.reduceEqDiff, reduceIte] <;> rfl))); done) | exact Rn.mk ((by simp only [evs]; exact hn)) | apply Cn.mk))
     rintro v m6 ⟨dB6, V6, h6, p6, k6⟩
     try simp only [evs] at k6
     have rkk6 := rkk.stay k6 (.inl (.inr rfl))
     obtain ⟨f6, fs6, y1, y2, y3, y4⟩ := head_same ti2.fr (frames_enter hS0f)
     simp only [List.length_cons] at y3
     (repeat (first | apply wpN_cons | apply g_next | (apply G.h; constructor <;> (first | exact Zc | apply gI | ((repeat' (first | exact Y0 | apply Y1 | ((first | apply Y4 | apply Y5); simp only [evs, Nat.reduceEqDiff, reduceIte] <;> rfl))); done) | (apply Y6; (try simp only [evs]); first | rfl)))))
     refine g_finDs (ds := [(94, [ptr kk])]) ?_ ?_
     ·(simp only [evs, Nat.reduceEqDiff, reduceIte] <;> first | rfl | (congr 1; omega) | omega)
     simp only [evs]
     refine RunsD.mono (leave94 h6 hfB y1 (.inr rfl) rkk6 (by omega) (by intro hh; rw [hh, List.length_nil] at y3; omega)).1 ?_
     rintro m7 ⟨h7, k7⟩
     have sub : ∀ b, X b → plus X kk b := fun b hb => .inl hb
     exact ⟨dB6, V6, h7.less h.x0 h.xn, p6, ((kk4.mono (by simp)).trans (k5.mono (by simp))).trans ((k6.sub sub).trans ((k7.sub sub).mono (by simp)))⟩
    rw [if_neg h2k]
    by_cases h3k : A.l[p].kind = 3
    ·rw [if_pos h3k]
     rw [cnt1 hok h3k] at d3'
     have hv := variable77 P hN h4 J0 hz0 hlt (by omega) (k := k - 1) d3' (by omega)
     (repeat (first | apply wpN_cons | apply g_next | (apply G.h; constructor <;> (first | exact Zc | apply gI | ((repeat' (first | exact Y0 | apply Y1 | ((first | apply Y4 | apply Y5); simp only [evs, Nat.reduceEqDiff, reduceIte] <;> rfl))); done) | (apply Y6; (try simp only [evs]); first | exact rx4.load1 rfl rfl rfl | exact rx4.loadA rfl rfl rfl (Nat.le_refl 5) rfl)))))
     ((first | apply g_run | apply g_run0) <;> (first | ((repeat' (first | exact Y0 | apply Y1 | exact Y2 | apply Y3 | ((first | apply Y4 | apply Y5); simp only [evs, Nat.reduceEqDiff, reduceIte] <;> rfl))); done) | exact Rn.mk ((by simp only [evs]; exact hv)) | apply Cn.mk))
     rintro v m5 hd5
     try simp only [evs] at hd5
     (repeat (first | apply wpN_cons | apply g_next | (apply G.h; constructor <;> (first | exact Zc | apply gI | ((repeat' (first | exact Y0 | apply Y1 | ((first | apply Y4 | apply Y5); simp only [evs, Nat.reduceEqDiff, reduceIte] <;> rfl))); done) | (apply Y6; (try simp only [evs]); first | rfl)))))
     (refine g_finN (by first | exact Rs.nil | skip) (by (simp only [evs, Nat.reduceEqDiff, reduceIte] <;> first | rfl | (congr 1; omega) | omega)) ?_)
     simp only [evs]
     exact Done.next kk4 (by simp) (List.prefix_refl _) hd5
    rw [if_neg h3k]
    by_cases h12 : A.l[p].kind = 12
    ·rw [if_pos h12]
     obtain ⟨sa, sn, sc, cb, z1, z2, z3⟩ := h4.looped hfB hS0f
     have htop : isTop S0 = (decide (fr.fn = 0) && decide (sn = 0)) := by
      unfold isTop MS.topFn MS.topScopes
      rw [hS0f, z1]
      simp only
      cases fr.scopes <;> simp
     (repeat (first | apply wpN_cons | apply g_next | (apply G.h; constructor <;> (first | exact Zc | apply gI | ((repeat' (first | exact Y0 | apply Y1 | ((first | apply Y4 | apply Y5); simp only [evs, Nat.reduceEqDiff, reduceIte] <;> rfl))); done) | (apply Y6; (try simp only [evs]); first | exact rx4.load1 rfl rfl rfl | exact z2.load1 rfl rfl rfl)))))
     refine ewpO_cut0 (fun a => (a.n = 144 ∧ a.defers = [] ∧ a.tmp 0 = ptr wb ∧ a.tmp 2 = I p ∧ a.tmp 3 = ptr m.next ∧ a.tmp 4 = ptr b0 ∧ a.tmp 84 = .bool (isTop S0)) ∧ a.m = m4) ?_ ?_
     ·by_cases hfn : fr.fn = 0
      ·by_cases hs0 : sn = 0
       ·rw [decide_eq_true hfn, decide_eq_true hs0] at htop
        (repeat (first | apply wpN_cons | apply g_next | (apply G.h; constructor <;> (first | exact Zc | apply gI | ((repeat' (first | exact Y0 | apply Y1 | ((first | apply Y4 | apply Y5); simp only [evs, Nat.reduceEqDiff, reduceIte, htop] <;> rfl))); done) | (apply Y6; (try simp only [evs, htop]); first | exact z2.load1 rfl rfl rfl)))))
        exact eret_nil ⟨rfl, (by refine ⟨?_, ?_, ?_, ?_, ?_, ?_, ?_⟩ <;> (simp only [evs, Nat.reduceEqDiff, reduceIte, htop] <;> first | rfl | (congr 1; omega) | omega)), by (simp only [evs, Nat.reduceEqDiff, reduceIte] <;> first | rfl | (congr 1; omega) | omega)⟩
       ·rw [decide_eq_true hfn, decide_eq_false hs0] at htop
        (repeat (first | apply wpN_cons | apply g_next | (apply G.h; constructor <;> (first | exact Zc | apply gI | ((repeat' (first | exact Y0 | apply Y1 | ((first | apply Y4 | apply Y5); simp only [evs, Nat.reduceEqDiff, reduceIte, htop] <;> rfl))); done) | (apply Y6; (try simp only [evs, htop]); first | exact z2.load1 rfl rfl rfl)))))
        exact eret_nil ⟨rfl, (by refine ⟨?_, ?_, ?_, ?_, ?_, ?_, ?_⟩ <;> (simp only [evs, Nat.reduceEqDiff, reduceIte, htop] <;> first | rfl | (congr 1; omega) | omega)), by (simp only [evs, Nat.reduceEqDiff, reduceIte] <;> first | rfl | (congr 1; omega) | omega)⟩
      ·rw [decide_eq_false hfn] at htop
       (repeat (first | apply wpN_cons | apply g_next | (apply G.h; constructor <;> (first | exact Zc | apply gI | ((repeat' (first | exact Y0 | apply Y1 | ((first | apply Y4 | apply Y5); simp only [evs, Nat.reduceEqDiff, reduceIte, htop] <;> rfl))); done) | (apply Y6; (try simp only [evs, htop]); first | exact z2.load1 rfl rfl rfl)))))
       exact eret_nil ⟨rfl, (by refine ⟨?_, ?_, ?_, ?_, ?_, ?_, ?_⟩ <;> (simp only [evs, Nat.reduceEqDiff, reduceIte, htop] <;> first | rfl | (congr 1; omega) | omega)), by (simp only [evs, Nat.reduceEqDiff, reduceIte] <;> first | rfl | (congr 1; omega) | omega)⟩
     rintro a ⟨⟨qn, qd, q0, q2, q3, q4, q84⟩, qm⟩
     cases ht : isTop S0 with
     | true =>
      rw [ht] at q84
      rw [if_pos rfl]
      obtain ⟨gi1, gi2, gi3⟩ := J0.global A.g A.l[p].text p A.l[p].pos
      have hgl := global78 h4 J0.uses (by have := J0.globals; omega) A.l[p].text p hlt
      (repeat (first | apply wpN_cons | apply g_next | (apply G.h; constructor <;> (first | exact Zc | apply gI | ((repeat' (first | exact Y0 | apply Y1 | ((first | apply Y4 | apply Y5); simp only [evs, Nat.reduceEqDiff, reduceIte, qn, qd, q0, q2, q3, q4, q84, qm] <;> rfl))); done) | (apply Y6; (try simp only [evs, qn, qd, q0, q2, q3, q4, q84, qm]); first | exact rx4.load1 rfl rfl rfl)))))
      ((first | apply g_run | apply g_run0) <;> (first | ((repeat' (first | exact Y0 | apply Y1 | exact Y2 | apply Y3 | ((first | apply Y4 | apply Y5); simp only [evs, Nat.reduceEqDiff, reduceIte, qn, qd, q0, q2, q3, q4, q84, qm] <;> rfl))); done) | exact Rn.mk ((by simp only [evs, qm]; exact hgl)) | apply Cn.mk))
      rintro v m5 ⟨gv, h5, k5⟩
      try simp only [evs, qm] at k5
      have hlen5 : (MS.global A.g S0 A.l[p].text p A.l[p].pos).frames.length = S0.frames.length := by rw [← frK_len, gi2.fr, frK_len]
      have hv := function80 P hN h5 gi1 (by rw [gi2.fr]; exact hz0) hlt (.inl h12) (by rw [gi3]; exact hS0p) (by rw [hlen5, gi3]; exact hS0l) (by omega) (k := k - 1) d3 (by omega)
      (repeat (first | apply wpN_cons | apply g_next | (apply G.h; constructor <;> (first | exact Zc | apply gI | ((repeat' (first | exact Y0 | apply Y1 | ((first | apply Y4 | apply Y5); simp only [evs, Nat.reduceEqDiff, reduceIte, qn, qd, q0, q2, q3, q4] <;> rfl))); done) | (apply Y6; (try simp only [evs, qn, qd, q0, q2, q3, q4]); first | rfl)))))
      ((first | apply g_run | apply g_run0) <;> (first | ((repeat' (first | exact Y0 | apply Y1 | exact Y2 | apply Y3 | ((first | apply Y4 | apply Y5); simp only [evs, Nat.reduceEqDiff, reduceIte, qn, qd, q0, q2, q3, q4] <;> rfl))); done) | exact Rn.mk ((by simp only [evs]; exact hv)) | apply Cn.mk))
      rintro v m6 hd6
      try simp only [evs] at hd6
      (repeat (first | apply wpN_cons | apply g_next | (apply G.h; constructor <;> (first | exact Zc | apply gI | ((repeat' (first | exact Y0 | apply Y1 | ((first | apply Y4 | apply Y5); simp only [evs, Nat.reduceEqDiff, reduceIte, qn, qd, q0, q2, q3, q4] <;> rfl))); done) | (apply Y6; (try simp only [evs, qn, qd, q0, q2, q3, q4]); first | rfl)))))
      (refine g_finN (by first | exact Rs.nil | skip) (by (simp only [evs, Nat.reduceEqDiff, reduceIte, qn, qd, q0, q2, q3, q4] <;> first | rfl | (congr 1; omega) | omega)) ?_)
      simp only [evs]
      exact Done.next kk4 (by simp) (List.prefix_refl _) (Done.next k5 (by simp) (List.prefix_refl _) hd6)
     | false =>
      rw [ht] at q84
      rw [if_neg (by simp)]
      obtain ⟨sc0, scr, hsc⟩ := scopes_of hS0f hz0 ht
      have hf0' := J0.fr fr (by rw [hS0f]; exact List.mem_cons_self)
      have hdecl := declare79 h4 hfB hS0f hsc (by omega) (by omega) hf0'.1 (by have := slots_bd J0 fr.fn; omega) (by rw [h4.decls.1]; exact J0.refs) J0.means A.l[p].text p hlt
      obtain ⟨di1, di2, di3, di4, di5, di6⟩ := J0.declare A.l[p].text p A.l[p].pos
      have hdB := h4.decls.1
      (repeat (first | apply wpN_cons | apply g_next | (apply G.h; constructor <;> (first | exact Zc | apply gI | ((repeat' (first | exact Y0 | apply Y1 | ((first | apply Y4 | apply Y5); simp only [evs, Nat.reduceEqDiff, reduceIte, qn, qd, q0, q2, q3, q4, q84, qm] <;> rfl))); done) | (apply Y6; (try simp only [evs, qn, qd, q0, q2, q3, q4, q84, qm]); first | exact rx4.load1 rfl rfl rfl)))))
      ((first | apply g_run | apply g_run0) <;> (first | ((repeat' (first | exact Y0 | apply Y1 | exact Y2 | apply Y3 | ((first | apply Y4 | apply Y5); simp only [evs, Nat.reduceEqDiff, reduceIte, qn, qd, q0, q2, q3, q4, q84, qm] <;> rfl))); done) | exact Rn.mk ((by simp only [evs, qm]; exact hdecl)) | apply Cn.mk))
      rintro v m5 ⟨nb, rfl, hnb, h5, k5⟩
      try simp only [evs, qm] at k5
      have hfr5 : (S0.declare A.l[p].text p A.l[p].pos).frames = fr :: fs := by rw [di4, hS0f]
      obtain ⟨c0, cap, r, n, s0, cb5, w1, w2, w3, w4, w5, w6⟩ := h5.bound hfB hfr5 hsc
      have rx5 := rx4.stay k5 (.inr (by decide))
      have w3' : r[0 + (n + 1 - 1) * 1]? = some (.map (some s0)) := by rw [show 0 + (n + 1 - 1) * 1 = n by omega]; exact w3
      have hdp : dptr (dB ++ [nb]) S0.decls.length = ptr nb := by rw [← hdB]; exact dptr_last _ _
      have hupd := upd_str (g := dptr (dB ++ [nb])) m5 A.l[p].text S0.decls.length sc0
      rw [hdp] at hupd
      (repeat (first | apply wpN_cons | apply g_next | (apply G.h; constructor <;> (first | exact Zc | apply gI | ((repeat' (first | exact Y0 | apply Y1 | ((first | apply Y4 | apply Y5); simp only [evs, Nat.reduceEqDiff, reduceIte, qn, qd, q0, q2, q3, q4] <;> rfl))); done) | (apply Y6; (try simp only [evs, qn, qd, q0, q2, q3, q4]); first | exact w1.load1 rfl rfl rfl | exact w2.load1 rfl rfl w3' | exact rx5.load1 rfl rfl rfl)))))
      (apply g_update <;> (first | exact Zc | apply gI | ((repeat' (first | exact Y0 | apply Y1 | exact Y2 | apply Y3 | ((first | apply Y4 | apply Y5); simp only [evs, Nat.reduceEqDiff, reduceIte, qn, qd, q0, q2, q3, q4] <;> rfl))); done) | (apply Hy.mk; (try simp only [evs, qn, qd, q0, q2, q3, q4]); first | exact w5 | exact hupd | assumption) | (apply Om.mk; first | exact w5 | exact hupd) | (apply Y6; (try simp only [evs, qn, qd, q0, q2, q3, q4]); first | rfl) | apply Cn.mk))
      intro m6 mp6 o6 n6
      simp only [evs] at o6 n6
      obtain ⟨h6, k6⟩ := w6 m6 A.l[p].text S0.decls.length mp6 o6 n6
      obtain ⟨bi1, bi2, bi3⟩ := di1.bind A.l[p].text (d := S0.decls.length) di5 (by rw [di6]; exact (topFn_frK di2.fr).1.symm)
      have hsh := di2.trans bi2
      have hlen6 : ((S0.declare A.l[p].text p A.l[p].pos).bind A.l[p].text S0.decls.length).frames.length = S0.frames.length := by rw [← frK_len, hsh.fr, frK_len]
      have hv := function80 P hN h6 bi1 (by rw [hsh.fr]; exact hz0) hlt (.inl h12) (by rw [bi3, di3]; exact hS0p) (by rw [hlen6, bi3, di3]; exact hS0l) (by omega) (k := k - 1) d3 (by omega)
      (repeat (first | apply wpN_cons | apply g_next | (apply G.h; constructor <;> (first | exact Zc | apply gI | ((repeat' (first | exact Y0 | apply Y1 | ((first | apply Y4 | apply Y5); simp only [evs, Nat.reduceEqDiff, reduceIte, qn, qd, q0, q2, q3, q4] <;> rfl))); done) | (apply Y6; (try simp only [evs, qn, qd, q0, q2, q3, q4]); first | rfl)))))
      ((first | apply g_run | apply g_run0) <;> (first | ((repeat' (first | exact Y0 | apply Y1 | exact Y2 | apply Y3 | ((first | apply Y4 | apply Y5); simp only [evs, Nat.reduceEqDiff, reduceIte, qn, qd, q0, q2, q3, q4] <;> rfl))); done) | exact Rn.mk ((by simp only [evs]; exact hv)) | apply Cn.mk))
      rintro v m7 hd7
      try simp only [evs] at hd7
      (repeat (first | apply wpN_cons | apply g_next | (apply G.h; constructor <;> (first | exact Zc | apply gI | ((repeat' (first | exact Y0 | apply Y1 | ((first | apply Y4 | apply Y5); simp only [evs, Nat.reduceEqDiff, reduceIte, qn, qd, q0, q2, q3, q4] <;> rfl))); done) | (apply Y6; (try simp only [evs, qn, qd, q0, q2, q3, q4]); first | rfl)))))
      (refine g_finN (by first | exact Rs.nil | skip) (by (simp only [evs, Nat.reduceEqDiff, reduceIte, qn, qd, q0, q2, q3, q4] <;> first | rfl | (congr 1; omega) | omega)) ?_)
      simp only [evs]
      exact Done.next kk4 (by simp) (List.prefix_refl _) (Done.next (k5.mono (by simp) : Keep X TT m4 m5) (fun t h => h) (prefix_one dB nb) (Done.next k6 (by simp) (List.prefix_refl _) hd7))
    rw [if_neg h12]
    by_cases h31 : A.l[p].kind = 31
    ·rw [if_pos h31]
     have hv := function80 P hN h4 J0 hz0 hlt (.inr h31) hS0p hS0l (by omega) (k := k - 1) d3 (by omega)
     (repeat (first | apply wpN_cons | apply g_next | (apply G.h; constructor <;> (first | exact Zc | apply gI | ((repeat' (first | exact Y0 | apply Y1 | ((first | apply Y4 | apply Y5); simp only [evs, Nat.reduceEqDiff, reduceIte] <;> rfl))); done) | (apply Y6; (try simp only [evs]); first | exact rx4.load1 rfl rfl rfl)))))
     ((first | apply g_run | apply g_run0) <;> (first | ((repeat' (first | exact Y0 | apply Y1 | exact Y2 | apply Y3 | ((first | apply Y4 | apply Y5); simp only [evs, Nat.reduceEqDiff, reduceIte] <;> rfl))); done) | exact Rn.mk ((by simp only [evs]; exact hv)) | apply Cn.mk))
     rintro v m5 hd5
     try simp only [evs] at hd5
     (repeat (first | apply wpN_cons | apply g_next | (apply G.h; constructor <;> (first | exact Zc | apply gI | ((repeat' (first | exact Y0 | apply Y1 | ((first | apply Y4 | apply Y5); simp only [evs, Nat.reduceEqDiff, reduceIte] <;> rfl))); done) | (apply Y6; (try simp only [evs]); first | rfl)))))
     (refine g_finN (by first | exact Rs.nil | skip) (by (simp only [evs, Nat.reduceEqDiff, reduceIte] <;> first | rfl | (congr 1; omega) | omega)) ?_)
     simp only [evs]
     exact Done.next kk4 (by simp) (List.prefix_refl _) hd5
    rw [if_neg h31]
    by_cases h4k : A.l[p].kind = 4
    ·rw [if_pos h4k]
     rw [cnt2 hok (.inl h4k)] at d3'
     have hD2 : D (A.l.drop S0.pc) 2 = some (k - 1) := d3'
     obtain ⟨w1, w2, e1, e2, e3, e4, e5, e6⟩ := D_next hD2
     rw [List.getElem?_eq_getElem e5]
     simp only
     have hkn := h4.nodes.kind S0.pc e5
     by_cases hy : A.l[S0.pc].kind = 19
     ·rw [if_pos hy]
      have hw1 := name_width e5 (P.prg.ok _ (List.getElem_mem e5)) hy
      rw [hw1] at e1; cases e1
      obtain ⟨ni1, ni2, ni3⟩ := J0.name P.le A.g true e5
      (repeat (first | apply wpN_cons | apply g_next | (apply G.h; constructor <;> (first | exact Zc | apply gI | ((repeat' (first | exact Y0 | apply Y1 | ((first | apply Y4 | apply Y5); simp only [evs, Nat.reduceEqDiff, reduceIte] <;> rfl))); done) | (apply Y6; (try simp only [evs]); first | exact rx4.load1 rfl rfl rfl | exact hkn | exact hw4.load1 rfl rfl rfl)))))
      ((first | apply g_run | apply g_run0) <;> (first | ((repeat' (first | exact Y0 | apply Y1 | exact Y2 | apply Y3 | ((first | apply Y4 | apply Y5); simp only [evs, Nat.reduceEqDiff, reduceIte] <;> rfl))); done) | exact Rn.mk (name75 (by simp only [evs]; exact h4) J0 P (by omega) e5 true) | apply Cn.mk))
      rintro v m5 ⟨cvs, h5, k5⟩
      try simp only [evs] at k5
      have hc := kids29 (k := w2) P hN 1 h5 ni1 (by rw [ni2.fr]; exact hz0) (by omega) (by rw [ni3]; exact e2) (by omega)
      (repeat (first | apply wpN_cons | apply g_next | (apply G.h; constructor <;> (first | exact Zc | apply gI | ((repeat' (first | exact Y0 | apply Y1 | ((first | apply Y4 | apply Y5); simp only [evs, Nat.reduceEqDiff, reduceIte] <;> rfl))); done) | (apply Y6; (try simp only [evs]); first | rfl)))))
      ((first | apply g_run | apply g_run0) <;> (first | ((repeat' (first | exact Y0 | apply Y1 | exact Y2 | apply Y3 | ((first | apply Y4 | apply Y5); simp only [evs, Nat.reduceEqDiff, reduceIte] <;> rfl))); done) | exact Rn.mk ((by simp only [evs]; exact hc)) | apply Cn.mk))
      rintro v m6 hd6
      try simp only [evs] at hd6
      (repeat (first | apply wpN_cons | apply g_next | (apply G.h; constructor <;> (first | exact Zc | apply gI | ((repeat' (first | exact Y0 | apply Y1 | ((first | apply Y4 | apply Y5); simp only [evs, Nat.reduceEqDiff, reduceIte] <;> rfl))); done) | (apply Y6; (try simp only [evs]); first | rfl)))))
      (refine g_finN (by first | exact Rs.nil | skip) (by (simp only [evs, Nat.reduceEqDiff, reduceIte] <;> first | rfl | (congr 1; omega) | omega)) ?_)
      simp only [evs]
      exact Done.next kk4 (by simp) (List.prefix_refl _) (Done.next k5 (by simp) (List.prefix_refl _) hd6)
     ·rw [if_neg hy]
      have hc := kids29 (k := k - 1) P hN 2 h4 J0 hz0 (by omega) hD2 (by omega)
      (repeat (first | apply wpN_cons | apply g_next | (apply G.h; constructor <;> (first | exact Zc | apply gI | ((repeat' (first | exact Y0 | apply Y1 | ((first | apply Y4 | apply Y5); simp only [evs, Nat.reduceEqDiff, reduceIte] <;> rfl))); done) | (apply Y6; (try simp only [evs]); first | exact rx4.load1 rfl rfl rfl | exact hkn | exact hw4.load1 rfl rfl rfl)))))
      ((first | apply g_run | apply g_run0) <;> (first | ((repeat' (first | exact Y0 | apply Y1 | exact Y2 | apply Y3 | ((first | apply Y4 | apply Y5); simp only [evs, Nat.reduceEqDiff, reduceIte] <;> rfl))); done) | exact Rn.mk ((by simp only [evs]; exact hc)) | apply Cn.mk))
      rintro v m6 hd6
      try simp only [evs] at hd6
      (repeat (first | apply wpN_cons | apply g_next | (apply G.h; constructor <;> (first | exact Zc | apply gI | ((repeat' (first | exact Y0 | apply Y1 | ((first | apply Y4 | apply Y5); simp only [evs, Nat.reduceEqDiff, reduceIte] <;> rfl))); done) | (apply Y6; (try simp only [evs]); first | rfl)))))
      (refine g_finN (by first | exact Rs.nil | skip) (by (simp only [evs, Nat.reduceEqDiff, reduceIte] <;> first | rfl | (congr 1; omega) | omega)) ?_)
      simp only [evs]
      exact Done.next kk4 (by simp) (List.prefix_refl _) hd6
    rw [if_neg h4k]
    by_cases h11 : A.l[p].kind = 11
    ·rw [if_pos h11]
     rw [cnt2 hok (.inr (.inr h11))] at d3'
     have hv := try81 P hN h4 J0 hz0 hlt (by omega) (k := k - 1) d3' (by omega)
     (repeat (first | apply wpN_cons | apply g_next | (apply G.h; constructor <;> (first | exact Zc | apply gI | ((repeat' (first | exact Y0 | apply Y1 | ((first | apply Y4 | apply Y5); simp only [evs, Nat.reduceEqDiff, reduceIte] <;> rfl))); done) | (apply Y6; (try simp only [evs]); first | exact rx4.load1 rfl rfl rfl | exact rx4.loadA rfl rfl rfl (Nat.le_refl 5) rfl)))))
     ((first | apply g_run | apply g_run0) <;> (first | ((repeat' (first | exact Y0 | apply Y1 | exact Y2 | apply Y3 | ((first | apply Y4 | apply Y5); simp only [evs, Nat.reduceEqDiff, reduceIte] <;> rfl))); done) | exact Rn.mk ((by simp only [evs]; exact hv)) | apply Cn.mk))
     rintro v m5 hd5
     try simp only [evs] at hd5
     (repeat (first | apply wpN_cons | apply g_next | (apply G.h; constructor <;> (first | exact Zc | apply gI | ((repeat' (first | exact Y0 | apply Y1 | ((first | apply Y4 | apply Y5); simp only [evs, Nat.reduceEqDiff, reduceIte] <;> rfl))); done) | (apply Y6; (try simp only [evs]); first | rfl)))))
     (refine g_finN (by first | exact Rs.nil | skip) (by (simp only [evs, Nat.reduceEqDiff, reduceIte] <;> first | rfl | (congr 1; omega) | omega)) ?_)
     simp only [evs]
     exact Done.next kk4 (by simp) (List.prefix_refl _) hd5
    rw [if_neg h11]
    have hv := plain82 P hN A.l[p] h4 J0 hz0 (by omega) hnum (fun h6 => cnt2 hok (.inr (.inl h6))) (k := k - 1) d3' (by omega)
    (repeat (first | apply wpN_cons | apply g_next | (apply G.h; constructor <;> (first | exact Zc | apply gI | ((repeat' (first | exact Y0 | apply Y1 | ((first | apply Y4 | apply Y5); simp only [evs, Nat.reduceEqDiff, reduceIte] <;> rfl))); done) | (apply Y6; (try simp only [evs]); first | exact rx4.load1 rfl rfl rfl | exact rx4.loadA rfl rfl rfl (Nat.le_refl 5) rfl)))))
    ((first | apply g_run | apply g_run0) <;> (first | ((repeat' (first | exact Y0 | apply Y1 | exact Y2 | apply Y3 | ((first | apply Y4 | apply Y5); simp only [evs, Nat.reduceEqDiff, reduceIte] <;> rfl))); done) | exact Rn.mk ((by simp only [evs]; exact hv)) | apply Cn.mk))
    rintro v m5 hd5
    try simp only [evs] at hd5
    (repeat (first | apply wpN_cons | apply g_next | (apply G.h; constructor <;> (first | exact Zc | apply gI | ((repeat' (first | exact Y0 | apply Y1 | ((first | apply Y4 | apply Y5); simp only [evs, Nat.reduceEqDiff, reduceIte] <;> rfl))); done) | (apply Y6; (try simp only [evs]); first | rfl)))))
    (refine g_finN (by first | exact Rs.nil | skip) (by (simp only [evs, Nat.reduceEqDiff, reduceIte] <;> first | rfl | (congr 1; omega) | omega)) ?_)
    simp only [evs]
    exact Done.next kk4 (by simp) (List.prefix_refl _) hd5
end
end Go.Proofs.YtihokakelnfdgaaDoor
