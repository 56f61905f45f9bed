/- Part of a verified evaluator of the model's programs and of runs by it: SQB SU3 SV1. -/
import Derived.Test.YtihokakelnfdgaaDoorSH
namespace Go.Proofs.YtihokakelnfdgaaDoor
open Go Go.Ev
set_option maxRecDepth 100000
set_option linter.unusedVariables false
set_option linter.unusedSimpArgs false
set_option pp.maxSteps 1500
attribute [local irreducible] quiet allocs effect wp ret wpO Runs Act.tmp Act.eval fin results Tree.set binOp loadAt storeAt target wanted cellsFrom

section
variable {X : Nat → Prop} {A : Args} {wb : Nat} {S : MS} {fB dB : List Nat} {V : Vs} {m : Mem}

/-- what Resolve asks of its program, and of the walk. -/
structure Prog (A : Args) : Prop where
 prg : Prg A.l
 pos : 0 < A.l.length
 all : D A.l 1 = some A.l.length
 le : A.l.length ≤ 600
 g : A.g = hoisted A.l
theorem Prog.at_ (P : Prog A) (s : Bs) (at_ : Nat) (h : look s A.g = some at_) : at_ < A.l.length := by
 rw [P.g] at h
 obtain ⟨c, ht, hc⟩ := P.prg.tp P.pos P.all
 have := hoisted_top h
 rw [ht] at this
 have := kidsP_lt P.prg c 1 _ hc at_ this
 have := P.pos
 omega

/-- between the faults of a name. -/
def NSt (X : Nat → Prop) (A : Args) (wb : Nat) (fB dB : List Nat) (V : Vs) (m0 : Mem) (p nk : Nat) (x : Nd) (S : MS) (a : Ev.Act) : Prop :=
 (a.n = 127 ∧ a.defers = [] ∧ a.tmp 0 = ptr wb ∧ a.tmp 4 = I p ∧ a.tmp 5 = ptr nk) ∧ Row a.m nk x.val 43 0 ∧ Rep X A a.m wb S fB dB V ∧ Keep X [83] m0 a.m

theorem name75 (h : Rep X A m wb S fB dB V) {bd : Nat} (J : Inv A.l bd S) (P : Prog A) (hbd : bd ≤ 1300) (hp : S.pc < A.l.length) (set : Bool) :
  Runs evEnv 75 [ptr wb, .bool set] m fun _ m' => ∃ cvs, Rep X A m' wb (MS.name A.l A.g set S) fB dB { V with cvs := cvs } ∧ Keep X [83, 57, 90, 92, 59, 49, mapTag] m m' := by
 have hx := h.nodes.all S.pc hp
 rw [MS.name_find A.g set (List.getElem?_eq_getElem hp)]
 generalize A.l[S.pc] = x at hx ⊢
 have J0 : Inv A.l bd { S with pc := S.pc + 1 } := J.go (Nat.le_succ _) hp
 have hw := h.w
 have hple := P.le
 refine runs_start rfl rfl rfl rfl ?_
 have hb := row_new m zeroNode 43 0
 (repeat (first | apply wpN_cons | apply g_next | (apply G.h; constructor <;> (first | exact Zc | apply gI | ((repeat' (first | exact Y0 | apply Y1 | ((first | apply Y4 | apply Y5); simp only [evs, Nat.reduceEqDiff, reduceIte] <;> rfl))); done) | (apply Y6; (try simp only [evs]); first | exact hx | exact hw.load1 rfl rfl rfl)))))
 (apply g_stR <;> (first | exact Zc | apply gI | ((repeat' (first | exact Y0 | apply Y1 | exact Y2 | apply Y3 | ((first | apply Y4 | apply Y5); simp only [evs, Nat.reduceEqDiff, reduceIte] <;> rfl))); done) | (apply Hy.mk; (try simp only [evs]); first | exact hb | assumption) | (apply Om.mk; first | exact hb) | (apply Y6; (try simp only [evs]); first | rfl) | apply Cn.mk))
 intro m2 r2 o2 n2; simp only [evs] at r2 o2 n2
 have gr2 : Grow m m2 := ((Grow.refl m).new _).wrote (Nat.le_refl _) o2 n2
 have h2 := h.grow gr2
 have hw2 := h2.w
 (repeat (first | apply wpN_cons | apply g_next | (apply G.h; constructor <;> (first | exact Zc | apply gI | ((repeat' (first | exact Y0 | apply Y1 | ((first | apply Y4 | apply Y5); simp only [evs, Nat.reduceEqDiff, reduceIte] <;> rfl))); done) | (apply Y6; (try simp only [evs]); first | exact hw2.load1 rfl rfl rfl)))))
 (apply g_stR <;> (first | exact Zc | apply gI | ((repeat' (first | exact Y0 | apply Y1 | exact Y2 | apply Y3 | ((first | apply Y4 | apply Y5); simp only [evs, Nat.reduceEqDiff, reduceIte] <;> rfl))); done) | (apply Hy.mk; (try simp only [evs]); first | exact hw2 | assumption) | (apply Om.mk; first | exact hw2) | (apply Y6; (try simp only [evs]); first | rfl) | apply Cn.mk))
 intro m3 r3 o3 n3; simp only [evs] at r3 o3 n3
 have h3 : Rep X A m3 wb { S with pc := S.pc + 1 } fB dB V := h2.wrote o3 n3 r3 rfl rfl rfl rfl rfl rfl
 have kk3 : Keep X [83] m2 m3 := Keep.row hw2 h2.xw (by decide) o3 n3
 have k3 : Keep X [83] m m3 := (Keep.grow gr2).trans kk3
 have rn3 := r2.stay kk3 (.inr (by decide))
 (repeat (first | apply wpN_cons | apply g_next | (apply G.h; constructor <;> (first | exact Zc | apply gI | ((repeat' (first | exact Y0 | apply Y1 | ((first | apply Y4 | apply Y5); simp only [evs, Nat.reduceEqDiff, reduceIte] <;> rfl))); done) | (apply Y6; (try simp only [evs]); first | exact rn3.load1 rfl rfl rfl)))))
 ((first | apply g_run | apply g_run0) <;> (first | ((repeat' (first | exact Y0 | apply Y1 | exact Y2 | apply Y3 | ((first | apply Y4 | apply Y5); simp only [evs, Nat.reduceEqDiff, reduceIte] <;> rfl))); done) | exact Rn.mk (prim21 x.text _ (by simp only [evs]; exact h3.names)) | apply Cn.mk))
 rintro v m4 ⟨rfl, rfl⟩
 generalize hS0 : ({ S with pc := S.pc + 1 } : MS) = S0 at h3 J0
 refine ewpO_cut0 (fun a => NSt X A wb fB dB V m S.pc m.next x S0 a ∧ a.tmp 1 = .bool set ∧ a.tmp 7 = .bool (primI x.text).isSome) ?_ ?_
 ·(repeat (first | apply wpN_cons | apply g_next | (apply G.h; constructor <;> (first | exact Zc | apply gI | ((repeat' (first | exact Y0 | apply Y1 | ((first | apply Y4 | apply Y5); simp only [evs, Nat.reduceEqDiff, reduceIte] <;> rfl))); done) | (apply Y6; (try simp only [evs]); first | rfl)))))
  refine eret_nil ⟨rfl, ⟨(by refine ⟨?_, ?_, ?_, ?_, ?_⟩ <;> (simp only [evs, Nat.reduceEqDiff, reduceIte] <;> first | rfl | (congr 1; omega) | omega)), ?_, ?_, ?_⟩, by (simp only [evs, Nat.reduceEqDiff, reduceIte] <;> first | rfl | (congr 1; omega) | omega), by (simp only [evs, Nat.reduceEqDiff, reduceIte] <;> first | rfl | (congr 1; omega) | omega)⟩
  ·simp only [evs]; exact rn3
  ·simp only [evs]; exact h3
  ·simp only [evs]; exact k3
 clear hx hw hb r2 o2 n2 gr2 h2 hw2 r3 o3 n3 h3 kk3 k3 rn3
 rintro a ⟨⟨⟨qn, qd, q0, q4, q5⟩, rn, h4, k4⟩, q1, q7⟩
 apply eret_seq
 refine ewp_cut (NSt X A wb fB dB V m S.pc m.next x (S0.failIf ((primI x.text).isSome && set) 8 x.pos)) ?_ ?_
 ·cases hpb : (primI x.text).isSome <;> cases set <;> rw [hpb] at q7
  iterate 3
   ·(repeat (first | apply wpN_cons | apply g_next | (apply G.h; constructor <;> (first | exact Zc | apply gI | ((repeat' (first | exact Y0 | apply Y1 | ((first | apply Y4 | apply Y5); simp only [evs, Nat.reduceEqDiff, reduceIte, qn, qd, q0, q4, q5, q1, q7] <;> rfl))); done) | (apply Y6; (try simp only [evs, qn, qd, q0, q4, q5, q1, q7]); first | rfl)))))
    refine eret_nil ⟨rfl, (by refine ⟨?_, ?_, ?_, ?_, ?_⟩ <;> (simp only [evs, Nat.reduceEqDiff, reduceIte, qn, qd, q0, q4, q5] <;> first | rfl | (congr 1; omega) | omega)), ?_, ?_, ?_⟩
    ·simp only [evs]; exact rn
    ·simp only [evs]; exact h4
    ·simp only [evs]; exact k4
  ·(repeat (first | apply wpN_cons | apply g_next | (apply G.h; constructor <;> (first | exact Zc | apply gI | ((repeat' (first | exact Y0 | apply Y1 | ((first | apply Y4 | apply Y5); simp only [evs, Nat.reduceEqDiff, reduceIte, qn, qd, q0, q4, q5, q1, q7] <;> rfl))); done) | (apply Y6; (try simp only [evs, qn, qd, q0, q4, q5, q1, q7]); first | exact rn.loadA rfl rfl rfl (Nat.le_refl 5) rfl)))))
   ((first | apply g_run | apply g_run0) <;> (first | ((repeat' (first | exact Y0 | apply Y1 | exact Y2 | apply Y3 | ((first | apply Y4 | apply Y5); simp only [evs, Nat.reduceEqDiff, reduceIte, qn, qd, q0, q4, q5] <;> rfl))); done) | exact Rn.mk (fail90 (e := 8) (x := x) (by simp only [evs]; exact h4)) | apply Cn.mk))
   rintro v m5 ⟨h5, k5⟩
   simp only [evs] at k5
   (repeat (first | apply wpN_cons | apply g_next | (apply G.h; constructor <;> (first | exact Zc | apply gI | ((repeat' (first | exact Y0 | apply Y1 | ((first | apply Y4 | apply Y5); simp only [evs, Nat.reduceEqDiff, reduceIte, qn, qd, q0, q4, q5] <;> rfl))); done) | (apply Y6; (try simp only [evs, qn, qd, q0, q4, q5]); first | rfl)))))
   refine eret_nil ⟨rfl, (by refine ⟨?_, ?_, ?_, ?_, ?_⟩ <;> (simp only [evs, Nat.reduceEqDiff, reduceIte, qn, qd, q0, q4, q5] <;> first | rfl | (congr 1; omega) | omega)), ?_, ?_, ?_⟩
   ·simp only [evs]; exact rn.stay k5 (.inr (by decide))
   ·simp only [evs]; exact h5
   ·simp only [evs]; exact k4.trans k5
 clear rn h4 k4 qn qd q0 q4 q5 q1 q7
 simp only [hS0]
 have J1 := J0.failIf ((primI x.text).isSome && set) 8 x.pos
 generalize hS1 : S0.failIf ((primI x.text).isSome && set) 8 x.pos = S1 at J1
 rintro a ⟨⟨qn, qd, q0, q4, q5⟩, rn, h5, k5⟩
 have hdl := h5.decls.1
 have hfl := h5.frs.len
 have J1f := J1.nfr
 have J1p := J1.pc
 have hw5 := h5.w
 obtain ⟨ub, ucap, ur, u1, u2, u3, u4⟩ := h5.usesAt J1.uses hp
 obtain ⟨mb, mcap, mr, v1, v2, v3, v4⟩ := h5.meansAt J1.means hp
 rw [u1, v1] at hw5
 have hsc : ∀ f ∈ S1.frames, f.scopes.length ≤ 100000 := fun f hf => by have := (J1.fr f hf).2.1; omega
 (repeat (first | apply wpN_cons | apply g_next | (apply G.h; constructor <;> (first | exact Zc | apply gI | ((repeat' (first | exact Y0 | apply Y1 | ((first | apply Y4 | apply Y5); simp only [evs, Nat.reduceEqDiff, reduceIte, qn, qd, q0, q4, q5] <;> rfl))); done) | (apply Y6; (try simp only [evs, qn, qd, q0, q4, q5]); first | exact rn.load1 rfl rfl rfl)))))
 ((first | apply g_run | apply g_run0) <;> (first | ((repeat' (first | exact Y0 | apply Y1 | exact Y2 | apply Y3 | ((first | apply Y4 | apply Y5); simp only [evs, Nat.reduceEqDiff, reduceIte, qn, qd, q0, q4, q5] <;> rfl))); done) | exact Rn.mk (find91 (by simp only [evs]; exact h5) (by omega) (by rw [hdl]; exact J1.refs) hsc x.text) | apply Cn.mk))
 rintro v m6 ⟨hv, rfl⟩
 cases hf : findFr x.text S1.frames with
 | none =>
  rw [hf] at hv
  replace hv : v = .tuple ⟨[.pointer none, I 0]⟩ := hv
  subst hv
  (repeat (first | apply wpN_cons | apply g_next | (apply G.h; constructor <;> (first | exact Zc | apply gI | ((repeat' (first | exact Y0 | apply Y1 | ((first | apply Y4 | apply Y5); simp only [evs, Nat.reduceEqDiff, reduceIte, qn, qd, q0, q4, q5] <;> rfl))); done) | (apply Y6; (try simp only [evs, qn, qd, q0, q4, q5]); first | exact rn.load1 rfl rfl rfl)))))
  ((first | apply g_run | apply g_run0) <;> (first | ((repeat' (first | exact Y0 | apply Y1 | exact Y2 | apply Y3 | ((first | apply Y4 | apply Y5); simp only [evs, Nat.reduceEqDiff, reduceIte, qn, qd, q0, q4, q5] <;> rfl))); done) | exact Rn.mk (globalAt93 (by simp only [evs]; exact h5) P.prg P.pos P.all P.at_ (by omega) x.text) | apply Cn.mk))
  rintro v m7 ⟨hv, rfl⟩
  cases hl : look x.text A.g with
  | some at_ =>
   rw [hl] at hv
   replace hv : v = .tuple ⟨[I (globalNo A.l at_ : Nat), .bool true]⟩ := hv
   subst hv
   (repeat (first | apply wpN_cons | apply g_next | (apply G.h; constructor <;> (first | exact Zc | apply gI | ((repeat' (first | exact Y0 | apply Y1 | ((first | apply Y4 | apply Y5); simp only [evs, Nat.reduceEqDiff, reduceIte, qn, qd, q0, q4, q5] <;> rfl))); done) | (apply Y6; (try simp only [evs, qn, qd, q0, q4, q5]); first | exact hw5.load1 rfl rfl rfl)))))
   (apply g_stR <;> (first | exact Zc | apply gI | ((repeat' (first | exact Y0 | apply Y1 | exact Y2 | apply Y3 | ((first | apply Y4 | apply Y5); simp only [evs, Nat.reduceEqDiff, reduceIte, qn, qd, q0, q4, q5] <;> rfl))); done) | (apply Hy.mk; (try simp only [evs, qn, qd, q0, q4, q5]); first | exact u3 | exact u4 | assumption) | (apply Om.mk; first | exact u3 | exact u4) | (apply Y6; (try simp only [evs, qn, qd, q0, q4, q5]); first | rfl) | apply Cn.mk))
   intro m8 r8 o8 n8; simp only [evs, qn, qd, q0, q4, q5] at r8 o8 n8
   (repeat (first | apply wpN_cons | apply g_next | (apply G.h; constructor <;> (first | exact Zc | apply gI | ((repeat' (first | exact Y0 | apply Y1 | ((first | apply Y4 | apply Y5); simp only [evs, Nat.reduceEqDiff, reduceIte, qn, qd, q0, q4, q5] <;> rfl))); done) | (apply Y6; (try simp only [evs, qn, qd, q0, q4, q5]); first | rfl)))))
   (refine g_fin (by repeat' first | exact Rs.nil | apply Rs.cons | (apply Y4; simp only [evs, Nat.reduceEqDiff, reduceIte, qn, qd, q0, q4, q5] <;> rfl)) (by (simp only [evs, Nat.reduceEqDiff, reduceIte, qn, qd, q0, q4, q5] <;> first | rfl | (congr 1; omega) | omega)) ?_)
   simp only [evs]
   have z : Row m8 ub (put ur (0 + S.pc * 2) (encP (4, globalNo A.l at_))) 57 0 := r8
   rw [Nat.zero_add] at z
   obtain ⟨h8, k8⟩ := h5.setUses (4, globalNo A.l at_) u1 u2 u3 (by rw [J1.uses]; exact hp) z o8 n8
   exact ⟨V.cvs, h8, (k5.mono (by simp)).trans (k8.mono (by simp))⟩
  | none =>
   rw [hl] at hv
   replace hv : v = .tuple ⟨[I 0, .bool false]⟩ := hv
   subst hv
   (repeat (first | apply wpN_cons | apply g_next | (apply G.h; constructor <;> (first | exact Zc | apply gI | ((repeat' (first | exact Y0 | apply Y1 | ((first | apply Y4 | apply Y5); simp only [evs, Nat.reduceEqDiff, reduceIte, qn, qd, q0, q4, q5] <;> rfl))); done) | (apply Y6; (try simp only [evs, qn, qd, q0, q4, q5]); first | exact rn.load1 rfl rfl rfl)))))
   ((first | apply g_run | apply g_run0) <;> (first | ((repeat' (first | exact Y0 | apply Y1 | exact Y2 | apply Y3 | ((first | apply Y4 | apply Y5); simp only [evs, Nat.reduceEqDiff, reduceIte, qn, qd, q0, q4, q5] <;> rfl))); done) | exact Rn.mk (prim21 x.text _ (by simp only [evs]; exact h5.names)) | apply Cn.mk))
   rintro v m7 ⟨hv, rfl⟩
   unfold primV at hv
   cases hpb : primI x.text with
   | none =>
    rw [hpb] at hv
    replace hv : v = .tuple ⟨[I 0, .bool false]⟩ := hv
    subst hv
    (repeat (first | apply wpN_cons | apply g_next | (apply G.h; constructor <;> (first | exact Zc | apply gI | ((repeat' (first | exact Y0 | apply Y1 | ((first | apply Y4 | apply Y5); simp only [evs, Nat.reduceEqDiff, reduceIte, qn, qd, q0, q4, q5] <;> rfl))); done) | (apply Y6; (try simp only [evs, qn, qd, q0, q4, q5]); first | exact rn.loadA rfl rfl rfl (Nat.le_refl 5) rfl)))))
    ((first | apply g_run | apply g_run0) <;> (first | ((repeat' (first | exact Y0 | apply Y1 | exact Y2 | apply Y3 | ((first | apply Y4 | apply Y5); simp only [evs, Nat.reduceEqDiff, reduceIte, qn, qd, q0, q4, q5] <;> rfl))); done) | exact Rn.mk (fail90 (e := 4) (x := x) (by simp only [evs]; exact h5)) | apply Cn.mk))
    rintro v m8 ⟨h8, k8⟩
    simp only [evs] at k8
    have hw8 := h8.w
    rw [u1] at hw8
    have u38 := u3.stay k8 (.inr (by decide))
    (repeat (first | apply wpN_cons | apply g_next | (apply G.h; constructor <;> (first | exact Zc | apply gI | ((repeat' (first | exact Y0 | apply Y1 | ((first | apply Y4 | apply Y5); simp only [evs, Nat.reduceEqDiff, reduceIte, qn, qd, q0, q4, q5] <;> rfl))); done) | (apply Y6; (try simp only [evs, qn, qd, q0, q4, q5]); first | exact hw8.load1 rfl rfl rfl)))))
    (apply g_stR <;> (first | exact Zc | apply gI | ((repeat' (first | exact Y0 | apply Y1 | exact Y2 | apply Y3 | ((first | apply Y4 | apply Y5); simp only [evs, Nat.reduceEqDiff, reduceIte, qn, qd, q0, q4, q5] <;> rfl))); done) | (apply Hy.mk; (try simp only [evs, qn, qd, q0, q4, q5]); first | exact u38 | exact u4 | assumption) | (apply Om.mk; first | exact u38 | exact u4) | (apply Y6; (try simp only [evs, qn, qd, q0, q4, q5]); first | rfl) | apply Cn.mk))
    intro m9 r9 o9 n9; simp only [evs, qn, qd, q0, q4, q5] at r9 o9 n9
    (repeat (first | apply wpN_cons | apply g_next | (apply G.h; constructor <;> (first | exact Zc | apply gI | ((repeat' (first | exact Y0 | apply Y1 | ((first | apply Y4 | apply Y5); simp only [evs, Nat.reduceEqDiff, reduceIte, qn, qd, q0, q4, q5] <;> rfl))); done) | (apply Y6; (try simp only [evs, qn, qd, q0, q4, q5]); first | rfl)))))
    (refine g_finN (by first | exact Rs.nil | skip) (by (simp only [evs, Nat.reduceEqDiff, reduceIte, qn, qd, q0, q4, q5] <;> first | rfl | (congr 1; omega) | omega)) ?_)
    simp only [evs]
    have z : Row m9 ub (put ur (0 + S.pc * 2) (encP (5, 0))) 57 0 := r9
    rw [Nat.zero_add] at z
    have hul : (S1.fail 4 x.pos).uses = S1.uses := (failIf_rest S1 true 4 x.pos).2.1
    obtain ⟨h9, k9⟩ := h8.setUses (5, 0) u1 u2 u38 (by rw [hul, J1.uses]; exact hp) z o9 n9
    exact ⟨V.cvs, h9, ((k5.mono (by simp)).trans (k8.mono (by simp))).trans (k9.mono (by simp))⟩
   | some i =>
    rw [hpb] at hv
    replace hv : v = .tuple ⟨[I i, .bool true]⟩ := hv
    subst hv
    (repeat (first | apply wpN_cons | apply g_next | (apply G.h; constructor <;> (first | exact Zc | apply gI | ((repeat' (first | exact Y0 | apply Y1 | ((first | apply Y4 | apply Y5); simp only [evs, Nat.reduceEqDiff, reduceIte, qn, qd, q0, q4, q5] <;> rfl))); done) | (apply Y6; (try simp only [evs, qn, qd, q0, q4, q5]); first | exact hw5.load1 rfl rfl rfl)))))
    (apply g_stR <;> (first | exact Zc | apply gI | ((repeat' (first | exact Y0 | apply Y1 | exact Y2 | apply Y3 | ((first | apply Y4 | apply Y5); simp only [evs, Nat.reduceEqDiff, reduceIte, qn, qd, q0, q4, q5] <;> rfl))); done) | (apply Hy.mk; (try simp only [evs, qn, qd, q0, q4, q5]); first | exact u3 | exact u4 | assumption) | (apply Om.mk; first | exact u3 | exact u4) | (apply Y6; (try simp only [evs, qn, qd, q0, q4, q5]); first | rfl) | apply Cn.mk))
    intro m9 r9 o9 n9; simp only [evs, qn, qd, q0, q4, q5] at r9 o9 n9
    (repeat (first | apply wpN_cons | apply g_next | (apply G.h; constructor <;> (first | exact Zc | apply gI | ((repeat' (first | exact Y0 | apply Y1 | ((first | apply Y4 | apply Y5); simp only [evs, Nat.reduceEqDiff, reduceIte, qn, qd, q0, q4, q5] <;> rfl))); done) | (apply Y6; (try simp only [evs, qn, qd, q0, q4, q5]); first | rfl)))))
    (refine g_finN (by first | exact Rs.nil | skip) (by (simp only [evs, Nat.reduceEqDiff, reduceIte, qn, qd, q0, q4, q5] <;> first | rfl | (congr 1; omega) | omega)) ?_)
    simp only [evs]
    have z : Row m9 ub (put ur (0 + S.pc * 2) (encP (5, i))) 57 0 := r9
    rw [Nat.zero_add] at z
    obtain ⟨h9, k9⟩ := h5.setUses (5, i) u1 u2 u3 (by rw [J1.uses]; exact hp) z o9 n9
    exact ⟨V.cvs, h9, (k5.mono (by simp)).trans (k9.mono (by simp))⟩
 | some r =>
  obtain ⟨d, out⟩ := r
  obtain ⟨fr, f1, f2, f3, f4⟩ := J1.found hf
  have hd : d < dB.length := by omega
  rw [hf] at hv
  replace hv : v = .tuple ⟨[ptr dB[d], I out]⟩ := by
   rw [hv]
   show Value.tuple ⟨[dptr dB d, I out]⟩ = _
   rw [dptr_at hd]
  subst hv
  (repeat (first | apply wpN_cons | apply g_next | (apply G.h; constructor <;> (first | exact Zc | apply gI | ((repeat' (first | exact Y0 | apply Y1 | ((first | apply Y4 | apply Y5); simp only [evs, Nat.reduceEqDiff, reduceIte, qn, qd, q0, q4, q5] <;> rfl))); done) | (apply Y6; (try simp only [evs, qn, qd, q0, q4, q5]); first | exact hw5.load1 rfl rfl rfl)))))
  (apply g_stR <;> (first | exact Zc | apply gI | ((repeat' (first | exact Y0 | apply Y1 | exact Y2 | apply Y3 | ((first | apply Y4 | apply Y5); simp only [evs, Nat.reduceEqDiff, reduceIte, qn, qd, q0, q4, q5] <;> rfl))); done) | (apply Hy.mk; (try simp only [evs, qn, qd, q0, q4, q5]); first | exact v3 | exact v4 | assumption) | (apply Om.mk; first | exact v3 | exact v4) | (apply Y6; (try simp only [evs, qn, qd, q0, q4, q5]); first | rfl) | apply Cn.mk))
  intro m7 r7 o7 n7; simp only [evs, qn, qd, q0, q4, q5] at r7 o7 n7
  have r7' : Row m7 mb (mr.set S.pc (optPtr dB (some d))) 90 0 := by
   have z : Row m7 mb (put mr (0 + S.pc * 1) [ptr dB[d]]) 90 0 := r7
   rw [show 0 + S.pc * 1 = S.pc by omega] at z
   show Row m7 mb (mr.set S.pc (dptr dB d)) 90 0
   rw [dptr_at hd]; exact z
  obtain ⟨h7, k7⟩ := h5.setMeans (some d) v1 v2 v3 (by rw [J1.means]; exact hp) r7' o7 n7
  cases out with
  | zero =>
   (repeat (first | apply wpN_cons | apply g_next | (apply G.h; constructor <;> (first | exact Zc | apply gI | ((repeat' (first | exact Y0 | apply Y1 | ((first | apply Y4 | apply Y5); simp only [evs, Nat.reduceEqDiff, reduceIte, qn, qd, q0, q4, q5] <;> rfl))); done) | (apply Y6; (try simp only [evs, qn, qd, q0, q4, q5]); first | rfl)))))
   (refine g_fin (by repeat' first | exact Rs.nil | apply Rs.cons | (apply Y4; simp only [evs, Nat.reduceEqDiff, reduceIte, qn, qd, q0, q4, q5] <;> rfl)) (by (simp only [evs, Nat.reduceEqDiff, reduceIte, qn, qd, q0, q4, q5] <;> first | rfl | (congr 1; omega) | omega)) ?_)
   simp only [evs]
   exact ⟨V.cvs, h7, (k5.mono (by simp)).trans (k7.mono (by simp))⟩
  | succ out =>
   have hdr := h7.decls.2.2 d dB[d] S1.decls[d] (List.getElem?_eq_getElem hd) (List.getElem?_eq_getElem f3)
   have hdr1 := hdr.1
   have hdr2 := hdr.2
   (repeat (first | apply wpN_cons | apply g_next | (apply G.h; constructor <;> (first | exact Zc | apply gI | ((repeat' (first | exact Y0 | apply Y1 | ((first | apply Y4 | apply Y5); simp only [evs, Nat.reduceEqDiff, reduceIte, qn, qd, q0, q4, q5] <;> rfl))); done) | (apply Y6; (try simp only [evs, qn, qd, q0, q4, q5]); first | rfl)))))
   (apply g_stR <;> (first | exact Zc | apply gI | ((repeat' (first | exact Y0 | apply Y1 | exact Y2 | apply Y3 | ((first | apply Y4 | apply Y5); simp only [evs, Nat.reduceEqDiff, reduceIte, qn, qd, q0, q4, q5] <;> rfl))); done) | (apply Hy.mk; (try simp only [evs, qn, qd, q0, q4, q5]); first | exact hdr2 | assumption) | (apply Om.mk; first | exact hdr2) | (apply Y6; (try simp only [evs, qn, qd, q0, q4, q5]); first | rfl) | apply Cn.mk))
   intro m8 r8 o8 n8; simp only [evs, qn, qd, q0, q4, q5] at r8 o8 n8
   obtain ⟨h8, k8⟩ := h7.setCap hd f3 r8 o8 n8
   have hw8 := h8.w
   rw [u1, v1] at hw8
   have v38 := r7'.stay k8 (.inr (by decide))
   have v48 : 0 + S.pc * 1 + 1 ≤ (mr.set S.pc (optPtr dB (some d))).length := by simpa using v4
   (repeat (first | apply wpN_cons | apply g_next | (apply G.h; constructor <;> (first | exact Zc | apply gI | ((repeat' (first | exact Y0 | apply Y1 | ((first | apply Y4 | apply Y5); simp only [evs, Nat.reduceEqDiff, reduceIte, qn, qd, q0, q4, q5] <;> rfl))); done) | (apply Y6; (try simp only [evs, qn, qd, q0, q4, q5]); first | exact hw8.load1 rfl rfl rfl)))))
   (apply g_stR <;> (first | exact Zc | apply gI | ((repeat' (first | exact Y0 | apply Y1 | exact Y2 | apply Y3 | ((first | apply Y4 | apply Y5); simp only [evs, Nat.reduceEqDiff, reduceIte, qn, qd, q0, q4, q5] <;> rfl))); done) | (apply Hy.mk; (try simp only [evs, qn, qd, q0, q4, q5]); first | exact v38 | exact v48 | assumption) | (apply Om.mk; first | exact v38 | exact v48) | (apply Y6; (try simp only [evs, qn, qd, q0, q4, q5]); first | rfl) | apply Cn.mk))
   intro m9 r9 o9 n9; simp only [evs, qn, qd, q0, q4, q5] at r9 o9 n9
   have r9' : Row m9 mb ((mr.set S.pc (optPtr dB (some d))).set S.pc (optPtr dB none)) 90 0 := by
    have z : Row m9 mb (put (mr.set S.pc (optPtr dB (some d))) (0 + S.pc * 1) [.pointer none]) 90 0 := r9
    rw [show 0 + S.pc * 1 = S.pc by omega] at z
    exact z
   obtain ⟨h9, k9⟩ := h8.setMeans none v1 v2 v38 (by simp only [List.length_set]; rw [J1.means]; exact hp) r9' o9 n9
   simp only at h9
   have hw9 := h9.w
   obtain ⟨fa, n, fc, fe, fl⟩ := h9.frames.form (by decide)
   have hn : fB.length = n := by simp at fl; omega
   rw [u1, v1, fe] at hw9
   have k59 : Keep X [83, 57, 90, 92, 59, 49, mapTag] m m9 := (((k5.mono (by simp)).trans (k7.mono (by simp))).trans (k8.mono (by simp))).trans (k9.mono (by simp))
   have rn9 := ((rn.stay k7 (.inr (by decide))).stay k8 (.inr (by decide))).stay k9 (.inr (by decide))
   have u39 := ((u3.stay k7 (.inr (by decide))).stay k8 (.inr (by decide))).stay k9 (.inr (by decide))
   generalize hS2 : ({ S1 with means := (S1.means.set S.pc (some d)).set S.pc none, decls := S1.decls.modify d fun c => { c with cap := true } } : MS) = S2
   have e2f : S2.frames = S1.frames := by rw [← hS2]
   have e2n : S2.funs = S1.funs := by rw [← hS2]
   have h9' : Rep X A m9 wb S2 fB dB V := by rw [← hS2]; exact h9
   have J2 : Inv A.l bd S2 := by
    rw [← hS2]
    exact ((J1.setM S.pc (o := some d) (fun d' hd' => by cases hd'; exact f3)).setM S.pc (o := none) (fun d' hd' => by cases hd')).cap d
   have hdl2 := h9'.decls.1
   have hown : frFn S2 (out + 1) = declFn S2 d := by
    rw [frFn_of (f := fr) (by rw [e2f]; exact f1), ← hS2, declFn_cap]; exact f4.symm
   have htake := take92 (A := A) (wb := wb) (dB := dB) x hd (by omega) (S2.frames.length + 1) 0 h9' (by rw [hdl2]; exact J2.refs) (by omega) ⟨out + 1, by omega, by rw [e2f]; exact f2, hown⟩ (fun g hg => (J2.fr g hg).1)
    (fun g hg => by have := J2.caps g hg; rw [e2f]; omega)
   have hnn : S2.frames.length = n := by rw [e2f]; omega
   rw [Nat.sub_zero, hnn] at htake
   (repeat (first | apply wpN_cons | apply g_next | (apply G.h; constructor <;> (first | exact Zc | apply gI | ((repeat' (first | exact Y0 | apply Y1 | ((first | apply Y4 | apply Y5); simp only [evs, Nat.reduceEqDiff, reduceIte, qn, qd, q0, q4, q5] <;> rfl))); done) | (apply Y6; (try simp only [evs, qn, qd, q0, q4, q5]); first | rfl)))))
   (apply g_regionN [0, 1, 2, 3, 4, 5, 6, 7, 8, 9, 10, 11, 12, 13, 14, 15, 16, 17, 18] [(0, 18), (1, 18), (2, 18), (3, 18), (4, 18), (5, 18)]; (focus exact Kr.mk (by kernel_rfl)); (focus exact Rf.mk))
   (repeat (first | apply wpN_cons | apply g_next | (apply G.h; constructor <;> (first | exact Zc | apply gI | ((repeat' (first | exact Y0 | apply Y1 | ((first | apply Y4 | apply Y5); simp only [evs, Nat.reduceEqDiff, reduceIte, qn, qd, q0, q4, q5] <;> rfl))); done) | (apply Y6; (try simp only [evs, qn, qd, q0, q4, q5]); first | exact hw9.load1 rfl rfl rfl | exact rn9.loadA rfl rfl rfl (Nat.le_refl 5) rfl)))))
   ((first | apply g_run | apply g_run0) <;> (first | ((repeat' (first | exact Y0 | apply Y1 | exact Y2 | apply Y3 | ((first | apply Y4 | apply Y5); simp only [evs, Nat.reduceEqDiff, reduceIte, qn, qd, q0, q4, q5] <;> rfl))); done) | exact Rn.mk ((by simp only [evs]; exact htake)) | apply Cn.mk))
   rintro v m10 ⟨cvs, rfl, h10, k10⟩
   replace k10 : Keep X [83, 59, 49, mapTag] m9 m10 := k10
   have u310 := u39.stay k10 (.inr (by decide))
   have hw10 := h10.w
   simp only [u1] at hw10
   (repeat (first | apply wpN_cons | apply g_next | (apply G.h; constructor <;> (first | exact Zc | apply gI | ((repeat' (first | exact Y0 | apply Y1 | ((first | apply Y4 | apply Y5); simp only [evs, Nat.reduceEqDiff, reduceIte, qn, qd, q0, q4, q5] <;> rfl))); done) | (apply Y6; (try simp only [evs, qn, qd, q0, q4, q5]); first | rfl)))))
   (apply g_stR <;> (first | exact Zc | apply gI | ((repeat' (first | exact Y0 | apply Y1 | exact Y2 | apply Y3 | ((first | apply Y4 | apply Y5); simp only [evs, Nat.reduceEqDiff, reduceIte, qn, qd, q0, q4, q5] <;> rfl))); done) | (apply Hy.mk; (try simp only [evs, qn, qd, q0, q4, q5]); first | exact u310 | exact u4 | assumption) | (apply Om.mk; first | exact u310 | exact u4) | (apply Y6; (try simp only [evs, qn, qd, q0, q4, q5]); first | rfl) | apply Cn.mk))
   intro m11 r11 o11 n11; simp only [evs, qn, qd, q0, q4, q5] at r11 o11 n11
   (repeat (first | apply wpN_cons | apply g_next | (apply G.h; constructor <;> (first | exact Zc | apply gI | ((repeat' (first | exact Y0 | apply Y1 | ((first | apply Y4 | apply Y5); simp only [evs, Nat.reduceEqDiff, reduceIte, qn, qd, q0, q4, q5] <;> rfl))); done) | (apply Y6; (try simp only [evs, qn, qd, q0, q4, q5]); first | rfl)))))
   refine g_last (.mk ⟨.mk ?_, .mk ?_, .mk ?_, .mk ?_, .mk ?_, .mk ?_, trivial⟩) ?_
   ·(apply again_of; exact Rf.mk; exact Rf.mk; (apply Ev.mk; (simp only [evs, Nat.reduceEqDiff, reduceIte, qn, qd, q0, q4, q5] <;> rfl)); exact Rf.mk; (repeat (first | apply wpN_cons | apply g_next | (apply G.h; constructor <;> (first | exact Zc | apply gI | ((repeat' (first | exact Y0 | apply Y1 | ((first | apply Y4 | apply Y5); simp only [evs, Nat.reduceEqDiff, reduceIte, qn, qd, q0, q4, q5] <;> rfl))); done) | (apply Y6; (try simp only [evs, qn, qd, q0, q4, q5]); first | rfl))))); refine eret_nil ?_; (simp only [evs, Nat.reduceEqDiff, reduceIte, qn, qd, q0, q4, q5] <;> rfl))
   ·(apply again_of; exact Rf.mk; exact Rf.mk; (apply Ev.mk; (simp only [evs, Nat.reduceEqDiff, reduceIte, qn, qd, q0, q4, q5] <;> rfl)); exact Rf.mk; (repeat (first | apply wpN_cons | apply g_next | (apply G.h; constructor <;> (first | exact Zc | apply gI | ((repeat' (first | exact Y0 | apply Y1 | ((first | apply Y4 | apply Y5); simp only [evs, Nat.reduceEqDiff, reduceIte, qn, qd, q0, q4, q5] <;> rfl))); done) | (apply Y6; (try simp only [evs, qn, qd, q0, q4, q5]); first | rfl))))); refine eret_nil ?_; (simp only [evs, Nat.reduceEqDiff, reduceIte, qn, qd, q0, q4, q5] <;> rfl))
   ·(apply again_of; exact Rf.mk; exact Rf.mk; (apply Ev.mk; (simp only [evs, Nat.reduceEqDiff, reduceIte, qn, qd, q0, q4, q5] <;> rfl)); exact Rf.mk; (repeat (first | apply wpN_cons | apply g_next | (apply G.h; constructor <;> (first | exact Zc | apply gI | ((repeat' (first | exact Y0 | apply Y1 | ((first | apply Y4 | apply Y5); simp only [evs, Nat.reduceEqDiff, reduceIte, qn, qd, q0, q4, q5] <;> rfl))); done) | (apply Y6; (try simp only [evs, qn, qd, q0, q4, q5]); first | rfl))))); refine eret_nil ?_; (simp only [evs, Nat.reduceEqDiff, reduceIte, qn, qd, q0, q4, q5] <;> rfl))
   ·(apply again_of; exact Rf.mk; exact Rf.mk; (apply Ev.mk; (simp only [evs, Nat.reduceEqDiff, reduceIte, qn, qd, q0, q4, q5] <;> rfl)); exact Rf.mk; (repeat (first | apply wpN_cons | apply g_next | (apply G.h; constructor <;> (first | exact Zc | apply gI | ((repeat' (first | exact Y0 | apply Y1 | ((first | apply Y4 | apply Y5); simp only [evs, Nat.reduceEqDiff, reduceIte, qn, qd, q0, q4, q5] <;> rfl))); done) | (apply Y6; (try simp only [evs, qn, qd, q0, q4, q5]); first | rfl))))); refine eret_nil ?_; (simp only [evs, Nat.reduceEqDiff, reduceIte, qn, qd, q0, q4, q5] <;> rfl))
   ·(apply again_of; exact Rf.mk; exact Rf.mk; (apply Ev.mk; (simp only [evs, Nat.reduceEqDiff, reduceIte, qn, qd, q0, q4, q5] <;> rfl)); exact Rf.mk; (repeat (first | apply wpN_cons | apply g_next | (apply G.h; constructor <;> (first | exact Zc | apply gI | ((repeat' (first | exact Y0 | apply Y1 | ((first | apply Y4 | apply Y5); simp only [evs, Nat.reduceEqDiff, reduceIte, qn, qd, q0, q4, q5] <;> rfl))); done) | (apply Y6; (try simp only [evs, qn, qd, q0, q4, q5]); first | exact hw10.load1 rfl rfl rfl))))); refine eret_nil ?_; (simp only [evs, Nat.reduceEqDiff, reduceIte, qn, qd, q0, q4, q5] <;> rfl))
   ·(apply again_of; exact Rf.mk; exact Rf.mk; (apply Ev.mk; (simp only [evs, Nat.reduceEqDiff, reduceIte, qn, qd, q0, q4, q5] <;> rfl)); exact Rf.mk; (repeat (first | apply wpN_cons | apply g_next | (apply G.h; constructor <;> (first | exact Zc | apply gI | ((repeat' (first | exact Y0 | apply Y1 | ((first | apply Y4 | apply Y5); simp only [evs, Nat.reduceEqDiff, reduceIte, qn, qd, q0, q4, q5] <;> rfl))); done) | (apply Y6; (try simp only [evs, qn, qd, q0, q4, q5]); first | rfl))))); refine eret_nil ?_; (simp only [evs, Nat.reduceEqDiff, reduceIte, qn, qd, q0, q4, q5] <;> rfl))
   (repeat (first | apply wpN_cons | apply g_next | (apply G.h; constructor <;> (first | exact Zc | apply gI | ((repeat' (first | exact Y0 | apply Y1 | ((first | apply Y4 | apply Y5); simp only [evs, Nat.reduceEqDiff, reduceIte, qn, qd, q0, q4, q5] <;> rfl))); done) | (apply Y6; (try simp only [evs, qn, qd, q0, q4, q5]); first | rfl)))))
   (refine g_fin (by repeat' first | exact Rs.nil | apply Rs.cons | (apply Y4; simp only [evs, Nat.reduceEqDiff, reduceIte, qn, qd, q0, q4, q5] <;> rfl)) (by (simp only [evs, Nat.reduceEqDiff, reduceIte, qn, qd, q0, q4, q5] <;> first | rfl | (congr 1; omega) | omega)) ?_)
   simp only [evs]
   have ht := take_tk (S2.frames.length + 1) S2 d 0 x.pos
   have z : Row m11 ub (put ur (0 + S.pc * 2) (encP (3, (MS.take (n + 1) S2 d 0 x.pos).2))) 57 0 := r11
   rw [Nat.zero_add, ← hnn] at z
   rw [← hnn] at h10
   obtain ⟨h11, k11⟩ := h10.setUses (3, (MS.take (S2.frames.length + 1) S2 d 0 x.pos).2) u1 u2 u310 (by rw [ht.uses, J2.uses]; exact hp) z o11 n11
   subst hS2
   refine ⟨cvs, h11, (k59.trans (k10.mono (by simp))).trans (k11.mono (by simp))⟩
end
end Go.Proofs.YtihokakelnfdgaaDoor

namespace Go.Proofs.YtihokakelnfdgaaDoor
set_option linter.unusedSimpArgs false
open Go Go.Ev
set_option linter.unusedVariables false

/-! What stays true through a node. -/
def bump : List (Nat × Nat × Nat) → List (Nat × Nat × Nat)
 | [] => []
 | (a, b, c) :: r => (a, b + 1, c) :: r
def unb : List (Nat × Nat × Nat) → List (Nat × Nat × Nat)
 | [] => []
 | (a, b, c) :: r => (a, b - 1, c) :: r
theorem unb_bump (l : List (Nat × Nat × Nat)) : unb (bump l) = l := by
 cases l with
 | nil => rfl
 | cons q r => obtain ⟨a, b, c⟩ := q; rfl
theorem frK_enter (S : MS) : frK S.enter = bump (frK S) := by
 unfold frK MS.enter MS.top
 cases S.frames <;> rfl
theorem frK_leave (S : MS) : frK S.leave = unb (frK S) := by
 unfold frK MS.leave MS.top
 cases S.frames with
 | nil => rfl
 | cons f r => simp [onTop, unb]
def lp (g : Nat → Nat) : List (Nat × Nat × Nat) → List (Nat × Nat × Nat)
 | [] => []
 | (a, b, c) :: r => (a, b, g c) :: r
theorem frK_loop (S : MS) (g : Nat → Nat) : frK (S.loop g) = lp g (frK S) := by
 unfold frK MS.loop MS.top
 cases S.frames <;> rfl
theorem lp_lp (l : List (Nat × Nat × Nat)) : lp (· - 1) (lp (· + 1) l) = l := by
 cases l with
 | nil => rfl
 | cons q r => obtain ⟨a, b, c⟩ := q; rfl

theorem Sh.go (S : MS) (p : Nat) : Sh S { S with pc := p } := ⟨rfl, List.prefix_refl _, List.prefix_refl _, List.prefix_refl _⟩
theorem names_D {l : List Nd} (hok : ∀ x ∈ l, okR x = true) : ∀ (n q : Nat), (∀ i, i < n → ∃ h : q + i < l.length, l[q + i].kind = 19) → D (l.drop q) n = some n
 | 0, q, _ => D_zero _
 | n + 1, q, h => by
  obtain ⟨h0, h1⟩ := h 0 (by omega)
  simp only [Nat.add_zero] at h0 h1
  have hw := name_width h0 (hok _ (List.getElem_mem h0)) h1
  have := names_D hok n (q + 1) fun i hi => by
   obtain ⟨a, b⟩ := h (i + 1) (by omega)
   have e : q + 1 + i = q + (i + 1) := by omega
   exact ⟨by omega, by simp only [e]; exact b⟩
  have e := D_app (l.drop q) 1 n 1 n hw (by rw [List.drop_drop]; exact this)
  rw [Nat.add_comm] at e; exact e

def NodeI (l : List Nd) (nd : MS → MS) (f : Nat) : Prop := ∀ (S : MS) (b k : Nat), Inv l b S → D (l.drop S.pc) 1 = some k → k ≤ f → Inv l (b + 2 * k) (nd S) ∧ Sh S (nd S) ∧ (nd S).pc = S.pc + k
section
variable {l : List Nd} {nd : MS → MS} {f b k : Nat} {S : MS}
theorem times_inv (hN : NodeI l nd f) : ∀ (n : Nat) (S : MS) (b k : Nat), Inv l b S → D (l.drop S.pc) n = some k → k ≤ f → Inv l (b + 2 * k) (times nd n S) ∧ Sh S (times nd n S) ∧ (times nd n S).pc = S.pc + k
 | 0, S, b, k, h, hD, hk => by
  rw [D_zero] at hD; cases hD
  exact ⟨h, Sh.refl S, rfl⟩
 | n + 1, S, b, k, h, hD, hk => by
  obtain ⟨k1, k2, e1, e2, e3, e4, e5, e6⟩ := D_next hD
  obtain ⟨i1, i2, i3⟩ := hN S b k1 h e1 (by omega)
  obtain ⟨j1, j2, j3⟩ := times_inv hN n (nd S) (b + 2 * k1) k2 i1 (by rw [i3]; exact e2) (by omega)
  rw [times]
  exact ⟨by rw [show b + 2 * k = b + 2 * k1 + 2 * k2 by omega]; exact j1, i2.trans j2, by rw [j3, i3]; omega⟩
theorem params_inv (hl : ∀ x ∈ l, okR x = true) : ∀ (n : Nat) (S : MS) (b : Nat), Inv l b S → S.pc + n ≤ l.length → Inv l (b + n) (MS.params l n S) ∧ Sh S (MS.params l n S) ∧ (MS.params l n S).pc = S.pc + n
 | 0, S, b, h, hp => ⟨h, Sh.refl S, rfl⟩
 | n + 1, S, b, h, hp => by
  have hlt : S.pc < l.length := by omega
  rw [MS.params, List.getElem?_eq_getElem hlt]
  simp only
  obtain ⟨i1, i2, i3, i4, i5, i6⟩ := h.declare l[S.pc].text S.pc l[S.pc].pos
  obtain ⟨j1, j2, j3⟩ := i1.bind l[S.pc].text (d := S.decls.length) i5 (by rw [i6]; exact (topFn_frK i2.fr).1.symm)
  have q1 := j1.go (p := ((S.declare l[S.pc].text S.pc l[S.pc].pos).bind l[S.pc].text S.decls.length).pc + 1) (Nat.le_succ _) (by rw [j3, i3]; omega)
  obtain ⟨r1, r2, r3⟩ := params_inv hl n _ (b + 1) q1 (by simp only [j3, i3]; omega)
  refine ⟨by rw [show b + (n + 1) = b + 1 + n by omega]; exact r1, (i2.trans j2).trans ((Sh.go _ _).trans r2), ?_⟩
  rw [r3]; simp only [j3, i3]; omega

/-- a function, its parameters, its block. -/
theorem function_inv (P : Prg l) (hN : NodeI l nd f) {p : Nat} (hp : p < l.length) (hk : l[p].kind = 12 ∨ l[p].kind = 31) (h : Inv l b S) (hpc : S.pc = p + 1) (hfr : S.frames.length + 1 ≤ S.pc) (hD : D (l.drop (p + 1)) l[p].n.toNat = some k) (hkf : k ≤ f) :
  Inv l (b + 1 + 2 * k) (S.function l nd p l[p]) ∧ Sh S (S.function l nd p l[p]) ∧ (S.function l nd p l[p]).pc = S.pc + k := by
 obtain ⟨c1, c2, c3⟩ := cntF (P.ok _ (List.getElem_mem hp)) hk
 obtain ⟨num, hnum⟩ : ∃ n : Nat, l[p].num = n := ⟨l[p].num.toNat, by omega⟩
 have hpar := P.params hp hk
 have hnD := names_D P.ok num (p + 1) fun i hi => hpar i (by omega)
 rw [show l[p].n.toNat = num + 1 by omega] at hD
 obtain ⟨k1, k2, e1, e2, e3⟩ := D_add _ _ _ _ hD
 rw [hnD] at e1; cases e1
 rw [List.drop_drop] at e2
 have hle := D_le _ _ _ e2
 rw [List.length_drop] at hle
 obtain ⟨i1, i2, i3, i4, i5, i6⟩ := h.open_ hfr p l[p]
 obtain ⟨j1, j2, j3⟩ := params_inv P.ok num (S.open_ p l[p]) (b + 1) i1 (by rw [i6, hpc]; omega)
 obtain ⟨r1, r2, r3⟩ := hN (MS.params l num (S.open_ p l[p])) (b + 1 + num) k2 j1 (by rw [j3, i6, hpc]; exact e2) (by omega)
 unfold MS.function
 rw [show l[p].num.toNat = num by omega]
 generalize hR : nd (MS.params l num (S.open_ p l[p])) = R at r1 r2 r3 ⊢
 have hfk : frK R = (S.funs.length, 1, 0) :: frK S := by rw [r2.fr, j2.fr, i2]
 have hfl : frK R.leave = (S.funs.length, 0, 0) :: frK S := by rw [frK_leave, hfk]; rfl
 have hne : frK S ≠ [] := by
  intro hh
  have := congrArg List.length hh
  rw [frK_len] at this
  exact h.ne (List.length_eq_zero_iff.1 this)
 refine ⟨(r1.leave.popF hfl hne).mono (by omega), ⟨?_, ?_, ?_, ?_⟩, ?_⟩
 ·show (R.leave.frames.tail).map _ = _
  rw [List.map_tail]
  show (frK R.leave).tail = _
  rw [hfl]; rfl
 ·exact i3.trans (j2.dc.trans r2.dc)
 ·exact i4.trans (j2.fn.trans r2.fn)
 ·exact i5.trans (j2.gl.trans r2.gl)
 ·show R.pc = _
  rw [r3, j3, i6]; omega

theorem step_inv (P : Prg l) (hl : l.length ≤ 600) (g : List (Bs × Nat)) (hN : NodeI l nd f) {p : Nat} (hp : p < l.length) (h : Inv l b S) (hpc : S.pc = p + 1) (hfr : S.frames.length + 1 ≤ S.pc) (hD : D (l.drop (p + 1)) l[p].n.toNat = some k) (hkf : k ≤ f) :
  Inv l (b + 2 * (k + 1)) (MS.step l g nd p l[p] S) ∧ Sh S (MS.step l g nd p l[p] S) ∧ (MS.step l g nd p l[p] S).pc = S.pc + k := by
 have hok := P.ok _ (List.getElem_mem hp)
 have hokl := P.ok
 generalize hx : l[p] = x at hD hok
 rw [← hpc] at hD
 unfold MS.step
 by_cases h2 : x.kind = 2
 ·rw [if_pos h2]
  obtain ⟨r1, r2, r3⟩ := times_inv hN x.n.toNat S.enter (b + 1) k h.enter hD hkf
  refine ⟨r1.leave.mono (by omega), ⟨?_, r2.dc, r2.fn, r2.gl⟩, r3⟩
  rw [frK_leave, r2.fr, frK_enter, unb_bump]
 rw [if_neg h2]
 by_cases h3 : x.kind = 3
 ·rw [if_pos h3]
  rw [cnt1 hok h3] at hD
  unfold MS.variable
  by_cases ht : isTop S = true
  ·rw [if_pos ht]
   obtain ⟨i1, i2, i3⟩ := h.global g x.text p x.pos
   obtain ⟨r1, r2, r3⟩ := hN _ _ k i1 (by rw [i3]; exact hD) hkf
   exact ⟨r1.mono (by omega), i2.trans r2, by rw [r3, i3]⟩
  ·rw [if_neg ht]
   obtain ⟨i1, i2, i3, i4, i5, i6⟩ := h.declare x.text p x.pos
   obtain ⟨r1, r2, r3⟩ := hN _ _ k i1 (by rw [i3]; exact hD) hkf
   have hd := r2.declFn i5
   obtain ⟨j1, j2, j3⟩ := r1.bind x.text (d := S.decls.length) hd.2 (by rw [hd.1, i6]; exact (topFn_frK (i2.trans r2).fr).1.symm)
   exact ⟨j1.mono (by omega), (i2.trans r2).trans j2, by rw [j3, r3, i3]⟩
 rw [if_neg h3]
 by_cases h12 : x.kind = 12
 ·rw [if_pos h12]
  have key : ∀ (S1 : MS), Inv l (b + 1) S1 → Sh S S1 → S1.pc = S.pc → Inv l (b + 2 * (k + 1)) (S1.function l nd p x) ∧ Sh S (S1.function l nd p x) ∧ (S1.function l nd p x).pc = S.pc + k := by
   intro S1 i1 i2 i3
   have hlen : S1.frames.length = S.frames.length := by rw [← frK_len, i2.fr, frK_len]
   obtain ⟨r1, r2, r3⟩ := function_inv (S := S1) (k := k) P hN hp (by rw [hx]; exact .inl h12) i1 (by rw [i3, hpc]) (by rw [hlen, i3]; exact hfr) (by rw [hx, ← hpc]; exact hD) hkf
   rw [hx] at r1 r2 r3
   exact ⟨r1.mono (by omega), i2.trans r2, by rw [r3, i3]⟩
  by_cases ht : isTop S = true
  ·rw [if_pos ht]
   obtain ⟨i1, i2, i3⟩ := h.global g x.text p x.pos
   exact key _ i1 i2 i3
  ·rw [if_neg ht]
   obtain ⟨i1, i2, i3, i4, i5, i6⟩ := h.declare x.text p x.pos
   obtain ⟨j1, j2, j3⟩ := i1.bind x.text (d := S.decls.length) i5 (by rw [i6]; exact (topFn_frK i2.fr).1.symm)
   exact key _ j1 (i2.trans j2) (j3.trans i3)
 rw [if_neg h12]
 by_cases h31 : x.kind = 31
 ·rw [if_pos h31]
  obtain ⟨r1, r2, r3⟩ := function_inv (S := S) (k := k) P hN hp (by rw [hx]; exact .inr h31) h hpc hfr (by rw [hx, ← hpc]; exact hD) hkf
  rw [hx] at r1 r2 r3
  exact ⟨r1.mono (by omega), r2, r3⟩
 rw [if_neg h31]
 by_cases h4 : x.kind = 4
 ·rw [if_pos h4]
  rw [cnt2 hok (.inl h4)] at hD
  have hD2 : D (l.drop S.pc) 2 = some k := hD
  obtain ⟨k1, k2, e1, e2, e3, e4, e5, e6⟩ := D_next hD2
  rw [List.getElem?_eq_getElem e5]
  simp only
  by_cases hy : l[S.pc].kind = 19
  ·rw [if_pos hy]
   have hw := name_width e5 (hokl _ (List.getElem_mem e5)) hy
   rw [hw] at e1; cases e1
   obtain ⟨i1, i2, i3⟩ := h.name hl g true e5
   obtain ⟨r1, r2, r3⟩ := hN _ _ k2 i1 (by rw [i3]; exact e2) (by omega)
   exact ⟨r1.mono (by omega), i2.trans r2, by rw [r3, i3]; omega⟩
  ·rw [if_neg hy]
   obtain ⟨r1, r2, r3⟩ := times_inv hN 2 S b k h hD2 hkf
   exact ⟨r1.mono (by omega), r2, r3⟩
 rw [if_neg h4]
 by_cases h11 : x.kind = 11
 ·rw [if_pos h11]
  rw [cnt2 hok (.inr (.inr h11))] at hD
  have hD2 : D (l.drop S.pc) 2 = some k := hD
  obtain ⟨k1, k2, e1, e2, e3, e4, e5, e6⟩ := D_next hD2
  unfold MS.try_
  obtain ⟨i1, i2, i3, i4, i5, i6⟩ := h.enter.declare x.text p x.pos
  obtain ⟨r1, r2, r3⟩ := hN _ _ k1 i1 (by rw [i3]; exact e1) (by omega)
  have hd := r2.declFn i5
  obtain ⟨j1, j2, j3⟩ := r1.bind x.text (d := S.enter.decls.length) hd.2 (by rw [hd.1, i6]; exact (topFn_frK (i2.trans r2).fr).1.symm)
  obtain ⟨s1, s2, s3⟩ := hN _ _ k2 j1 (by rw [j3, r3, i3]; exact e2) (by omega)
  have sh := ((i2.trans r2).trans j2).trans s2
  refine ⟨s1.leave.mono (by omega), ⟨?_, sh.dc, sh.fn, sh.gl⟩, ?_⟩
  ·rw [frK_leave]
   have := sh.fr
   rw [frK_enter] at this
   show unb (frK (nd ((nd (S.enter.declare x.text p x.pos)).bind x.text S.enter.decls.length))) = _
   rw [this, unb_bump]
  ·show (nd ((nd (S.enter.declare x.text p x.pos)).bind x.text S.enter.decls.length)).pc = _
   rw [s3, j3, r3, i3]
   show S.pc + k1 + k2 = _
   omega
 rw [if_neg h11]
 unfold MS.plain
 by_cases h6 : x.kind = 6
 ·rw [if_pos h6]
  rw [cnt2 hok (.inr (.inl h6))] at hD
  have hD2 : D (l.drop S.pc) 2 = some k := hD
  obtain ⟨k1, k2, e1, e2, e3, e4, e5, e6⟩ := D_next hD2
  obtain ⟨r1, r2, r3⟩ := hN _ _ k1 h e1 (by omega)
  have j1 := r1.loop (· + 1) (b' := b + 2 * k1 + 1) (Nat.le_succ _) (fun n hn => by show n + 1 ≤ _; omega)
  obtain ⟨s1, s2, s3⟩ := hN ((nd S).loop (· + 1)) _ k2 j1 (by show D (l.drop (nd S).pc) 1 = _; rw [r3]; exact e2) (by omega)
  refine ⟨(s1.loop (· - 1) (Nat.le_refl _) (fun n hn => by show n - 1 ≤ _; omega)).mono (by omega), ⟨?_, r2.dc.trans s2.dc, r2.fn.trans s2.fn, r2.gl.trans s2.gl⟩, ?_⟩
  ·rw [frK_loop, s2.fr, frK_loop, lp_lp, r2.fr]
  ·show (nd ((nd S).loop (· + 1))).pc = _
   rw [s3]
   show (nd S).pc + k2 = _
   rw [r3]; omega
 ·rw [if_neg h6]
  simp only
  have key : ∀ (S1 : MS), Inv l b S1 → Sh S S1 → S1.pc = S.pc → Inv l (b + 2 * (k + 1)) (times nd x.n.toNat S1) ∧ Sh S (times nd x.n.toNat S1) ∧ (times nd x.n.toNat S1).pc = S.pc + k := by
   intro S1 i1 i2 i3
   obtain ⟨r1, r2, r3⟩ := times_inv hN x.n.toNat S1 b k i1 (by rw [i3]; exact hD) hkf
   exact ⟨r1.mono (by omega), i2.trans r2, by rw [r3, i3]⟩
  split
  ·exact key _ (h.failIf _ _ _) (Sh.failIf S _ _ _) (failIf_rest S _ _ _).2.2.2.2.2.2
  ·split
   ·exact key _ (h.failIf _ _ _) (Sh.failIf S _ _ _) (failIf_rest S _ _ _).2.2.2.2.2.2
   ·exact key _ h (Sh.refl S) rfl

theorem nodeI (P : Prg l) (hl : l.length ≤ 600) (g : List (Bs × Nat)) : ∀ f, NodeI l (nodeM l g f) f
 | 0, S, b, k, h, hD, hk => by have := (D_le _ _ _ hD).1; omega
 | f + 1, S, b, k, h, hD, hk => by
  have hle := D_le _ _ _ hD
  rw [List.length_drop] at hle
  have hlt : S.pc < l.length := by omega
  rw [nodeM]
  by_cases he : S.e ≠ 0
  ·rw [if_pos he]
   have hw : width l S.pc = k := by unfold width; rw [hD]; rfl
   rw [hw]
   exact ⟨(h.go (Nat.le_add_right _ _) (by omega)).mono (by omega), ⟨rfl, List.prefix_refl _, List.prefix_refl _, List.prefix_refl _⟩, rfl⟩
  ·rw [if_neg he, List.getElem?_eq_getElem hlt]
   simp only
   by_cases h19 : l[S.pc].kind = 19
   ·rw [if_pos h19]
    have hw := name_width hlt (P.ok _ (List.getElem_mem hlt)) h19
    rw [hw] at hD; cases hD
    obtain ⟨i1, i2, i3⟩ := h.name hl g false hlt
    exact ⟨i1.mono (by omega), i2, i3⟩
   ·rw [if_neg h19]
    obtain ⟨d1, d2, d3⟩ := D_kids hlt hD
    have h0 := h.go (p := S.pc + 1) (Nat.le_succ _) hlt
    obtain ⟨r1, r2, r3⟩ := step_inv P hl g (nodeI P hl g f) (S := { S with pc := S.pc + 1 }) (k := k - 1) hlt h0 rfl (by simp only; have := h.nfr; omega) d3 (by omega)
    refine ⟨r1.mono (by omega), (Sh.go S _).trans r2, ?_⟩
    rw [r3]; simp only; omega
end
end Go.Proofs.YtihokakelnfdgaaDoor

namespace Go.Ev
open Go
set_option linter.unusedVariables false
section
variable {E : Env} {all l : List Oper} {k : List Kont} {a : Act} {Q : Ex → Act → Prop} {t : TypeId} {pos : String} {af : Array Edge}
/-- a call is put off. -/
theorem g_defer0 {ar : Array Operand} {at_ : Array TypeId} {f : Operand} {g : Nat} {first cap vs : List Value} (hf : Ev a f (.func (.func g) ⟨first⟩ ⟨cap⟩)) (ha : Evl a ar.toList vs) (h : Cn (wpO E all l k (a.push (g, first ++ vs ++ cap)) Q)) : wpO E all (⟨none, .defer ⟨.value f, ar, at_⟩, t, pos, af, none⟩ :: l) k a Q :=
 ewpO_defer rfl (target_of rfl hf.h ha.h) rfl (by have := h.h; unfold Act.push at this; exact this)
theorem g_finDs {Q : Value → Mem → Prop} {ds : List (Nat × List Value)} (hd : a.defers = ds) (h : runsDs E ds a.m fun m' => Q (one []) m') : ret E [] .normal a (fin E [] Q) := by
 subst hd
 have mono : ∀ (l : List (Nat × List Value)) (m : Mem) (P R : Mem → Prop), (∀ m, P m → R m) → runsDs E l m P → runsDs E l m R := by
  intro l
  induction l with
  | nil => intro m P R hPR h; exact hPR m h
  | cons q l ih =>
   obtain ⟨f, args⟩ := q
   intro m P R hPR h
   exact RunsD.mono h fun m' h' => ih m' P R hPR h'
 exact eret_nil ⟨trivial, mono _ _ _ _ (fun m h => ⟨[], rfl, h⟩) h⟩
end
end Go.Ev
namespace Go.Proofs.YtihokakelnfdgaaDoor
set_option linter.unusedSimpArgs false
open Go Go.Ev
set_option linter.unusedVariables false

abbrev TT : List Nat := [83, 49, 57, 9, 84, 90, 92, 59, 88, 137, mapTag]
/-- what is left behind a walk over a tree. -/
def Done (X : Nat → Prop) (A : Args) (wb : Nat) (m m' : Mem) (fB dB : List Nat) (S' : MS) : Prop := ∃ dB' V', Rep X A m' wb S' fB dB' V' ∧ dB <+: dB' ∧ Keep X TT m m'
/-- in which functions no scope need be: the program's own. -/
def NZ (l : List (Nat × Nat × Nat)) : Prop := ∀ q ∈ l, q.1 = 0 ∨ 0 < q.2.1

section
variable {X : Nat → Prop} {T : List Nat} {m m' m2 : Mem} {A : Args} {wb : Nat} {S S' : MS} {fB dB dB' : List Nat} {V : Vs}
theorem Done.of (h : Rep X A m' wb S' fB dB V) (k : Keep X T m m') (hT : ∀ t ∈ T, t ∈ TT) : Done X A wb m m' fB dB S' := ⟨dB, V, h, List.prefix_refl _, k.mono hT⟩
theorem Done.next (k : Keep X T m m') (hT : ∀ t ∈ T, t ∈ TT) (hp : dB <+: dB') (h : Done X A wb m' m2 fB dB' S') : Done X A wb m m2 fB dB S' := by
 obtain ⟨d2, V2, h1, h2, h3⟩ := h
 exact ⟨d2, V2, h1, hp.trans h2, (k.mono hT).trans h3⟩
theorem dptr_pre {dB0 : List Nat} {nb : Nat} (h : dB0 ++ [nb] <+: dB') : dptr dB' dB0.length = ptr nb := by
 obtain ⟨t, rfl⟩ := h
 unfold dptr
 rw [List.append_assoc, List.getElem?_append_right (Nat.le_refl _)]
 simp

/-- the innermost scope, and what is laid into it. -/
theorem Rep.bound (h : Rep X A m wb S fB dB V) {b : Nat} {bs : List Nat} {f : Fr} {fs : List Fr} {sc : List (Bs × Nat)} {scr : List (List (Bs × Nat))} (hf : fB = b :: bs) (hS : S.frames = f :: fs) (hsc : f.scopes = sc :: scr) :
  ∃ c0 cap r n s0 cb, Row m b [I f.fn, .slice (some ⟨c0, 0, none⟩) (n + 1) cap, I f.loops, .map (some cb)] 88 0 ∧ Row m c0 r 137 0 ∧ r[n]? = some (.map (some s0)) ∧ n + 1 = f.scopes.length ∧ Mp m s0 (encE dB sc) ∧
   ∀ (m' : Mem) (s : Bs) (d : Nat), Mp m' s0 (encE dB (lay s d sc)) → (∀ x, x ≠ s0 → m'.get x = m.get x) → m'.next = m.next → Rep X A m' wb (S.bind s d) fB dB V ∧ Keep X [mapTag] m m' := by
 obtain ⟨mid, sv, sb, cb, F, L⟩ := h.top_ hf hS
 obtain ⟨blo, bhi, bx, row, sl, slb, scs, clo, chi, cx, cmap, nodup⟩ := F
 rw [hsc] at scs
 match sb, scs with
 | s0 :: sbt, ⟨⟨q1, q2, q3, q4⟩, qs⟩ =>
  have slw := sl
  rw [List.reverse_cons, List.map_append] at sl
  obtain ⟨c0, cap, r, rfl, e2, e3, e4, e5, e6, e7⟩ := sl.last
  have hn : (sbt.reverse.map fun b => Value.map (some b)).length + 1 = f.scopes.length := by
   have := qs.len
   rw [hsc]; simp [this]
  refine ⟨c0, cap, r, _, s0, cb, row, e3, e6, hn, q4, fun m' s d hm ho hn' => ?_⟩
  have k : Keep X [mapTag] m m' := Keep.wrote q4.2 q3 (List.mem_singleton.2 rfl) ho hn'
  have hnx : m.next ≤ m'.next := Nat.le_of_eq hn'.symm
  have hgb := L.le
  have hB : S.bind s d = { S with frames := { f with scopes := lay s d sc :: scr } :: fs } := by
   unfold MS.bind MS.top; rw [hS]; simp only [onTop, hsc, layTop]
  refine ⟨?_, k⟩
  rw [hB]
  refine h.with_frames k (by decide) (ho _ (by omega)) ?_
  rw [hf, hn']
  have rowNe : ∀ {x e : Nat} {l : List Value}, Row m x l e 0 → x ≠ s0 := by
   intro x e l hr hx
   obtain ⟨-, c, h1, -⟩ := hr
   have h2 := q4.2
   rw [← hx, h1] at h2; cases h2
  simp only [List.nodup_cons, List.mem_cons, not_or] at nodup
  refine ⟨mid, _, s0 :: sbt, cb, ⟨blo, bhi, bx, row.keep hnx (ho b (rowNe row)), ?_, slb, ⟨⟨q1, q2, q3, hm⟩, ?_⟩, clo, chi, cx, cmap.keep hnx (ho cb (fun hc => nodup.1.1 hc)), ?_⟩, L.below hnx fun c hc => ho c (by omega)⟩
  ·rcases slw with hh | ⟨c, cap', r', n', h1, h2, h3, h4⟩
   ·exact .inl hh
   ·exact .inr ⟨c, cap', r', n', h1, h2, h3.keep hnx (ho c (rowNe h3)), h4⟩
  ·have : ∀ {bs : List Nat} {scs : List (List (Bs × Nat))}, s0 ∉ bs → ScsR X m dB mid m.next bs scs → ScsR X m' dB mid m.next bs scs := by
    intro bs
    induction bs with
    | nil => intro scs _ h; cases scs with
     | nil => trivial
     | cons _ _ => exact h
    | cons c bs ih => intro scs hc h; cases scs with
     | nil => exact h
     | cons sc scs =>
      obtain ⟨⟨h1, h2, h3, h4⟩, h5⟩ := h
      simp only [List.mem_cons, not_or] at hc
      exact ⟨⟨h1, h2, h3, h4.keep hnx (ho c (Ne.symm hc.1))⟩, ih hc.2 h5⟩
   exact this nodup.2.1 qs
  ·simp only [List.nodup_cons, List.mem_cons, not_or]
   exact nodup
/-- a frame is there. -/
theorem Rep.head (h : Rep X A m wb S fB dB V) (hne : S.frames ≠ []) : ∃ b bs f fs, fB = b :: bs ∧ S.frames = f :: fs := by
 have hl := h.frs.len
 match hS : S.frames, fB, hl with
 | [], _, _ => exact absurd hS hne
 | f :: fs, b :: bs, _ => exact ⟨b, bs, f, fs, rfl, rfl⟩
 | f :: fs, [], hl => simp [hS] at hl
end
end Go.Proofs.YtihokakelnfdgaaDoor
