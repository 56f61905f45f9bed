/- Part of a verified evaluator of the model's programs and of runs by it: SQC SQD SQE SQF. -/
import Derived.Test.YtihokakelnfdgaaDoorSI
namespace Go.Proofs.YtihokakelnfdgaaDoor
open Go Go.Ev
set_option maxRecDepth 100000
set_option linter.unusedVariables false
set_option linter.unusedSimpArgs false
set_option pp.maxSteps 1500
attribute [local irreducible] quiet allocs effect wp ret wpO Runs Act.tmp Act.eval fin results Tree.set binOp loadAt storeAt target wanted cellsFrom

section
variable {A : Args} {wb f : Nat}

/-- the contract of a node. -/
def NodeC (A : Args) (wb f : Nat) : Prop := ∀ (X : Nat → Prop) (S : MS) (m : Mem) (fB dB : List Nat) (V : Vs) (b k : Nat), Rep X A m wb S fB dB V → Inv A.l b S → NZ (frK S) → b + 2 * k ≤ 1300 → D (A.l.drop S.pc) 1 = some k → k ≤ f →
 Runs evEnv 59 [ptr wb] m fun _ m' => Done X A wb m m' fB dB (nodeM A.l A.g f S)

theorem kids29 (P : Prog A) (hN : NodeC A wb f) (n : Nat) {X : Nat → Prop} {S : MS} {m : Mem} {fB dB : List Nat} {V : Vs} {b k : Nat} (h : Rep X A m wb S fB dB V) (J : Inv A.l b S) (hz : NZ (frK S)) (hb : b + 2 * k ≤ 1300) (hD : D (A.l.drop S.pc) n = some k) (hk : k ≤ f) :
  Runs evEnv 29 [ptr wb, I n] m fun _ m' => Done X A wb m m' fB dB (times (nodeM A.l A.g f) n S) := by
 have hnI := nodeI P.prg P.le A.g f
 have hn : n ≤ 600 := by
  have := D_le _ _ _ hD
  rw [List.length_drop] at this
  have := P.le; omega
 refine runs_start rfl rfl rfl rfl ?_
 (repeat (first | (apply G.h; constructor <;> (first | exact Zc | apply gI | ((repeat' (first | exact Y0 | apply Y1 | ((first | apply Y4 | apply Y5); simp only [evs, Nat.reduceEqDiff, reduceIte] <;> rfl))); done) | (apply Y6; (try simp only [evs]); first | rfl)))))
 refine ewp_loop (ι := Nat × Nat × MS × Nat × Nat) (fun i a => a.n = 10 ∧ a.defers = [] ∧ a.tmp 0 = ptr wb ∧ a.tmp 4 = I n ∧ a.tmp 5 = I i.1 ∧ n = i.1 + i.2.1 ∧ times (nodeM A.l A.g f) n S = times (nodeM A.l A.g f) i.2.1 i.2.2.1 ∧ Inv A.l i.2.2.2.1 i.2.2.1 ∧ NZ (frK i.2.2.1) ∧ i.2.2.2.1 + 2 * i.2.2.2.2 ≤ 1300 ∧ D (A.l.drop i.2.2.1.pc) i.2.1 = some i.2.2.2.2 ∧ i.2.2.2.2 ≤ f ∧ Done X A wb m a.m fB dB i.2.2.1) (fun i => i.2.1) (0, n, S, b, k) ?_ ?_
 ·exact ⟨by (simp only [evs, Nat.reduceEqDiff, reduceIte] <;> first | rfl | (congr 1; omega) | omega), by (simp only [evs, Nat.reduceEqDiff, reduceIte] <;> first | rfl | (congr 1; omega) | omega), by (simp only [evs, Nat.reduceEqDiff, reduceIte] <;> first | rfl | (congr 1; omega) | omega), by (simp only [evs, Nat.reduceEqDiff, reduceIte] <;> first | rfl | (congr 1; omega) | omega), by (simp only [evs, Nat.reduceEqDiff, reduceIte] <;> first | rfl | (congr 1; omega) | omega), by simp, rfl, J, hz, hb, hD, hk, by simp only [evs]; exact Done.of (T := []) h Keep.refl (by simp)⟩
 rintro ⟨j, c, S1, b1, k1⟩ a ⟨qn, qd, q0, q4, q5, hjc, ht, J1, hz1, hb1, hD1, hk1, hdone⟩ ih
 simp only at q5 hjc ht J1 hz1 hb1 hD1 hk1 hdone
 cases c with
 | zero =>
  (repeat (first | (apply G.h; constructor <;> (first | exact Zc | apply gI | ((repeat' (first | exact Y0 | apply Y1 | ((first | apply Y4 | apply Y5); simp only [evs, Nat.reduceEqDiff, reduceIte, qn, qd, q0, q4, q5] <;> rfl))); done) | (apply Y6; (try simp only [evs, qn, qd, q0, q4, q5]); first | rfl)))))
  (refine g_finN (by first | exact Rs.nil | skip) (by (simp only [evs, Nat.reduceEqDiff, reduceIte, qn, qd, q0, q4, q5] <;> first | rfl | (congr 1; omega) | omega)) ?_)
  rw [ht]
  simp only [evs]
  exact hdone
 | succ c =>
  obtain ⟨w1, w2, e1, e2, e3, e4, e5, e6⟩ := D_next hD1
  obtain ⟨dB1, V1, h1, p1, kk1⟩ := hdone
  obtain ⟨i1, i2, i3⟩ := hnI S1 b1 w1 J1 e1 (by omega)
  (repeat (first | (apply G.h; constructor <;> (first | exact Zc | apply gI | ((repeat' (first | exact Y0 | apply Y1 | ((first | apply Y4 | apply Y5); simp only [evs, Nat.reduceEqDiff, reduceIte, qn, qd, q0, q4, q5] <;> rfl))); done) | (apply Y6; (try simp only [evs, qn, qd, q0, q4, q5]); first | rfl)))))
  ((first | apply g_run | apply g_run0) <;> (first | ((repeat' (first | exact Y0 | apply Y1 | exact Y2 | apply Y3 | ((first | apply Y4 | apply Y5); simp only [evs, Nat.reduceEqDiff, reduceIte, qn, qd, q0, q4, q5] <;> rfl))); done) | exact Rn.mk (hN X S1 _ fB dB1 V1 b1 w1 (by simp only [evs]; exact h1) J1 hz1 (by omega) e1 (by omega)) | apply Cn.mk))
  rintro v m2 hd2
  simp only [evs] at hd2
  (repeat (first | (apply G.h; constructor <;> (first | exact Zc | apply gI | ((repeat' (first | exact Y0 | apply Y1 | ((first | apply Y4 | apply Y5); simp only [evs, Nat.reduceEqDiff, reduceIte, qn, qd, q0, q4, q5] <;> rfl))); done) | (apply Y6; (try simp only [evs, qn, qd, q0, q4, q5]); first | rfl)))))
  refine ih (j + 1, c, nodeM A.l A.g f S1, b1 + 2 * w1, w2) _ ⟨by (simp only [evs, Nat.reduceEqDiff, reduceIte, qn, qd, q0, q4, q5] <;> first | rfl | (congr 1; omega) | omega), by (simp only [evs, Nat.reduceEqDiff, reduceIte, qn, qd, q0, q4, q5] <;> first | rfl | (congr 1; omega) | omega), by (simp only [evs, Nat.reduceEqDiff, reduceIte, qn, qd, q0, q4, q5] <;> first | rfl | (congr 1; omega) | omega), by (simp only [evs, Nat.reduceEqDiff, reduceIte, qn, qd, q0, q4, q5] <;> first | rfl | (congr 1; omega) | omega), by (simp only [evs, Nat.reduceEqDiff, reduceIte, qn, qd, q0, q4, q5] <;> first | rfl | (congr 1; omega) | omega), by simp only; omega, ht, i1, by simp only; rw [i2.fr]; exact hz1, by simp only; omega, by simp only; rw [i3]; exact e2, by simp only; omega, by simp only [evs]; exact Done.next kk1 (fun t h => h) p1 hd2⟩ (by simp only; omega)
end
end Go.Proofs.YtihokakelnfdgaaDoor

namespace Go.Proofs.YtihokakelnfdgaaDoor
open Go Go.Ev
set_option maxRecDepth 100000
set_option linter.unusedVariables false
set_option linter.unusedSimpArgs false
set_option pp.maxSteps 1500
attribute [local irreducible] quiet allocs effect wp ret wpO Runs Act.tmp Act.eval fin results Tree.set binOp loadAt storeAt target wanted cellsFrom

section
variable {A : Args} {wb f : Nat}

theorem prefix_one (dB : List Nat) (nb : Nat) : dB <+: dB ++ [nb] := List.prefix_append _ _
/-- scopes of the top frame, where it has some. -/
theorem scopes_of {S : MS} {fr : Fr} {fs : List Fr} (hfr : S.frames = fr :: fs) (hz : NZ (frK S)) (ht : isTop S = false) : ∃ sc scr, fr.scopes = sc :: scr := by
 unfold isTop MS.topFn MS.topScopes at ht
 rw [hfr] at ht
 simp only at ht
 cases hs : fr.scopes with
 | cons sc scr => exact ⟨sc, scr, rfl⟩
 | nil =>
  exfalso
  rw [hs] at ht
  have h0 : fr.fn ≠ 0 := by simpa using ht
  have := hz (fr.fn, fr.scopes.length, fr.loops) (by unfold frK; rw [hfr]; exact List.mem_cons_self)
  rw [hs] at this
  simp at this
  exact h0 this
theorem slots_bd {S : MS} {b : Nat} (J : Inv A.l b S) (i : Nat) : slotsOf S.funs i ≤ b := by
 unfold slotsOf
 cases hg : S.funs[i]? with
 | none => exact Nat.zero_le _
 | some g => exact J.slots g (List.mem_of_getElem? hg)

def VSt (X : Nat → Prop) (A : Args) (wb : Nat) (fB dB : List Nat) (V : Vs) (m0 : Mem) (p nk b0 : Nat) (x : Nd) (S : MS) (a : Ev.Act) : Prop :=
 (a.n = 52 ∧ a.defers = [] ∧ a.tmp 0 = ptr wb ∧ a.tmp 1 = I p ∧ a.tmp 5 = ptr nk ∧ a.tmp 6 = ptr b0 ∧ a.tmp 22 = .bool (isTop S)) ∧ Row a.m nk x.val 43 0 ∧ Rep X A a.m wb S fB dB V ∧ Keep X [] m0 a.m

theorem variable77 (P : Prog A) (hN : NodeC A wb f) {X : Nat → Prop} {S : MS} {m : Mem} {fB dB : List Nat} {V : Vs} {b k p : Nat} (h : Rep X A m wb S fB dB V) (J : Inv A.l b S) (hz : NZ (frK S)) (hp : p < A.l.length) (hb : b + 1 + 2 * k ≤ 1300) (hD : D (A.l.drop S.pc) 1 = some k) (hk : k ≤ f) :
  Runs evEnv 77 [ptr wb, I p, .agg ⟨A.l[p].val⟩] m fun _ m' => Done X A wb m m' fB dB (S.variable A.g (nodeM A.l A.g f) p A.l[p]) := by
 obtain ⟨b0, bs, fr, fs, hfB, hfr⟩ := h.head J.ne
 have hfl := h.frs.len
 have hnI := nodeI P.prg P.le A.g f
 have hJ1 := J.nfr
 have hJ2 := J.pc
 have hple := P.le
 have hf0 := J.fr fr (by rw [hfr]; exact List.mem_cons_self)
 obtain ⟨mid, sv, sb, cb, F, L⟩ := h.top_ hfB hfr
 obtain ⟨sa, sn, scp, se, sl⟩ := F.sl.form (by decide)
 have hslen := F.scs.len
 have hsn : sn = fr.scopes.length := by simp at sl; omega
 have hrow := F.row
 rw [se] at hrow
 have hx := row_new m A.l[p].val 43 0
 have g1 : Grow m (m.new (rowObj A.l[p].val 43 0)) := (Grow.refl m).new _
 have h1 := h.grow g1
 have hrow1 := hrow.grow g1
 have hglob := fun (X : Nat → Prop) (m : Mem) (h : Rep X A m wb S fB dB V) => global78 h J.uses (by have := J.globals; omega) A.l[p].text p hp
 obtain ⟨gi1, gi2, gi3⟩ := J.global A.g A.l[p].text p A.l[p].pos
 obtain ⟨di1, di2, di3, di4, di5, di6⟩ := J.declare A.l[p].text p A.l[p].pos
 generalize hxx : A.l[p] = x at hx g1 h1 hrow1 hglob gi1 gi2 gi3 di1 di2 di3 di4 di5 di6
 refine runs_start rfl rfl rfl rfl ?_
 (repeat (first | (apply G.h; constructor <;> (first | exact Zc | apply gI | ((repeat' (first | exact Y0 | apply Y1 | ((first | apply Y4 | apply Y5); simp only [evs, Nat.reduceEqDiff, reduceIte] <;> rfl))); done) | (apply Y6; (try simp only [evs]); first | rfl)))))
 ((first | apply g_run | apply g_run0) <;> (first | ((repeat' (first | exact Y0 | apply Y1 | exact Y2 | apply Y3 | ((first | apply Y4 | apply Y5); simp only [evs, Nat.reduceEqDiff, reduceIte] <;> rfl))); done) | exact Rn.mk (top74 (by simp only [evs]; exact h1) hfB (by omega)) | apply Cn.mk))
 rintro v m1 ⟨rfl, rfl⟩
 have htop : isTop S = (decide (fr.fn = 0) && decide (sn = 0)) := by
  unfold isTop MS.topFn MS.topScopes
  rw [hfr, hsn]
  simp only
  cases fr.scopes <;> simp
 (repeat (first | (apply G.h; constructor <;> (first | exact Zc | apply gI | ((repeat' (first | exact Y0 | apply Y1 | ((first | apply Y4 | apply Y5); simp only [evs, Nat.reduceEqDiff, reduceIte] <;> rfl))); done) | (apply Y6; (try simp only [evs]); first | exact hrow1.load1 rfl rfl rfl)))))
 refine ewpO_cut0 (VSt X A wb fB dB V m p m.next b0 x S) ?_ ?_
 ·by_cases hfn : fr.fn = 0
  ·by_cases hs0 : sn = 0
   ·rw [decide_eq_true hfn, decide_eq_true hs0] at htop
    (repeat (first | (apply G.h; constructor <;> (first | exact Zc | apply gI | ((repeat' (first | exact Y0 | apply Y1 | ((first | apply Y4 | apply Y5); simp only [evs, Nat.reduceEqDiff, reduceIte, htop] <;> rfl))); done) | (apply Y6; (try simp only [evs, htop]); first | exact hrow1.load1 rfl rfl rfl)))))
    refine eret_nil ⟨rfl, (by refine ⟨?_, ?_, ?_, ?_, ?_, ?_, ?_⟩ <;> (simp only [evs, Nat.reduceEqDiff, reduceIte, htop] <;> first | rfl | (congr 1; omega) | omega)), ?_, ?_, ?_⟩
    ·simp only [evs]; exact hx
    ·simp only [evs]; exact h1
    ·simp only [evs]; exact Keep.grow g1
   ·rw [decide_eq_true hfn, decide_eq_false hs0] at htop
    (repeat (first | (apply G.h; constructor <;> (first | exact Zc | apply gI | ((repeat' (first | exact Y0 | apply Y1 | ((first | apply Y4 | apply Y5); simp only [evs, Nat.reduceEqDiff, reduceIte, htop] <;> rfl))); done) | (apply Y6; (try simp only [evs, htop]); first | exact hrow1.load1 rfl rfl rfl)))))
    refine eret_nil ⟨rfl, (by refine ⟨?_, ?_, ?_, ?_, ?_, ?_, ?_⟩ <;> (simp only [evs, Nat.reduceEqDiff, reduceIte, htop] <;> first | rfl | (congr 1; omega) | omega)), ?_, ?_, ?_⟩
    ·simp only [evs]; exact hx
    ·simp only [evs]; exact h1
    ·simp only [evs]; exact Keep.grow g1
  ·rw [decide_eq_false hfn] at htop
   (repeat (first | (apply G.h; constructor <;> (first | exact Zc | apply gI | ((repeat' (first | exact Y0 | apply Y1 | ((first | apply Y4 | apply Y5); simp only [evs, Nat.reduceEqDiff, reduceIte, htop] <;> rfl))); done) | (apply Y6; (try simp only [evs, htop]); first | exact hrow1.load1 rfl rfl rfl)))))
   refine eret_nil ⟨rfl, (by refine ⟨?_, ?_, ?_, ?_, ?_, ?_, ?_⟩ <;> (simp only [evs, Nat.reduceEqDiff, reduceIte, htop] <;> first | rfl | (congr 1; omega) | omega)), ?_, ?_, ?_⟩
   ·simp only [evs]; exact hx
   ·simp only [evs]; exact h1
   ·simp only [evs]; exact Keep.grow g1
 clear hx h1 hrow1 hrow
 rintro a ⟨⟨qn, qd, q0, q1, q5, q6, q22⟩, rx, h1, k1⟩
 unfold MS.variable
 cases ht : isTop S with
 | true =>
  rw [ht] at q22
  rw [if_pos rfl]
  (repeat (first | (apply G.h; constructor <;> (first | exact Zc | apply gI | ((repeat' (first | exact Y0 | apply Y1 | ((first | apply Y4 | apply Y5); simp only [evs, Nat.reduceEqDiff, reduceIte, qn, qd, q0, q1, q5, q6, q22] <;> rfl))); done) | (apply Y6; (try simp only [evs, qn, qd, q0, q1, q5, q6, q22]); first | exact rx.load1 rfl rfl rfl)))))
  ((first | apply g_run | apply g_run0) <;> (first | ((repeat' (first | exact Y0 | apply Y1 | exact Y2 | apply Y3 | ((first | apply Y4 | apply Y5); simp only [evs, Nat.reduceEqDiff, reduceIte, qn, qd, q0, q1, q5, q6] <;> rfl))); done) | exact Rn.mk (hglob X _ (by simp only [evs]; exact h1)) | apply Cn.mk))
  rintro v m2 ⟨gv, h2, k2⟩
  try simp only [evs] at k2
  (repeat (first | (apply G.h; constructor <;> (first | exact Zc | apply gI | ((repeat' (first | exact Y0 | apply Y1 | ((first | apply Y4 | apply Y5); simp only [evs, Nat.reduceEqDiff, reduceIte, qn, qd, q0, q1, q5, q6] <;> rfl))); done) | (apply Y6; (try simp only [evs, qn, qd, q0, q1, q5, q6]); first | rfl)))))
  ((first | apply g_run | apply g_run0) <;> (first | ((repeat' (first | exact Y0 | apply Y1 | exact Y2 | apply Y3 | ((first | apply Y4 | apply Y5); simp only [evs, Nat.reduceEqDiff, reduceIte, qn, qd, q0, q1, q5, q6] <;> rfl))); done) | exact Rn.mk (kids29 P hN 1 (by simp only [evs]; exact h2) gi1 (by rw [gi2.fr]; exact hz) (by omega) (by rw [gi3]; exact hD) hk) | apply Cn.mk))
  rintro v m3 hd3
  simp only [evs] at hd3
  (repeat (first | (apply G.h; constructor <;> (first | exact Zc | apply gI | ((repeat' (first | exact Y0 | apply Y1 | ((first | apply Y4 | apply Y5); simp only [evs, Nat.reduceEqDiff, reduceIte, qn, qd, q0, q1, q5, q6] <;> rfl))); done) | (apply Y6; (try simp only [evs, qn, qd, q0, q1, q5, q6]); first | rfl)))))
  (refine g_fin (by repeat' first | exact Rs.nil | apply Rs.cons | (apply Y4; simp only [evs, Nat.reduceEqDiff, reduceIte, qn, qd, q0, q1, q5, q6] <;> rfl)) (by (simp only [evs, Nat.reduceEqDiff, reduceIte, qn, qd, q0, q1, q5, q6] <;> first | rfl | (congr 1; omega) | omega)) ?_)
  simp only [evs]
  exact Done.next (k1.mono (by simp)) (fun t h => h) (List.prefix_refl _) (Done.next k2 (by simp) (List.prefix_refl _) hd3)
 | false =>
  rw [ht] at q22
  rw [if_neg (by simp)]
  obtain ⟨sc, scr, hsc⟩ := scopes_of hfr hz ht
  have hdecl := declare79 h1 hfB hfr hsc (by omega) (by omega) hf0.1 (by have := slots_bd J fr.fn; omega) (by rw [h.decls.1]; exact J.refs) J.means A.l[p].text p hp
  rw [hxx] at hdecl
  have hdB := h.decls.1
  (repeat (first | (apply G.h; constructor <;> (first | exact Zc | apply gI | ((repeat' (first | exact Y0 | apply Y1 | ((first | apply Y4 | apply Y5); simp only [evs, Nat.reduceEqDiff, reduceIte, qn, qd, q0, q1, q5, q6, q22] <;> rfl))); done) | (apply Y6; (try simp only [evs, qn, qd, q0, q1, q5, q6, q22]); first | exact rx.load1 rfl rfl rfl)))))
  ((first | apply g_run | apply g_run0) <;> (first | ((repeat' (first | exact Y0 | apply Y1 | exact Y2 | apply Y3 | ((first | apply Y4 | apply Y5); simp only [evs, Nat.reduceEqDiff, reduceIte, qn, qd, q0, q1, q5, q6] <;> rfl))); done) | exact Rn.mk ((by simp only [evs]; exact hdecl)) | apply Cn.mk))
  rintro v m2 ⟨nb, rfl, hnb, h2, k2⟩
  try simp only [evs] at k2
  (repeat (first | (apply G.h; constructor <;> (first | exact Zc | apply gI | ((repeat' (first | exact Y0 | apply Y1 | ((first | apply Y4 | apply Y5); simp only [evs, Nat.reduceEqDiff, reduceIte, qn, qd, q0, q1, q5, q6] <;> rfl))); done) | (apply Y6; (try simp only [evs, qn, qd, q0, q1, q5, q6]); first | rfl)))))
  ((first | apply g_run | apply g_run0) <;> (first | ((repeat' (first | exact Y0 | apply Y1 | exact Y2 | apply Y3 | ((first | apply Y4 | apply Y5); simp only [evs, Nat.reduceEqDiff, reduceIte, qn, qd, q0, q1, q5, q6] <;> rfl))); done) | exact Rn.mk (kids29 P hN 1 (by simp only [evs]; exact h2) di1 (by rw [di2.fr]; exact hz) (by omega) (by rw [di3]; exact hD) hk) | apply Cn.mk))
  rintro v m3 ⟨dB3, V3, h3, p3, k3⟩
  try simp only [evs] at k3
  obtain ⟨ni1, ni2, ni3⟩ := hnI (S.declare x.text p x.pos) _ k di1 (by rw [di3]; exact hD) hk
  have hsh := di2.trans ni2
  replace h3 : Rep X A m3 wb (nodeM A.l A.g f (S.declare x.text p x.pos)) fB dB3 V3 := h3
  generalize hS3 : nodeM A.l A.g f (S.declare x.text p x.pos) = S3 at h3 ni1 ni2 ni3 hsh
  obtain ⟨b3, bs3, f3, fs3, e3, e4⟩ := h3.head ni1.ne
  obtain rfl : b3 = b0 := by rw [hfB] at e3; cases e3; rfl
  have hfk := hsh.fr
  unfold frK at hfk
  rw [hfr, e4] at hfk
  simp only [List.map_cons, List.cons.injEq, Prod.mk.injEq] at hfk
  obtain ⟨⟨t1, t2, t3⟩, t4⟩ := hfk
  obtain ⟨sc3, scr3, hsc3⟩ : ∃ sc scr, f3.scopes = sc :: scr := by
   cases hh : f3.scopes with
   | nil => rw [hh, hsc] at t2; simp at t2
   | cons sc scr => exact ⟨sc, scr, rfl⟩
  obtain ⟨c0, cap, r, n, s0, cb3, w1, w2, w3, w4, w5, w6⟩ := h3.bound e3 e4 hsc3
  have rx3 := ((rx.stay k2 (.inr (by decide))).stay k3 (.inr (by decide)))
  have w3' : r[0 + (n + 1 - 1) * 1]? = some (.map (some s0)) := by rw [show 0 + (n + 1 - 1) * 1 = n by omega]; exact w3
  have hdp : dptr dB3 S.decls.length = ptr nb := by rw [← hdB]; exact dptr_pre p3
  have hupd := upd_str (g := dptr dB3) m3 x.text S.decls.length sc3
  rw [hdp] at hupd
  (repeat (first | (apply G.h; constructor <;> (first | exact Zc | apply gI | ((repeat' (first | exact Y0 | apply Y1 | ((first | apply Y4 | apply Y5); simp only [evs, Nat.reduceEqDiff, reduceIte, qn, qd, q0, q1, q5, q6] <;> rfl))); done) | (apply Y6; (try simp only [evs, qn, qd, q0, q1, q5, q6]); first | exact w1.load1 rfl rfl rfl | exact w2.load1 rfl rfl w3' | exact rx3.load1 rfl rfl rfl)))))
  (apply g_update <;> (first | exact Zc | apply gI | ((repeat' (first | exact Y0 | apply Y1 | exact Y2 | apply Y3 | ((first | apply Y4 | apply Y5); simp only [evs, Nat.reduceEqDiff, reduceIte, qn, qd, q0, q1, q5, q6] <;> rfl))); done) | (apply Hy.mk; (try simp only [evs, qn, qd, q0, q1, q5, q6]); first | exact w5 | exact hupd | assumption) | (apply Om.mk; first | exact w5 | exact hupd) | (apply Y6; (try simp only [evs, qn, qd, q0, q1, q5, q6]); first | rfl) | apply Cn.mk))
  intro m4 mp4 o4 n4
  simp only [evs] at o4 n4
  (repeat (first | (apply G.h; constructor <;> (first | exact Zc | apply gI | ((repeat' (first | exact Y0 | apply Y1 | ((first | apply Y4 | apply Y5); simp only [evs, Nat.reduceEqDiff, reduceIte, qn, qd, q0, q1, q5, q6] <;> rfl))); done) | (apply Y6; (try simp only [evs, qn, qd, q0, q1, q5, q6]); first | rfl)))))
  (refine g_finN (by first | exact Rs.nil | skip) (by (simp only [evs, Nat.reduceEqDiff, reduceIte, qn, qd, q0, q1, q5, q6] <;> first | rfl | (congr 1; omega) | omega)) ?_)
  simp only [evs]
  obtain ⟨h4, k4⟩ := w6 m4 x.text S.decls.length mp4 o4 n4
  exact ⟨dB3, V3, h4, (prefix_one dB nb).trans p3, ((k1.mono (by simp)).trans (k2.mono (by simp))).trans (k3.trans (k4.mono (by simp)))⟩
end
end Go.Proofs.YtihokakelnfdgaaDoor

namespace Go.Proofs.YtihokakelnfdgaaDoor
open Go Go.Ev
set_option maxRecDepth 100000
set_option linter.unusedVariables false
set_option linter.unusedSimpArgs false
set_option pp.maxSteps 1500
attribute [local irreducible] quiet allocs effect wp ret wpO Runs Act.tmp Act.eval fin results Tree.set binOp loadAt storeAt target wanted cellsFrom

section
variable {A : Args} {wb f : Nat}

theorem Rep.looped {X : Nat → Prop} {m : Mem} {S : MS} {fB dB : List Nat} {V : Vs} (h : Rep X A m wb S fB dB V) {b : Nat} {bs : List Nat} {fr : Fr} {fs : List Fr} (hf : fB = b :: bs) (hS : S.frames = fr :: fs) :
  ∃ sa sn sc cb, sn = fr.scopes.length ∧ Row m b [I fr.fn, .slice sa sn sc, I fr.loops, .map (some cb)] 88 0 ∧ ∀ (m' : Mem) (g : Nat → Nat), Row m' b [I fr.fn, .slice sa sn sc, I (g fr.loops : Nat), .map (some cb)] 88 0 → (∀ x, x ≠ b → m'.get x = m.get x) → m'.next = m.next → Rep X A m' wb (S.loop g) fB dB V ∧ Keep X [88] m m' := by
 obtain ⟨mid, sv, sb, cb, F, L⟩ := h.top_ hf hS
 obtain ⟨sa, sn, scp, rfl, sl⟩ := F.sl.form (by decide)
 have hslen := F.scs.len
 refine ⟨sa, sn, scp, cb, by simp at sl; omega, F.row, fun m' g hr ho hn => ?_⟩
 have k : Keep X [88] m m' := Keep.row F.row F.bx (by decide) ho hn
 have hlow : ∀ c, c < mid → m'.get c = m.get c := fun c hc => ho c (by have := F.blo; omega)
 have hgb := L.le
 have hB : S.loop g = { S with frames := { fr with loops := g fr.loops } :: fs } := by
  unfold MS.loop MS.top; rw [hS]; rfl
 refine ⟨?_, k⟩
 rw [hB]
 refine h.with_frames k (by decide) (hlow _ (by omega)) ?_
 rw [hf, hn]
 refine ⟨mid, .slice sa sn scp, sb, cb, ⟨F.blo, F.bhi, F.bx, hr, F.sl.stay k (by decide), F.slb, F.scs.stay k (by decide) (Nat.le_refl _), F.clo, F.chi, F.cx, F.cmap.stay k (.inr (by decide)), F.nodup⟩, L.below k.1 hlow⟩

theorem nz_bump {l : List (Nat × Nat × Nat)} (h : NZ l) : NZ (bump l) := by
 cases l with
 | nil => exact h
 | cons q r =>
  obtain ⟨a, b, c⟩ := q
  intro q hq
  rcases List.mem_cons.1 hq with rfl | hq
  ·exact .inr (Nat.succ_pos b)
  ·exact h q (List.mem_cons_of_mem _ hq)
theorem nz_lp {l : List (Nat × Nat × Nat)} (h : NZ l) (g : Nat → Nat) : NZ (lp g l) := by
 cases l with
 | nil => exact h
 | cons q r =>
  obtain ⟨a, b, c⟩ := q
  intro q hq
  rcases List.mem_cons.1 hq with rfl | hq
  ·exact h (a, b, c) List.mem_cons_self
  ·exact h q (List.mem_cons_of_mem _ hq)
theorem head_same {S S' : MS} (h : frK S' = frK S) {fr : Fr} {fs : List Fr} (hfr : S.frames = fr :: fs) : ∃ f' fs', S'.frames = f' :: fs' ∧ f'.fn = fr.fn ∧ f'.scopes.length = fr.scopes.length ∧ f'.loops = fr.loops := by
 unfold frK at h
 rw [hfr] at h
 cases hS : S'.frames with
 | nil => rw [hS] at h; cases h
 | cons f' fs' =>
  rw [hS] at h
  simp only [List.map_cons, List.cons.injEq, Prod.mk.injEq] at h
  exact ⟨f', fs', rfl, h.1.1, h.1.2.1, h.1.2.2⟩

theorem plain82 (P : Prog A) (hN : NodeC A wb f) {X : Nat → Prop} {S : MS} {m : Mem} {fB dB : List Nat} {V : Vs} {b k : Nat} (x : Nd) (h : Rep X A m wb S fB dB V) (J : Inv A.l b S) (hz : NZ (frK S)) (hb : b + 1 + 2 * k ≤ 1300) (hx0 : 0 ≤ x.n) (h6 : x.kind = 6 → x.n = 2) (hD : D (A.l.drop S.pc) x.n.toNat = some k) (hk : k ≤ f) :
  Runs evEnv 82 [ptr wb, .agg ⟨x.val⟩] m fun _ m' => Done X A wb m m' fB dB (S.plain (nodeM A.l A.g f) x) := by
 obtain ⟨b0, bs, fr, fs, hfB, hfr⟩ := h.head J.ne
 have hfl := h.frs.len
 have hnI := nodeI P.prg P.le A.g f
 have hJ1 := J.nfr
 have hJ2 := J.pc
 have hple := P.le
 have hf0 := J.fr fr (by rw [hfr]; exact List.mem_cons_self)
 have hx := row_new m x.val 43 0
 have g1 : Grow m (m.new (rowObj x.val 43 0)) := (Grow.refl m).new _
 have h1 := h.grow g1
 have k1 : Keep X [83] m (m.new (rowObj x.val 43 0)) := Keep.grow g1
 refine runs_start rfl rfl rfl rfl ?_
 (repeat (first | (apply G.h; constructor <;> (first | exact Zc | apply gI | ((repeat' (first | exact Y0 | apply Y1 | ((first | apply Y4 | apply Y5); simp only [evs, Nat.reduceEqDiff, reduceIte] <;> rfl))); done) | (apply Y6; (try simp only [evs]); first | rfl)))))
 ((first | apply g_run | apply g_run0) <;> (first | ((repeat' (first | exact Y0 | apply Y1 | exact Y2 | apply Y3 | ((first | apply Y4 | apply Y5); simp only [evs, Nat.reduceEqDiff, reduceIte] <;> rfl))); done) | exact Rn.mk (top74 (by simp only [evs]; exact h1) hfB (by omega)) | apply Cn.mk))
 rintro v m1 ⟨rfl, rfl⟩
 unfold MS.plain
 by_cases hk6 : x.kind = 6
 ·rw [if_pos hk6]
  rw [h6 hk6] at hD
  have hD2 : D (A.l.drop S.pc) 2 = some k := hD
  obtain ⟨w1, w2, e1, e2, e3, e4, e5, e6⟩ := D_next hD2
  (repeat (first | (apply G.h; constructor <;> (first | exact Zc | apply gI | ((repeat' (first | exact Y0 | apply Y1 | ((first | apply Y4 | apply Y5); simp only [evs, Nat.reduceEqDiff, reduceIte] <;> rfl))); done) | (apply Y6; (try simp only [evs]); first | exact hx.load1 rfl rfl rfl)))))
  ((first | apply g_run | apply g_run0) <;> (first | ((repeat' (first | exact Y0 | apply Y1 | exact Y2 | apply Y3 | ((first | apply Y4 | apply Y5); simp only [evs, Nat.reduceEqDiff, reduceIte] <;> rfl))); done) | exact Rn.mk (kids29 P hN 1 (by simp only [evs]; exact h1) J hz (by omega) e1 (by omega)) | apply Cn.mk))
  rintro v m2 ⟨dB2, V2, h2, p2, k2⟩
  try simp only [evs] at k2
  obtain ⟨ni1, ni2, ni3⟩ := hnI S b w1 J e1 (by omega)
  replace h2 : Rep X A m2 wb (nodeM A.l A.g f S) fB dB2 V2 := h2
  generalize hS2 : nodeM A.l A.g f S = S2 at h2 ni1 ni2 ni3
  obtain ⟨f2, fs2, y1, y2, y3, y4⟩ := head_same ni2.fr hfr
  obtain ⟨sa, sn, sc, cb, z1, z2, z3⟩ := h2.looped hfB y1
  have hlo2 := (ni1.fr f2 (by rw [y1]; exact List.mem_cons_self)).2.2
  (repeat (first | (apply G.h; constructor <;> (first | exact Zc | apply gI | ((repeat' (first | exact Y0 | apply Y1 | ((first | apply Y4 | apply Y5); simp only [evs, Nat.reduceEqDiff, reduceIte] <;> rfl))); done) | (apply Y6; (try simp only [evs]); first | exact z2.load1 rfl rfl rfl)))))
  (apply g_stR <;> (first | exact Zc | apply gI | ((repeat' (first | exact Y0 | apply Y1 | exact Y2 | apply Y3 | ((first | apply Y4 | apply Y5); simp only [evs, Nat.reduceEqDiff, reduceIte] <;> rfl))); done) | (apply Hy.mk; (try simp only [evs]); first | exact z2 | assumption) | (apply Om.mk; first | exact z2) | (apply Y6; (try simp only [evs]); first | rfl) | apply Cn.mk))
  intro m3 r3 o3 n3; simp only [evs] at r3 o3 n3
  obtain ⟨h3, k3⟩ := z3 m3 (· + 1) r3 o3 n3
  have i3 := ni1.loop (· + 1) (b' := b + 2 * w1 + 1) (Nat.le_succ _) (fun n hn => by show n + 1 ≤ _; omega)
  (repeat (first | (apply G.h; constructor <;> (first | exact Zc | apply gI | ((repeat' (first | exact Y0 | apply Y1 | ((first | apply Y4 | apply Y5); simp only [evs, Nat.reduceEqDiff, reduceIte] <;> rfl))); done) | (apply Y6; (try simp only [evs]); first | rfl)))))
  have hz3 : NZ (frK (S2.loop (· + 1))) := by rw [frK_loop, ni2.fr]; exact nz_lp hz _
  have hD3 : D (A.l.drop (S2.loop (· + 1)).pc) 1 = some w2 := by show D (A.l.drop S2.pc) 1 = _; rw [ni3]; exact e2
  have hc3 := kids29 P hN 1 h3 i3 hz3 (by omega) hD3 (by omega)
  ((first | apply g_run | apply g_run0) <;> (first | ((repeat' (first | exact Y0 | apply Y1 | exact Y2 | apply Y3 | ((first | apply Y4 | apply Y5); simp only [evs, Nat.reduceEqDiff, reduceIte] <;> rfl))); done) | exact Rn.mk ((by simp only [evs]; exact hc3)) | apply Cn.mk))
  rintro v m4 ⟨dB4, V4, h4, p4, k4⟩
  try simp only [evs] at k4
  obtain ⟨nj1, nj2, nj3⟩ := hnI (S2.loop (· + 1)) _ w2 i3 (by show D (A.l.drop S2.pc) 1 = _; rw [ni3]; exact e2) (by omega)
  replace h4 : Rep X A m4 wb (nodeM A.l A.g f (S2.loop (· + 1))) fB dB4 V4 := h4
  generalize hS4 : nodeM A.l A.g f (S2.loop (· + 1)) = S4 at h4 nj1 nj2 nj3
  have hfk4 : frK S4 = lp (· + 1) (frK S2) := by rw [nj2.fr, frK_loop]
  obtain ⟨f4, fs4, u1, u2, u3, u4⟩ := head_same (S := S2.loop (· + 1)) nj2.fr (fr := { f2 with loops := f2.loops + 1 }) (fs := fs2) (by unfold MS.loop MS.top; rw [y1]; rfl)
  simp only at u4
  obtain ⟨sa4, sn4, sc4, cb4, t1, t2, t3⟩ := h4.looped hfB u1
  have hlo4 := (nj1.fr f4 (by rw [u1]; exact List.mem_cons_self)).2.2
  (repeat (first | (apply G.h; constructor <;> (first | exact Zc | apply gI | ((repeat' (first | exact Y0 | apply Y1 | ((first | apply Y4 | apply Y5); simp only [evs, Nat.reduceEqDiff, reduceIte] <;> rfl))); done) | (apply Y6; (try simp only [evs]); first | exact t2.load1 rfl rfl rfl)))))
  (apply g_stR <;> (first | exact Zc | apply gI | ((repeat' (first | exact Y0 | apply Y1 | exact Y2 | apply Y3 | ((first | apply Y4 | apply Y5); simp only [evs, Nat.reduceEqDiff, reduceIte] <;> rfl))); done) | (apply Hy.mk; (try simp only [evs]); first | exact t2 | assumption) | (apply Om.mk; first | exact t2) | (apply Y6; (try simp only [evs]); first | rfl) | apply Cn.mk))
  intro m5 r5 o5 n5; simp only [evs] at r5 o5 n5
  obtain ⟨h5, k5⟩ := t3 m5 (· - 1) r5 o5 n5
  (repeat (first | (apply G.h; constructor <;> (first | exact Zc | apply gI | ((repeat' (first | exact Y0 | apply Y1 | ((first | apply Y4 | apply Y5); simp only [evs, Nat.reduceEqDiff, reduceIte] <;> rfl))); done) | (apply Y6; (try simp only [evs]); first | rfl)))))
  (refine g_fin (by repeat' first | exact Rs.nil | apply Rs.cons | (apply Y4; simp only [evs, Nat.reduceEqDiff, reduceIte] <;> rfl)) (by (simp only [evs, Nat.reduceEqDiff, reduceIte] <;> first | rfl | (congr 1; omega) | omega)) ?_)
  simp only [evs]
  exact ⟨dB4, V4, h5, p2.trans p4, (((k1.mono (by simp)).trans k2).trans (k3.mono (by simp))).trans (k4.trans (k5.mono (by simp)))⟩
 ·rw [if_neg hk6]
  simp only
  generalize hS1 : (if x.kind = 7 ∨ x.kind = 8 then S.failIf (decide (S.topLoops = 0)) 6 x.pos else if x.kind = 9 then S.failIf (decide (S.topFn = 0)) 6 x.pos else S) = S1
  refine ewpO_cut0 (fun a => (a.n = 54 ∧ a.defers = [] ∧ a.tmp 0 = ptr wb ∧ a.tmp 3 = ptr m.next ∧ a.tmp 4 = ptr b0) ∧ Row a.m m.next x.val 43 0 ∧ Rep X A a.m wb S fB dB V ∧ Keep X [83] m a.m) ?_ ?_
  ·(repeat (first | (apply G.h; constructor <;> (first | exact Zc | apply gI | ((repeat' (first | exact Y0 | apply Y1 | ((first | apply Y4 | apply Y5); simp only [evs, Nat.reduceEqDiff, reduceIte] <;> rfl))); done) | (apply Y6; (try simp only [evs]); first | rfl)))))
   refine eret_nil ⟨rfl, (by refine ⟨?_, ?_, ?_, ?_, ?_⟩ <;> (simp only [evs, Nat.reduceEqDiff, reduceIte] <;> first | rfl | (congr 1; omega) | omega)), ?_, ?_, ?_⟩
   ·simp only [evs]; exact hx
   ·simp only [evs]; exact h1
   ·simp only [evs]; exact k1
  rintro a ⟨⟨qn, qd, q0, q3, q4⟩, rx, h2, k2⟩
  apply eret_seq
  apply ewp_seq
  refine ewp_cut (fun a => (a.n = 54 ∧ a.defers = [] ∧ a.tmp 0 = ptr wb ∧ a.tmp 3 = ptr m.next) ∧ Row a.m m.next x.val 43 0 ∧ Rep X A a.m wb S1 fB dB V ∧ Keep X [83] m a.m) ?_ ?_
  ·obtain ⟨sa, sn, sc, cb, z1, z2, z3⟩ := h2.looped hfB hfr
   have hl0 : S.topLoops = fr.loops := by unfold MS.topLoops; rw [hfr]
   have hf1 : S.topFn = fr.fn := by unfold MS.topFn; rw [hfr]
   rw [hl0, hf1] at hS1
   have fin0 : ∀ (a' : Ev.Act), a'.n = 54 → a'.defers = [] → a'.tmp 0 = ptr wb → a'.tmp 3 = ptr m.next → a'.m = a.m → S = S1 → (Ex.normal = Ex.normal ∧ (a'.n = 54 ∧ a'.defers = [] ∧ a'.tmp 0 = ptr wb ∧ a'.tmp 3 = ptr m.next) ∧ Row a'.m m.next x.val 43 0 ∧ Rep X A a'.m wb S1 fB dB V ∧ Keep X [83] m a'.m) := by
    intro a' t1 t2 t3 t4 t5 t6
    rw [t5, ← t6]; exact ⟨rfl, ⟨t1, t2, t3, t4⟩, rx, h2, k2⟩
   have fin1 : ∀ (a' : Ev.Act) (m' : Mem), a'.n = 54 → a'.defers = [] → a'.tmp 0 = ptr wb → a'.tmp 3 = ptr m.next → a'.m = m' → S.fail 6 x.pos = S1 → Rep X A m' wb (S.fail 6 x.pos) fB dB V → Keep X [83] a.m m' → (Ex.normal = Ex.normal ∧ (a'.n = 54 ∧ a'.defers = [] ∧ a'.tmp 0 = ptr wb ∧ a'.tmp 3 = ptr m.next) ∧ Row a'.m m.next x.val 43 0 ∧ Rep X A a'.m wb S1 fB dB V ∧ Keep X [83] m a'.m) := by
    intro a' m' t1 t2 t3 t4 t5 t6 t7 t8
    subst t5
    rw [← t6]; exact ⟨rfl, ⟨t1, t2, t3, t4⟩, rx.stay t8 (.inr (by decide)), t7, k2.trans t8⟩
   by_cases h78 : x.kind = 7 ∨ x.kind = 8
   ·rw [if_pos h78] at hS1
    have h78' : x.kind = 7 ∨ (x.kind ≠ 7 ∧ x.kind = 8) := by omega
    by_cases hlo : fr.loops = 0
    ·rw [decide_eq_true hlo] at hS1
     rcases h78' with h7 | ⟨h70, h8⟩
     all_goals
      (repeat (first | (apply G.h; constructor <;> (first | exact Zc | apply gI | ((repeat' (first | exact Y0 | apply Y1 | ((first | apply Y4 | apply Y5); simp only [evs, Nat.reduceEqDiff, reduceIte, qn, qd, q0, q3, q4] <;> rfl))); done) | (apply Y6; (try simp only [evs, qn, qd, q0, q3, q4]); first | exact rx.load1 rfl rfl rfl | exact z2.load1 rfl rfl rfl | exact rx.loadA rfl rfl rfl (Nat.le_refl 5) rfl)))))
      ((first | apply g_run | apply g_run0) <;> (first | ((repeat' (first | exact Y0 | apply Y1 | exact Y2 | apply Y3 | ((first | apply Y4 | apply Y5); simp only [evs, Nat.reduceEqDiff, reduceIte, qn, qd, q0, q3, q4] <;> rfl))); done) | exact Rn.mk (fail90 (e := 6) (x := x) (by simp only [evs]; exact h2)) | apply Cn.mk))
      rintro v m3 ⟨h3, k3⟩
      try simp only [evs] at k3
      (repeat (first | (apply G.h; constructor <;> (first | exact Zc | apply gI | ((repeat' (first | exact Y0 | apply Y1 | ((first | apply Y4 | apply Y5); simp only [evs, Nat.reduceEqDiff, reduceIte, qn, qd, q0, q3, q4] <;> rfl))); done) | (apply Y6; (try simp only [evs, qn, qd, q0, q3, q4]); first | rfl)))))
      exact eret_nil (fin1 _ m3 (by (simp only [evs, Nat.reduceEqDiff, reduceIte, qn, qd, q0, q3, q4] <;> first | rfl | (congr 1; omega) | omega)) (by (simp only [evs, Nat.reduceEqDiff, reduceIte, qn, qd, q0, q3, q4] <;> first | rfl | (congr 1; omega) | omega)) (by (simp only [evs, Nat.reduceEqDiff, reduceIte, qn, qd, q0, q3, q4] <;> first | rfl | (congr 1; omega) | omega)) (by (simp only [evs, Nat.reduceEqDiff, reduceIte, qn, qd, q0, q3, q4] <;> first | rfl | (congr 1; omega) | omega)) (by (simp only [evs, Nat.reduceEqDiff, reduceIte, qn, qd, q0, q3, q4] <;> first | rfl | (congr 1; omega) | omega)) hS1 h3 k3)
    ·rw [decide_eq_false hlo] at hS1
     rcases h78' with h7 | ⟨h70, h8⟩
     all_goals
      (repeat (first | (apply G.h; constructor <;> (first | exact Zc | apply gI | ((repeat' (first | exact Y0 | apply Y1 | ((first | apply Y4 | apply Y5); simp only [evs, Nat.reduceEqDiff, reduceIte, qn, qd, q0, q3, q4] <;> rfl))); done) | (apply Y6; (try simp only [evs, qn, qd, q0, q3, q4]); first | exact rx.load1 rfl rfl rfl | exact z2.load1 rfl rfl rfl)))))
      exact eret_nil (fin0 _ (by (simp only [evs, Nat.reduceEqDiff, reduceIte, qn, qd, q0, q3, q4] <;> first | rfl | (congr 1; omega) | omega)) (by (simp only [evs, Nat.reduceEqDiff, reduceIte, qn, qd, q0, q3, q4] <;> first | rfl | (congr 1; omega) | omega)) (by (simp only [evs, Nat.reduceEqDiff, reduceIte, qn, qd, q0, q3, q4] <;> first | rfl | (congr 1; omega) | omega)) (by (simp only [evs, Nat.reduceEqDiff, reduceIte, qn, qd, q0, q3, q4] <;> first | rfl | (congr 1; omega) | omega)) (by (simp only [evs, Nat.reduceEqDiff, reduceIte, qn, qd, q0, q3, q4] <;> first | rfl | (congr 1; omega) | omega)) hS1)
   ·rw [if_neg h78] at hS1
    have h7 : x.kind ≠ 7 := by omega
    have h8 : x.kind ≠ 8 := by omega
    by_cases h9 : x.kind = 9
    ·rw [if_pos h9] at hS1
     by_cases hlo : fr.fn = 0
     ·rw [decide_eq_true hlo] at hS1
      (repeat (first | (apply G.h; constructor <;> (first | exact Zc | apply gI | ((repeat' (first | exact Y0 | apply Y1 | ((first | apply Y4 | apply Y5); simp only [evs, Nat.reduceEqDiff, reduceIte, qn, qd, q0, q3, q4] <;> rfl))); done) | (apply Y6; (try simp only [evs, qn, qd, q0, q3, q4]); first | exact rx.load1 rfl rfl rfl | exact z2.load1 rfl rfl rfl | exact rx.loadA rfl rfl rfl (Nat.le_refl 5) rfl)))))
      ((first | apply g_run | apply g_run0) <;> (first | ((repeat' (first | exact Y0 | apply Y1 | exact Y2 | apply Y3 | ((first | apply Y4 | apply Y5); simp only [evs, Nat.reduceEqDiff, reduceIte, qn, qd, q0, q3, q4] <;> rfl))); done) | exact Rn.mk (fail90 (e := 6) (x := x) (by simp only [evs]; exact h2)) | apply Cn.mk))
      rintro v m3 ⟨h3, k3⟩
      try simp only [evs] at k3
      (repeat (first | (apply G.h; constructor <;> (first | exact Zc | apply gI | ((repeat' (first | exact Y0 | apply Y1 | ((first | apply Y4 | apply Y5); simp only [evs, Nat.reduceEqDiff, reduceIte, qn, qd, q0, q3, q4] <;> rfl))); done) | (apply Y6; (try simp only [evs, qn, qd, q0, q3, q4]); first | rfl)))))
      exact eret_nil (fin1 _ m3 (by (simp only [evs, Nat.reduceEqDiff, reduceIte, qn, qd, q0, q3, q4] <;> first | rfl | (congr 1; omega) | omega)) (by (simp only [evs, Nat.reduceEqDiff, reduceIte, qn, qd, q0, q3, q4] <;> first | rfl | (congr 1; omega) | omega)) (by (simp only [evs, Nat.reduceEqDiff, reduceIte, qn, qd, q0, q3, q4] <;> first | rfl | (congr 1; omega) | omega)) (by (simp only [evs, Nat.reduceEqDiff, reduceIte, qn, qd, q0, q3, q4] <;> first | rfl | (congr 1; omega) | omega)) (by (simp only [evs, Nat.reduceEqDiff, reduceIte, qn, qd, q0, q3, q4] <;> first | rfl | (congr 1; omega) | omega)) hS1 h3 k3)
     ·rw [decide_eq_false hlo] at hS1
      (repeat (first | (apply G.h; constructor <;> (first | exact Zc | apply gI | ((repeat' (first | exact Y0 | apply Y1 | ((first | apply Y4 | apply Y5); simp only [evs, Nat.reduceEqDiff, reduceIte, qn, qd, q0, q3, q4] <;> rfl))); done) | (apply Y6; (try simp only [evs, qn, qd, q0, q3, q4]); first | exact rx.load1 rfl rfl rfl | exact z2.load1 rfl rfl rfl)))))
      exact eret_nil (fin0 _ (by (simp only [evs, Nat.reduceEqDiff, reduceIte, qn, qd, q0, q3, q4] <;> first | rfl | (congr 1; omega) | omega)) (by (simp only [evs, Nat.reduceEqDiff, reduceIte, qn, qd, q0, q3, q4] <;> first | rfl | (congr 1; omega) | omega)) (by (simp only [evs, Nat.reduceEqDiff, reduceIte, qn, qd, q0, q3, q4] <;> first | rfl | (congr 1; omega) | omega)) (by (simp only [evs, Nat.reduceEqDiff, reduceIte, qn, qd, q0, q3, q4] <;> first | rfl | (congr 1; omega) | omega)) (by (simp only [evs, Nat.reduceEqDiff, reduceIte, qn, qd, q0, q3, q4] <;> first | rfl | (congr 1; omega) | omega)) hS1)
    ·rw [if_neg h9] at hS1
     (repeat (first | (apply G.h; constructor <;> (first | exact Zc | apply gI | ((repeat' (first | exact Y0 | apply Y1 | ((first | apply Y4 | apply Y5); simp only [evs, Nat.reduceEqDiff, reduceIte, qn, qd, q0, q3, q4] <;> rfl))); done) | (apply Y6; (try simp only [evs, qn, qd, q0, q3, q4]); first | exact rx.load1 rfl rfl rfl | exact z2.load1 rfl rfl rfl)))))
     exact eret_nil (fin0 _ (by (simp only [evs, Nat.reduceEqDiff, reduceIte, qn, qd, q0, q3, q4] <;> first | rfl | (congr 1; omega) | omega)) (by (simp only [evs, Nat.reduceEqDiff, reduceIte, qn, qd, q0, q3, q4] <;> first | rfl | (congr 1; omega) | omega)) (by (simp only [evs, Nat.reduceEqDiff, reduceIte, qn, qd, q0, q3, q4] <;> first | rfl | (congr 1; omega) | omega)) (by (simp only [evs, Nat.reduceEqDiff, reduceIte, qn, qd, q0, q3, q4] <;> first | rfl | (congr 1; omega) | omega)) (by (simp only [evs, Nat.reduceEqDiff, reduceIte, qn, qd, q0, q3, q4] <;> first | rfl | (congr 1; omega) | omega)) hS1)
  clear rx h2 k2 qn qd q0 q3 q4
  rintro a2 ⟨⟨qn, qd, q0, q3⟩, rx, h2, k2⟩
  have key : Inv A.l b S1 ∧ Sh S S1 ∧ S1.pc = S.pc := by
   rw [← hS1]
   split
   ·exact ⟨J.failIf _ _ _, Sh.failIf S _ _ _, (failIf_rest S _ _ _).2.2.2.2.2.2⟩
   ·split
    ·exact ⟨J.failIf _ _ _, Sh.failIf S _ _ _, (failIf_rest S _ _ _).2.2.2.2.2.2⟩
    ·exact ⟨J, Sh.refl S, rfl⟩
  obtain ⟨y1, y2, y3⟩ := key
  have hxn : x.n = ((x.n.toNat : Nat) : Int) := by omega
  have hc := kids29 P hN x.n.toNat h2 y1 (by rw [y2.fr]; exact hz) (by omega) (by rw [y3]; exact hD) hk
  rw [← hxn] at hc
  (repeat (first | (apply G.h; constructor <;> (first | exact Zc | apply gI | ((repeat' (first | exact Y0 | apply Y1 | ((first | apply Y4 | apply Y5); simp only [evs, Nat.reduceEqDiff, reduceIte, qn, qd, q0, q3] <;> rfl))); done) | (apply Y6; (try simp only [evs, qn, qd, q0, q3]); first | exact rx.load1 rfl rfl rfl)))))
  ((first | apply g_run | apply g_run0) <;> (first | ((repeat' (first | exact Y0 | apply Y1 | exact Y2 | apply Y3 | ((first | apply Y4 | apply Y5); simp only [evs, Nat.reduceEqDiff, reduceIte, qn, qd, q0, q3] <;> rfl))); done) | exact Rn.mk ((by simp only [evs]; exact hc)) | apply Cn.mk))
  rintro v m3 hd3
  (repeat (first | (apply G.h; constructor <;> (first | exact Zc | apply gI | ((repeat' (first | exact Y0 | apply Y1 | ((first | apply Y4 | apply Y5); simp only [evs, Nat.reduceEqDiff, reduceIte, qn, qd, q0, q3] <;> rfl))); done) | (apply Y6; (try simp only [evs, qn, qd, q0, q3]); first | rfl)))))
  (refine g_finN (by first | exact Rs.nil | skip) (by (simp only [evs, Nat.reduceEqDiff, reduceIte, qn, qd, q0, q3] <;> first | rfl | (congr 1; omega) | omega)) ?_)
  simp only [evs]
  exact Done.next k2 (by simp) (List.prefix_refl _) hd3
end
end Go.Proofs.YtihokakelnfdgaaDoor

namespace Go.Proofs.YtihokakelnfdgaaDoor
open Go Go.Ev
set_option maxRecDepth 100000
set_option linter.unusedVariables false
set_option linter.unusedSimpArgs false
set_option pp.maxSteps 1500
attribute [local irreducible] quiet allocs effect wp ret wpO Runs Act.tmp Act.eval fin results Tree.set binOp loadAt storeAt target wanted cellsFrom

section
variable {A : Args} {wb f : Nat}
theorem frames_enter {S : MS} {fr : Fr} {fs : List Fr} (h : S.frames = fr :: fs) : S.enter.frames = { fr with scopes := [] :: fr.scopes } :: fs := by unfold MS.enter MS.top; rw [h]; rfl

theorem try81 (P : Prog A) (hN : NodeC A wb f) {X : Nat → Prop} {S : MS} {m : Mem} {fB dB : List Nat} {V : Vs} {b k p : Nat} (h : Rep X A m wb S fB dB V) (J : Inv A.l b S) (hz : NZ (frK S)) (hp : p < A.l.length) (hb : b + 2 + 2 * k ≤ 1300) (hD : D (A.l.drop S.pc) 2 = some k) (hk : k ≤ f) :
  Runs evEnv 81 [ptr wb, I p, .agg ⟨A.l[p].val⟩] m fun _ m' => Done X A wb m m' fB dB (S.try_ (nodeM A.l A.g f) p A.l[p]) := by
 obtain ⟨b0, bs, fr, fs, hfB, hfr⟩ := h.head J.ne
 have hfl := h.frs.len
 have hnI := nodeI P.prg P.le A.g f
 have hJ1 := J.nfr
 have hJ2 := J.pc
 have hple := P.le
 have hf0 := J.fr fr (by rw [hfr]; exact List.mem_cons_self)
 obtain ⟨w1, w2, e1, e2, e3, e4, e5, e6⟩ := D_next hD
 have hx := row_new m A.l[p].val 43 0
 have g1 : Grow m (m.new (rowObj A.l[p].val 43 0)) := (Grow.refl m).new _
 have h1 := h.grow g1
 have k1 : Keep X [] m (m.new (rowObj A.l[p].val 43 0)) := Keep.grow g1
 have JE := J.enter
 have hfrE := frames_enter hfr
 have hzE : NZ (frK S.enter) := by rw [frK_enter]; exact nz_bump hz
 obtain ⟨di1, di2, di3, di4, di5, di6⟩ := JE.declare A.l[p].text p A.l[p].pos
 have hdeclE := fun (X : Nat → Prop) (m : Mem) (h : Rep X A m wb S.enter fB dB V) => declare79 h hfB hfrE rfl (by omega) (by simp only [List.length_cons]; omega) hf0.1 (by have := slots_bd JE fr.fn; simp only at this ⊢; omega) (by rw [h.decls.1]; exact JE.refs) JE.means A.l[p].text p hp
 generalize hxx : A.l[p] = x at hx g1 h1 k1 di1 di2 di3 di4 di5 di6 hdeclE
 refine runs_start rfl rfl rfl rfl ?_
 (repeat (first | (apply G.h; constructor <;> (first | exact Zc | apply gI | ((repeat' (first | exact Y0 | apply Y1 | ((first | apply Y4 | apply Y5); simp only [evs, Nat.reduceEqDiff, reduceIte] <;> rfl))); done) | (apply Y6; (try simp only [evs]); first | rfl)))))
 ((first | apply g_run | apply g_run0) <;> (first | ((repeat' (first | exact Y0 | apply Y1 | exact Y2 | apply Y3 | ((first | apply Y4 | apply Y5); simp only [evs, Nat.reduceEqDiff, reduceIte] <;> rfl))); done) | exact Rn.mk (top74 (by simp only [evs]; exact h1) hfB (by omega)) | apply Cn.mk))
 rintro v m1 ⟨rfl, rfl⟩
 (repeat (first | (apply G.h; constructor <;> (first | exact Zc | apply gI | ((repeat' (first | exact Y0 | apply Y1 | ((first | apply Y4 | apply Y5); simp only [evs, Nat.reduceEqDiff, reduceIte] <;> rfl))); done) | (apply Y6; (try simp only [evs]); first | rfl)))))
 ((first | apply g_run | apply g_run0) <;> (first | ((repeat' (first | exact Y0 | apply Y1 | exact Y2 | apply Y3 | ((first | apply Y4 | apply Y5); simp only [evs, Nat.reduceEqDiff, reduceIte] <;> rfl))); done) | exact Rn.mk (enter76 (by simp only [evs]; exact h1) hfB hfr (by omega) (by omega)) | apply Cn.mk))
 rintro v m2 ⟨kk, rfl, hkk, rk2, h2, k2⟩
 try simp only [evs] at k2
 replace k2 : Keep X [137, 88] (m.new (rowObj x.val 43 0)) m2 := k2
 have rx2 := hx.stay k2 (.inr (by decide))
 (repeat (first | (apply G.h; constructor <;> (first | exact Zc | apply gI | ((repeat' (first | exact Y0 | apply Y1 | ((first | apply Y4 | apply Y5); simp only [evs, Nat.reduceEqDiff, reduceIte] <;> rfl))); done) | (apply Y6; (try simp only [evs]); first | exact rx2.load1 rfl rfl rfl)))))
 ((first | apply g_run | apply g_run0) <;> (first | ((repeat' (first | exact Y0 | apply Y1 | exact Y2 | apply Y3 | ((first | apply Y4 | apply Y5); simp only [evs, Nat.reduceEqDiff, reduceIte] <;> rfl))); done) | exact Rn.mk ((by simp only [evs]; exact hdeclE _ _ h2)) | apply Cn.mk))
 rintro v m3 ⟨nb, rfl, hnb, h3, k3⟩
 try simp only [evs] at k3
 replace k3 : Keep (plus X kk) [83, 49, 90] m2 m3 := k3
 have rk3 := rk2.stay k3 (.inl (.inr rfl))
 have rx3 := rx2.stay k3 (.inr (by decide))
 have hdB := h2.decls.1
 have hc1 := kids29 (k := w1) P hN 1 h3 di1 (by rw [di2.fr]; exact hzE) (by omega) (by rw [di3]; exact e1) (by omega)
 (repeat (first | (apply G.h; constructor <;> (first | exact Zc | apply gI | ((repeat' (first | exact Y0 | apply Y1 | ((first | apply Y4 | apply Y5); simp only [evs, Nat.reduceEqDiff, reduceIte] <;> rfl))); done) | (apply Y6; (try simp only [evs]); first | rfl)))))
 ((first | apply g_run | apply g_run0) <;> (first | ((repeat' (first | exact Y0 | apply Y1 | exact Y2 | apply Y3 | ((first | apply Y4 | apply Y5); simp only [evs, Nat.reduceEqDiff, reduceIte] <;> rfl))); done) | exact Rn.mk ((by simp only [evs]; exact hc1)) | apply Cn.mk))
 rintro v m4 ⟨dB4, V4, h4, p4, k4⟩
 try simp only [evs] at k4
 replace k4 : Keep (plus X kk) TT m3 m4 := k4
 obtain ⟨ni1, ni2, ni3⟩ := hnI (S.enter.declare x.text p x.pos) _ w1 di1 (by rw [di3]; exact e1) (by omega)
 have hsh := di2.trans ni2
 have hdcl := ni2.declFn di5
 replace h4 : Rep (plus X kk) A m4 wb (nodeM A.l A.g f (S.enter.declare x.text p x.pos)) fB dB4 V4 := h4
 generalize hS4 : nodeM A.l A.g f (S.enter.declare x.text p x.pos) = S4 at h4 ni1 ni2 ni3 hsh hdcl
 obtain ⟨f4, fs4, y1, y2, y3, y4⟩ := head_same hsh.fr hfrE
 simp only [List.length_cons] at y3
 obtain ⟨sc4, scr4, hsc4⟩ : ∃ sc scr, f4.scopes = sc :: scr := by
  cases hh : f4.scopes with
  | nil => rw [hh, List.length_nil] at y3; omega
  | cons sc scr => exact ⟨sc, scr, rfl⟩
 obtain ⟨c0, cap, r, n, s0, cb4, u1, u2, u3, u4, u5, u6⟩ := h4.bound hfB y1 hsc4
 have rx4 := rx3.stay k4 (.inr (by decide))
 have rk4 := rk3.stay k4 (.inl (.inr rfl))
 have u3' : r[0 + (n + 1 - 1) * 1]? = some (.map (some s0)) := by rw [show 0 + (n + 1 - 1) * 1 = n by omega]; exact u3
 have hdp : dptr dB4 S.enter.decls.length = ptr nb := by rw [← hdB]; exact dptr_pre p4
 have hupd := upd_str (g := dptr dB4) m4 x.text S.enter.decls.length sc4
 rw [hdp] at hupd
 (repeat (first | (apply G.h; constructor <;> (first | exact Zc | apply gI | ((repeat' (first | exact Y0 | apply Y1 | ((first | apply Y4 | apply Y5); simp only [evs, Nat.reduceEqDiff, reduceIte] <;> rfl))); done) | (apply Y6; (try simp only [evs]); first | exact u1.load1 rfl rfl rfl | exact u2.load1 rfl rfl u3' | exact rx4.load1 rfl rfl rfl)))))
 (apply g_update <;> (first | exact Zc | apply gI | ((repeat' (first | exact Y0 | apply Y1 | exact Y2 | apply Y3 | ((first | apply Y4 | apply Y5); simp only [evs, Nat.reduceEqDiff, reduceIte] <;> rfl))); done) | (apply Hy.mk; (try simp only [evs]); first | exact u5 | exact hupd | assumption) | (apply Om.mk; first | exact u5 | exact hupd) | (apply Y6; (try simp only [evs]); first | rfl) | apply Cn.mk))
 intro m5 mp5 o5 n5
 try simp only [evs] at o5 n5
 obtain ⟨h5, k5⟩ := u6 m5 x.text S.enter.decls.length mp5 o5 n5
 obtain ⟨bi1, bi2, bi3⟩ := ni1.bind x.text (d := S.enter.decls.length) hdcl.2 (by rw [hdcl.1, di6]; exact (topFn_frK hsh.fr).1.symm)
 have rk5 := rk4.stay k5 (.inr (by decide))
 have hc2 := kids29 (k := w2) P hN 1 h5 bi1 (by rw [bi2.fr, hsh.fr]; exact hzE) (by omega) (by rw [bi3, ni3, di3]; exact e2) (by omega)
 (repeat (first | (apply G.h; constructor <;> (first | exact Zc | apply gI | ((repeat' (first | exact Y0 | apply Y1 | ((first | apply Y4 | apply Y5); simp only [evs, Nat.reduceEqDiff, reduceIte] <;> rfl))); done) | (apply Y6; (try simp only [evs]); first | rfl)))))
 ((first | apply g_run | apply g_run0) <;> (first | ((repeat' (first | exact Y0 | apply Y1 | exact Y2 | apply Y3 | ((first | apply Y4 | apply Y5); simp only [evs, Nat.reduceEqDiff, reduceIte] <;> rfl))); done) | exact Rn.mk ((by simp only [evs]; exact hc2)) | apply Cn.mk))
 rintro v m6 ⟨dB6, V6, h6, p6, k6⟩
 try simp only [evs] at k6
 replace k6 : Keep (plus X kk) TT m5 m6 := k6
 obtain ⟨nj1, nj2, nj3⟩ := hnI (S4.bind x.text S.enter.decls.length) _ w2 bi1 (by rw [bi3, ni3, di3]; exact e2) (by omega)
 have hsh6 := (hsh.trans bi2).trans nj2
 replace h6 : Rep (plus X kk) A m6 wb (nodeM A.l A.g f (S4.bind x.text S.enter.decls.length)) fB dB6 V6 := h6
 have hgoal : S.try_ (nodeM A.l A.g f) p x = (nodeM A.l A.g f (S4.bind x.text S.enter.decls.length)).leave := by unfold MS.try_; rw [hS4]; rfl
 rw [hgoal]
 generalize hS6 : nodeM A.l A.g f (S4.bind x.text S.enter.decls.length) = S6 at h6 nj1 nj2 nj3 hsh6
 obtain ⟨f6, fs6, z1, z2, z3, z4⟩ := head_same hsh6.fr hfrE
 simp only [List.length_cons] at z3
 have rk6 := rk5.stay k6 (.inl (.inr rfl))
 have hb6 := (nj1.fr f6 (by rw [z1]; exact List.mem_cons_self)).2.1
 have hlv := (leave94 h6 hfB z1 (.inr rfl) rk6 (by omega) (by intro hh; rw [hh, List.length_nil] at z3; omega)).2
 (repeat (first | (apply G.h; constructor <;> (first | exact Zc | apply gI | ((repeat' (first | exact Y0 | apply Y1 | ((first | apply Y4 | apply Y5); simp only [evs, Nat.reduceEqDiff, reduceIte] <;> rfl))); done) | (apply Y6; (try simp only [evs]); first | rfl)))))
 ((first | apply g_run | apply g_run0) <;> (first | ((repeat' (first | exact Y0 | apply Y1 | exact Y2 | apply Y3 | ((first | apply Y4 | apply Y5); simp only [evs, Nat.reduceEqDiff, reduceIte] <;> rfl))); done) | exact Rn.mk ((by simp only [evs]; exact hlv)) | apply Cn.mk))
 rintro v m7 ⟨h7, k7⟩
 try simp only [evs] at k7
 replace k7 : Keep (plus X kk) [88] m6 m7 := k7
 (repeat (first | (apply G.h; constructor <;> (first | exact Zc | apply gI | ((repeat' (first | exact Y0 | apply Y1 | ((first | apply Y4 | apply Y5); simp only [evs, Nat.reduceEqDiff, reduceIte] <;> rfl))); done) | (apply Y6; (try simp only [evs]); first | rfl)))))
 (refine g_finN (by first | exact Rs.nil | skip) (by (simp only [evs, Nat.reduceEqDiff, reduceIte] <;> first | rfl | (congr 1; omega) | omega)) ?_)
 simp only [evs]
 have sub : ∀ b, X b → plus X kk b := fun b hb => .inl hb
 exact ⟨dB6, V6, h7.less h.x0 h.xn, ((prefix_one dB nb).trans p4).trans p6, ((((k1.mono (by simp)).trans (k2.mono (by simp))).trans ((k3.sub sub).mono (by simp))).trans (k4.sub sub)).trans ((((k5.sub sub).mono (by simp)).trans (k6.sub sub)).trans ((k7.sub sub).mono (by simp)))⟩
end
end Go.Proofs.YtihokakelnfdgaaDoor
