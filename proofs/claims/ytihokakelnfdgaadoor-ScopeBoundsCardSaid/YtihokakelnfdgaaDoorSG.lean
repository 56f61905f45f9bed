/- Part of a verified evaluator of the model's programs and of runs by it: SQ7 SR7 SQ8. -/
import Derived.Test.YtihokakelnfdgaaDoorSF
namespace Go.Proofs.YtihokakelnfdgaaDoor
open Go Go.Ev
set_option maxRecDepth 100000
set_option linter.unusedVariables false
set_option linter.unusedSimpArgs false
set_option pp.maxSteps 1500
attribute [local irreducible] quiet allocs effect wp ret wpO Runs Act.tmp Act.eval fin results Tree.set binOp loadAt storeAt target wanted cellsFrom

section
variable {X : Nat → Prop} {A : Args} {wb : Nat} {S : MS} {fB dB : List Nat} {V : Vs} {m : Mem}

theorem findSc_drop (s : Bs) : ∀ (scs : List (List (Bs × Nat))) (k : Nat), (∀ i sc, i < k → scs[i]? = some sc → look s sc = none) → findSc s scs = findSc s (scs.drop k)
 | scs, 0, _ => rfl
 | [], k + 1, _ => rfl
 | sc :: scs, k + 1, h => by
  rw [findSc, h 0 sc (by omega) rfl, List.drop_succ_cons]
  exact findSc_drop s scs k fun i sc' hi hg => h (i + 1) sc' (by omega) (by simpa using hg)
theorem look_mem {κ : Type} [DecidableEq κ] {s : κ} {d : Nat} : ∀ {sc : List (κ × Nat)}, look s sc = some d → (s, d) ∈ sc
 | [], h => by cases h
 | (t, x) :: sc, h => by
  rw [look] at h
  by_cases ht : s = t
  ·rw [if_pos ht] at h; cases h; rw [ht]; exact List.mem_cons_self
  ·rw [if_neg ht] at h; exact List.mem_cons_of_mem _ (look_mem h)
theorem find91 (h : Rep X A m wb S fB dB V) (hs : fB.length ≤ 100000) (hR : Refs dB.length S) (hsc : ∀ f ∈ S.frames, f.scopes.length ≤ 100000) (s : Bs) :
  Runs evEnv 91 [ptr wb, encS s] m fun v m' => v = .tuple ⟨[optPtr dB ((findFr s S.frames).map (·.1)), I (((findFr s S.frames).map (·.2)).getD 0 : Nat)]⟩ ∧ m' = m := by
 have hlen := h.frs.len
 obtain ⟨fa, n, fc, fe, fl⟩ := h.frames.form (by decide)
 have hn : fB.length = n := by simp at fl; omega
 have hw := h.w
 rw [fe] at hw
 refine runs_start rfl rfl rfl rfl ?_
 (repeat (first | (apply G.h; constructor <;> (first | exact Zc | apply gI | ((repeat' (first | exact Y0 | apply Y1 | ((first | apply Y4 | apply Y5); simp only [evs, Nat.reduceEqDiff, reduceIte] <;> rfl))); done) | (apply Y6; (try simp only [evs]); first | exact hw.load1 rfl rfl rfl)))))
 refine ewp_loop (ι := Nat) (fun k a => a.n = 57 ∧ a.defers = [] ∧ a.m = m ∧ a.tmp 0 = ptr wb ∧ a.tmp 1 = encS s ∧ a.tmp 6 = I ((n : Int) - 1 - k) ∧ k ≤ n ∧ ∀ i f, i < k → S.frames[i]? = some f → findSc s f.scopes = none) (fun k => n - k) 0 ?_ ?_
 ·exact ⟨by (simp only [evs, Nat.reduceEqDiff, reduceIte] <;> first | rfl | (congr 1; omega) | omega), by (simp only [evs, Nat.reduceEqDiff, reduceIte] <;> first | rfl | (congr 1; omega) | omega), by (simp only [evs, Nat.reduceEqDiff, reduceIte] <;> first | rfl | (congr 1; omega) | omega), by (simp only [evs, Nat.reduceEqDiff, reduceIte] <;> first | rfl | (congr 1; omega) | omega), by (simp only [evs, Nat.reduceEqDiff, reduceIte] <;> first | rfl | (congr 1; omega) | omega), by (simp only [evs, Nat.reduceEqDiff, reduceIte] <;> first | rfl | (congr 1; omega) | omega), Nat.zero_le _, fun i f hi => absurd hi (Nat.not_lt_zero _)⟩
 rintro k a ⟨qn, qd, qm, q0, q1, q6, hk, hno⟩ ih
 rcases Nat.lt_or_ge k n with hlt | hge
 ·obtain ⟨b, f, mid, top, e1, e2, sv, sb, cb, F⟩ := h.frs.nth k (by omega)
  have q6' : a.tmp 6 = I ((n - 1 - k : Nat) : Int) := by rw [q6]; congr 1; omega
  have hk2 : n - 1 - k < (fB.reverse.map ptr).length := by simp; omega
  obtain ⟨rb, rcap, rr, rn, r1, r2, r3, r4, r5, r6, r7⟩ := h.frames.at hk2
  rw [fe] at r1
  cases r1
  have r8 : rr[0 + (n - 1 - k) * 1]? = some (ptr b) := by
   rw [Nat.zero_add, Nat.mul_one, r7, List.getElem?_map, ← hn, rev_get _ _ (by omega), e1]; rfl
  obtain ⟨sa, sn, scp, se, sl⟩ := F.sl.form (by decide)
  have slen := F.scs.len
  have hsn : sn = f.scopes.length := by simp at sl; omega
  have hsn2 : sn ≤ 100000 := by rw [hsn]; exact hsc f (List.mem_of_getElem? e2)
  have fr := F.row
  rw [se] at fr
  (repeat (first | (apply G.h; constructor <;> (first | exact Zc | apply gI | ((repeat' (first | exact Y0 | apply Y1 | ((first | apply Y4 | apply Y5); simp only [evs, Nat.reduceEqDiff, reduceIte, qn, qd, qm, q0, q1, q6'] <;> rfl))); done) | (apply Y6; (try simp only [evs, qn, qd, qm, q0, q1, q6']); first | exact r3.load1 rfl rfl r8 | exact fr.load1 rfl rfl rfl | exact hw.load1 rfl rfl rfl)))))
  refine ewp_loop (ι := Nat) (fun j a => a.n = 57 ∧ a.defers = [] ∧ a.m = m ∧ a.tmp 0 = ptr wb ∧ a.tmp 1 = encS s ∧ a.tmp 6 = I ((n - 1 - k : Nat) : Int) ∧ a.tmp 7 = ptr b ∧ a.tmp 8 = I ((sn : Int) - 1 - j) ∧ j ≤ sn ∧ ∀ i sc, i < j → f.scopes[i]? = some sc → look s sc = none) (fun j => sn - j) 0 ?_ ?_
  ·exact ⟨by (simp only [evs, Nat.reduceEqDiff, reduceIte, qn, qd, qm, q0, q1, q6'] <;> first | rfl | (congr 1; omega) | omega), by (simp only [evs, Nat.reduceEqDiff, reduceIte, qn, qd, qm, q0, q1, q6'] <;> first | rfl | (congr 1; omega) | omega), by (simp only [evs, Nat.reduceEqDiff, reduceIte, qn, qd, qm, q0, q1, q6'] <;> first | rfl | (congr 1; omega) | omega), by (simp only [evs, Nat.reduceEqDiff, reduceIte, qn, qd, qm, q0, q1, q6'] <;> first | rfl | (congr 1; omega) | omega), by (simp only [evs, Nat.reduceEqDiff, reduceIte, qn, qd, qm, q0, q1, q6'] <;> first | rfl | (congr 1; omega) | omega), by (simp only [evs, Nat.reduceEqDiff, reduceIte, qn, qd, qm, q0, q1, q6'] <;> first | rfl | (congr 1; omega) | omega), by (simp only [evs, Nat.reduceEqDiff, reduceIte, qn, qd, qm, q0, q1, q6'] <;> first | rfl | (congr 1; omega) | omega), by (simp only [evs, Nat.reduceEqDiff, reduceIte, qn, qd, qm, q0, q1, q6'] <;> first | rfl | (congr 1; omega) | omega), Nat.zero_le _, fun i f hi => absurd hi (Nat.not_lt_zero _)⟩
  rintro j a2 ⟨pn, pd, pm, p0, p1, p6, p7, p8, hj, hno2⟩ ih2
  rcases Nat.lt_or_ge j sn with hlt2 | hge2
  ·obtain ⟨b', sc, u1, u2, u3⟩ := F.scs.nth j (by omega)
   have p8' : a2.tmp 8 = I ((sn - 1 - j : Nat) : Int) := by rw [p8]; congr 1; omega
   have hj2 : sn - 1 - j < (sb.reverse.map fun b => Value.map (some b)).length := by omega
   obtain ⟨tb, tcap, tr, tn, t1, t2, t3, t4, t5, t6, t7⟩ := F.sl.at hj2
   rw [se] at t1
   cases t1
   have t8 : tr[0 + (sn - 1 - j) * 1]? = some (.map (some b')) := by
    have hsb : sb.length = sn := by omega
    rw [Nat.zero_add, Nat.mul_one, t7, List.getElem?_map, ← hsb, rev_get _ _ (by omega), u1]; rfl
   (repeat (first | (apply G.h; constructor <;> (first | exact Zc | apply gI | ((repeat' (first | exact Y0 | apply Y1 | ((first | apply Y4 | apply Y5); simp only [evs, Nat.reduceEqDiff, reduceIte, pn, pd, pm, p0, p1, p6, p7, p8'] <;> rfl))); done) | (apply Y6; (try simp only [evs, pn, pd, pm, p0, p1, p6, p7, p8']); first | exact t3.load1 rfl rfl t8 | exact fr.load1 rfl rfl rfl | exact hw.load1 rfl rfl rfl)))))
   have hfind := find_str (g := dptr dB) m s sc
   have hmp := u3.2
   cases hl : look s sc with
   | none =>
    rw [hl] at hfind
    replace hfind : quiet.find evEnv m 9 (encS s) (encE dB sc) = some none := hfind
    (apply g_lookup (f := none) <;> (first | exact Zc | apply gI | ((repeat' (first | exact Y0 | apply Y1 | exact Y2 | apply Y3 | ((first | apply Y4 | apply Y5); simp only [evs, Nat.reduceEqDiff, reduceIte, pn, pd, pm, p0, p1, p6, p7, p8'] <;> rfl))); done) | (apply Hy.mk; (try simp only [evs, pn, pd, pm, p0, p1, p6, p7, p8']); first | exact hmp | exact hfind | assumption) | (apply Om.mk; first | exact hmp | exact hfind) | (apply Y6; (try simp only [evs, pn, pd, pm, p0, p1, p6, p7, p8']); first | rfl) | apply Cn.mk))
    (repeat (first | (apply G.h; constructor <;> (first | exact Zc | apply gI | ((repeat' (first | exact Y0 | apply Y1 | ((first | apply Y4 | apply Y5); simp only [evs, Nat.reduceEqDiff, reduceIte, pn, pd, pm, p0, p1, p6, p7, p8'] <;> rfl))); done) | (apply Y6; (try simp only [evs, pn, pd, pm, p0, p1, p6, p7, p8']); first | rfl)))))
    refine ih2 (j + 1) _ ?_ (by omega)
    refine ⟨by (simp only [evs, Nat.reduceEqDiff, reduceIte, pn, pd, pm, p0, p1, p6, p7, p8'] <;> first | rfl | (congr 1; omega) | omega), by (simp only [evs, Nat.reduceEqDiff, reduceIte, pn, pd, pm, p0, p1, p6, p7, p8'] <;> first | rfl | (congr 1; omega) | omega), by (simp only [evs, Nat.reduceEqDiff, reduceIte, pn, pd, pm, p0, p1, p6, p7, p8'] <;> first | rfl | (congr 1; omega) | omega), by (simp only [evs, Nat.reduceEqDiff, reduceIte, pn, pd, pm, p0, p1, p6, p7, p8'] <;> first | rfl | (congr 1; omega) | omega), by (simp only [evs, Nat.reduceEqDiff, reduceIte, pn, pd, pm, p0, p1, p6, p7, p8'] <;> first | rfl | (congr 1; omega) | omega), by (simp only [evs, Nat.reduceEqDiff, reduceIte, pn, pd, pm, p0, p1, p6, p7, p8'] <;> first | rfl | (congr 1; omega) | omega), by (simp only [evs, Nat.reduceEqDiff, reduceIte, pn, pd, pm, p0, p1, p6, p7, p8'] <;> first | rfl | (congr 1; omega) | omega), by (simp only [evs, Nat.reduceEqDiff, reduceIte, pn, pd, pm, p0, p1, p6, p7, p8'] <;> first | rfl | (congr 1; omega) | omega), hlt2, fun i sc' hi hg => ?_⟩
    rcases Nat.lt_or_ge i j with hij | hij
    ·exact hno2 i sc' hij hg
    ·obtain rfl : i = j := by omega
     rw [u2] at hg; cases hg; exact hl
   | some d =>
    rw [hl] at hfind
    have hd : d < dB.length := (hR.2 f (List.mem_of_getElem? e2)).1 sc (List.mem_of_getElem? u2) (s, d) (look_mem hl)
    have hdp : dptr dB d = ptr dB[d] := by unfold dptr; rw [List.getElem?_eq_getElem hd]
    have hfind' : quiet.find evEnv m 9 (encS s) (encE dB sc) = some (some (ptr dB[d])) := by rw [← hdp]; exact hfind
    (apply g_lookup (f := some (ptr dB[d])) <;> (first | exact Zc | apply gI | ((repeat' (first | exact Y0 | apply Y1 | exact Y2 | apply Y3 | ((first | apply Y4 | apply Y5); simp only [evs, Nat.reduceEqDiff, reduceIte, pn, pd, pm, p0, p1, p6, p7, p8'] <;> rfl))); done) | (apply Hy.mk; (try simp only [evs, pn, pd, pm, p0, p1, p6, p7, p8']); first | exact hmp | exact hfind' | assumption) | (apply Om.mk; first | exact hmp | exact hfind') | (apply Y6; (try simp only [evs, pn, pd, pm, p0, p1, p6, p7, p8']); first | rfl) | apply Cn.mk))
    (repeat (first | (apply G.h; constructor <;> (first | exact Zc | apply gI | ((repeat' (first | exact Y0 | apply Y1 | ((first | apply Y4 | apply Y5); simp only [evs, Nat.reduceEqDiff, reduceIte, pn, pd, pm, p0, p1, p6, p7, p8'] <;> rfl))); done) | (apply Y6; (try simp only [evs, pn, pd, pm, p0, p1, p6, p7, p8']); first | exact hw.load1 rfl rfl rfl)))))
    (refine g_fin (by repeat' first | exact Rs.nil | apply Rs.cons | (apply Y4; simp only [evs, Nat.reduceEqDiff, reduceIte, pn, pd, pm, p0, p1, p6, p7, p8'] <;> rfl)) (by (simp only [evs, Nat.reduceEqDiff, reduceIte, pn, pd, pm, p0, p1, p6, p7, p8'] <;> first | rfl | (congr 1; omega) | omega)) ?_)
    have hF : findFr s S.frames = some (d, k) := by
     rw [findFr_drop s S.frames k (by omega) hno, List.drop_eq_getElem?_toList_append, e2]
     simp only [Option.toList_some, List.singleton_append, findFr]
     rw [findSc_drop s f.scopes j hno2, List.drop_eq_getElem?_toList_append, u2]
     simp only [Option.toList_some, List.singleton_append, findSc, hl, Option.map_some, Nat.zero_add]
    rw [hF]
    refine ⟨?_, by (simp only [evs, Nat.reduceEqDiff, reduceIte, pm] <;> first | rfl | (congr 1; omega) | omega)⟩
    show one [_, _] = _
    simp only [Option.map_some, optPtr, hdp, Option.getD_some]
    rw [show n - 1 - (n - 1 - k) = k by omega]
    rfl
  ·have p8' : a2.tmp 8 = I (-1) := by rw [p8]; congr 1; omega
   (repeat (first | (apply G.h; constructor <;> (first | exact Zc | apply gI | ((repeat' (first | exact Y0 | apply Y1 | ((first | apply Y4 | apply Y5); simp only [evs, Nat.reduceEqDiff, reduceIte, pn, pd, pm, p0, p1, p6, p7, p8'] <;> rfl))); done) | (apply Y6; (try simp only [evs, pn, pd, pm, p0, p1, p6, p7, p8']); first | rfl)))))
   refine ih (k + 1) _ ?_ (by omega)
   refine ⟨by (simp only [evs, Nat.reduceEqDiff, reduceIte, pn, pd, pm, p0, p1, p6, p7, p8'] <;> first | rfl | (congr 1; omega) | omega), by (simp only [evs, Nat.reduceEqDiff, reduceIte, pn, pd, pm, p0, p1, p6, p7, p8'] <;> first | rfl | (congr 1; omega) | omega), by (simp only [evs, Nat.reduceEqDiff, reduceIte, pn, pd, pm, p0, p1, p6, p7, p8'] <;> first | rfl | (congr 1; omega) | omega), by (simp only [evs, Nat.reduceEqDiff, reduceIte, pn, pd, pm, p0, p1, p6, p7, p8'] <;> first | rfl | (congr 1; omega) | omega), by (simp only [evs, Nat.reduceEqDiff, reduceIte, pn, pd, pm, p0, p1, p6, p7, p8'] <;> first | rfl | (congr 1; omega) | omega), by (simp only [evs, Nat.reduceEqDiff, reduceIte, pn, pd, pm, p0, p1, p6, p7, p8'] <;> first | rfl | (congr 1; omega) | omega), hlt, fun i f' hi hg => ?_⟩
   rcases Nat.lt_or_ge i k with hik | hik
   ·exact hno i f' hik hg
   ·obtain rfl : i = k := by omega
    rw [e2] at hg; cases hg
    rw [findSc_drop s f.scopes j hno2, List.drop_of_length_le (by omega)]; rfl
 ·have q6' : a.tmp 6 = I (-1) := by rw [q6]; congr 1; omega
  (repeat (first | (apply G.h; constructor <;> (first | exact Zc | apply gI | ((repeat' (first | exact Y0 | apply Y1 | ((first | apply Y4 | apply Y5); simp only [evs, Nat.reduceEqDiff, reduceIte, qn, qd, qm, q0, q1, q6'] <;> rfl))); done) | (apply Y6; (try simp only [evs, qn, qd, qm, q0, q1, q6']); first | rfl)))))
  (refine g_fin (by repeat' first | exact Rs.nil | apply Rs.cons | (apply Y4; simp only [evs, Nat.reduceEqDiff, reduceIte, qn, qd, qm, q0, q1, q6'] <;> rfl)) (by (simp only [evs, Nat.reduceEqDiff, reduceIte, qn, qd, qm, q0, q1, q6'] <;> first | rfl | (congr 1; omega) | omega)) ?_)
  have hnone : findFr s S.frames = none := by
   rw [findFr_drop s S.frames k (by omega) hno, List.drop_of_length_le (by omega)]; rfl
  rw [hnone]
  exact ⟨rfl, by (simp only [evs, Nat.reduceEqDiff, reduceIte, qm] <;> first | rfl | (congr 1; omega) | omega)⟩
end
end Go.Proofs.YtihokakelnfdgaaDoor

namespace Go.Proofs.YtihokakelnfdgaaDoor
set_option linter.unusedSimpArgs false
open Go Go.Ev
set_option linter.unusedVariables false

/-! What is taken into a function. -/
theorem look_lay {κ : Type} [DecidableEq κ] (s : κ) (d : Nat) : ∀ l : List (κ × Nat), look s (lay s d l) = some d
 | [] => by simp [lay, look]
 | (t, x) :: l => by
  by_cases h : s = t
  ·simp [lay, h, look]
  ·simp [lay, h, look, look_lay s d l]
theorem lay_mem {κ : Type} [DecidableEq κ] {s : κ} {d : Nat} : ∀ {l : List (κ × Nat)} {q : κ × Nat}, q ∈ lay s d l → q = (s, d) ∨ q ∈ l
 | [], q, h => by simp [lay] at h; exact .inl h
 | (t, x) :: l, q, h => by
  rw [lay] at h
  by_cases ht : s = t
  ·rw [if_pos ht] at h
   rcases List.mem_cons.1 h with h | h
   ·exact .inl h
   ·exact .inr (List.mem_cons_of_mem _ h)
  ·rw [if_neg ht] at h
   rcases List.mem_cons.1 h with h | h
   ·exact .inr (h ▸ List.mem_cons_self)
   ·exact (lay_mem h).imp id (List.mem_cons_of_mem _)

/-- what a take leaves as it is. -/
structure Tk (d f : Nat) (S r : MS) : Prop where
 pc : r.pc = S.pc
 uses : r.uses = S.uses
 globals : r.globals = S.globals
 means : r.means = S.means
 decls : r.decls = S.decls
 nf : r.funs.length = S.funs.length
 funs : ∀ (i : Nat) (g : Fn), r.funs[i]? = some g → ∃ g0, S.funs[i]? = some g0 ∧ g.node = g0.node ∧ g.params = g0.params ∧ g.slots = g0.slots ∧ g0.caps.length ≤ g.caps.length ∧ g.caps.length ≤ g0.caps.length + f
 nfr : r.frames.length = S.frames.length
 frames : ∀ (i : Nat) (g : Fr), r.frames[i]? = some g → ∃ g0, S.frames[i]? = some g0 ∧ g.fn = g0.fn ∧ g.scopes = g0.scopes ∧ g.loops = g0.loops ∧ ∀ q ∈ g.caps, q.1 = d ∨ q ∈ g0.caps
theorem Tk.refl (d : Nat) (S : MS) : Tk d 0 S S := ⟨rfl, rfl, rfl, rfl, rfl, rfl, fun i g h => ⟨g, h, rfl, rfl, rfl, Nat.le_refl _, Nat.le_refl _⟩, rfl, fun i g h => ⟨g, h, rfl, rfl, rfl, fun q h => .inr h⟩⟩
theorem Tk.more {d f f' : Nat} {S r : MS} (h : Tk d f S r) (hf : f ≤ f') : Tk d f' S r :=
 { h with funs := fun i g hg => by obtain ⟨g0, h1, h2, h3, h4, h5, h6⟩ := h.funs i g hg; exact ⟨g0, h1, h2, h3, h4, h5, by omega⟩ }
theorem Tk.trans {d f f' : Nat} {S r r' : MS} (h : Tk d f S r) (k : Tk d f' r r') : Tk d (f + f') S r' :=
 { pc := k.pc.trans h.pc, uses := k.uses.trans h.uses, globals := k.globals.trans h.globals, means := k.means.trans h.means, decls := k.decls.trans h.decls, nf := k.nf.trans h.nf, nfr := k.nfr.trans h.nfr
   funs := fun i g hg => by
    obtain ⟨g1, h1, h2, h3, h4, h5, h6⟩ := k.funs i g hg
    obtain ⟨g0, k1, k2, k3, k4, k5, k6⟩ := h.funs i g1 h1
    exact ⟨g0, k1, h2.trans k2, h3.trans k3, h4.trans k4, by omega, by omega⟩
   frames := fun i g hg => by
    obtain ⟨g1, h1, h2, h3, h4, h5⟩ := k.frames i g hg
    obtain ⟨g0, k1, k2, k3, k4, k5⟩ := h.frames i g1 h1
    exact ⟨g0, k1, h2.trans k2, h3.trans k3, h4.trans k4, fun q hq => (h5 q hq).elim .inl (k5 q)⟩ }
theorem Tk.failIf (d : Nat) (S : MS) (b : Bool) (e : Nat) (p : Int) : Tk d 0 S (S.failIf b e p) := by
 obtain ⟨z1, z2, z3, z4, z5, z6, z7⟩ := failIf_rest S b e p
 have h := Tk.refl d S
 exact ⟨z7, z2, z3, z5, z6, by rw [z1], by rw [z1]; exact h.funs, by rw [z4], by rw [z4]; exact h.frames⟩
/-- one more is taken. -/
theorem Tk.one (d n k fn : Nat) (c : Nat × Nat) (S : MS) : Tk d 1 S { S with frames := S.frames.modify k fun f => { f with caps := lay d n f.caps }, funs := S.funs.modify fn fun f => { f with caps := f.caps ++ [c] } } := by
 refine ⟨rfl, rfl, rfl, rfl, rfl, List.length_modify .., fun i g hg => ?_, List.length_modify .., fun i g hg => ?_⟩
 ·replace hg : (S.funs.modify fn fun f => { f with caps := f.caps ++ [c] })[i]? = some g := hg
  rw [List.getElem?_modify] at hg
  obtain ⟨g0, h1, h2⟩ := Option.map_eq_some_iff.1 hg
  refine ⟨g0, h1, ?_⟩
  split at h2 <;> subst h2 <;> simp
 ·replace hg : (S.frames.modify k fun f => { f with caps := lay d n f.caps })[i]? = some g := hg
  rw [List.getElem?_modify] at hg
  obtain ⟨g0, h1, h2⟩ := Option.map_eq_some_iff.1 hg
  refine ⟨g0, h1, ?_⟩
  split at h2 <;> subst h2
  ·exact ⟨rfl, rfl, rfl, fun q hq => (lay_mem hq).imp (fun h => by rw [h]) id⟩
  ·exact ⟨rfl, rfl, rfl, fun q hq => .inr hq⟩
theorem take_tk : ∀ (f : Nat) (S : MS) (d k : Nat) (pos : Int), Tk d f S (MS.take f S d k pos).1
 | 0, S, d, k, pos => Tk.refl d S
 | f + 1, S, d, k, pos => by
  rw [MS.take]
  cases taken S d k with
  | some i => exact (Tk.refl d S).more (Nat.zero_le _)
  | none =>
   simp only
   by_cases h : frFn S (k + 1) ≠ declFn S d
   ·simp only [if_pos h]
    exact (((take_tk f S d (k + 1) pos).trans (Tk.failIf d _ _ _ _)).trans (Tk.one d _ k _ _ _))
   ·simp only [if_neg h]
    exact (((Tk.refl d S).trans (Tk.failIf d _ _ _ _)).trans (Tk.one d _ k _ _ _)).more (by omega)

theorem frFn_of {S : MS} {k : Nat} {f : Fr} (h : S.frames[k]? = some f) : frFn S k = f.fn := by unfold frFn; rw [h]
theorem Tk.frFn {d f : Nat} {S r : MS} (h : Tk d f S r) (k : Nat) : frFn r k = YtihokakelnfdgaaDoor.frFn S k := by
 unfold YtihokakelnfdgaaDoor.frFn
 cases hr : r.frames[k]? with
 | none =>
  have : S.frames[k]? = none := by
   have h1 := h.nfr
   rw [List.getElem?_eq_none_iff] at hr ⊢; omega
  rw [this]
 | some g =>
  obtain ⟨g0, h1, h2, -⟩ := h.frames k g hr
  rw [h1]; exact h2
theorem Tk.refs {d f n : Nat} {S r : MS} (h : Tk d f S r) (hR : Refs n S) (hd : d < n) : Refs n r := by
 refine ⟨by rw [h.means]; exact hR.1, fun g hg => ?_⟩
 obtain ⟨i, hi, rfl⟩ := List.getElem_of_mem hg
 obtain ⟨g0, h1, h2, h3, h4, h5⟩ := h.frames i _ (List.getElem?_eq_getElem hi)
 have hm := List.mem_of_getElem? h1
 refine ⟨by rw [h3]; exact (hR.2 g0 hm).1, fun q hq => ?_⟩
 rcases h5 q hq with h | h
 ·rw [h]; exact hd
 ·exact (hR.2 g0 hm).2 q h

section
variable {X : Nat → Prop} {T : List Nat} {m m' : Mem} {A : Args} {wb : Nat} {S : MS} {fB dB : List Nat} {V : Vs}

/-- pointers as keys. -/
theorem eqK_ptr {ds : List Dc} (h : DcsR X m dB ds) {i j : Nat} (hi : i < dB.length) (hj : j < dB.length) : quiet.eqKey evEnv m 90 (ptr dB[i]) (ptr dB[j]) = some (decide (i = j)) := by
 have hu : evEnv.under 90 = some (.pointer 92) := by rfl
 have hs : evEnv.size 92 = some 3 := by rfl
 have hn := h.2.1
 unfold quiet.eqKey eqPtr
 simp only [hu, hs]
 have ns : ∀ k, (hk : k < dB.length) → notStr m dB[k] = true := fun k hk => by
  obtain ⟨-, -, c, h2, -⟩ := h.2.2 k _ _ (List.getElem?_eq_getElem hk) (List.getElem?_eq_getElem (by rw [← h.1]; exact hk))
  unfold notStr; rw [h2]; rfl
 by_cases hij : i = j
 ·subst hij; simp
 ·have hp := List.pairwise_iff_getElem.1 hn
  have : dB[i] ≠ dB[j] := by
   rcases Nat.lt_or_gt_of_ne hij with h' | h'
   ·exact hp i j hi hj h'
   ·exact Ne.symm (hp j i hj hi h')
  have hb : Nat.beq dB[i] dB[j] = false := by
   cases hq : Nat.beq dB[i] dB[j]
   ·rfl
   ·exact absurd (Nat.eq_of_beq_eq_true hq) this
  simp [hb, ns i hi, ns j hj, hij]
theorem dptr_at {d : Nat} (h : d < dB.length) : dptr dB d = ptr dB[d] := by unfold dptr; rw [List.getElem?_eq_getElem h]
theorem find_ptr {ds : List Dc} (h : DcsR X m dB ds) {d : Nat} (hd : d < dB.length) : ∀ (cs : List (Nat × Nat)), (∀ q ∈ cs, q.1 < dB.length) → quiet.find evEnv m 90 (ptr dB[d]) (encC dB cs) = some ((look d cs).map fun i : Nat => I (i : Int))
 | [], _ => by
  have hu : evEnv.under 90 = some (.pointer 92) := by rfl
  simp only [encC, List.map_nil, quiet.find, quiet.keyOk, hu, cond_true, look, Option.map_none]
 | (t, x) :: cs, hc => by
  have ht := hc (t, x) List.mem_cons_self
  have ih := find_ptr h hd cs fun q hq => hc q (List.mem_cons_of_mem _ hq)
  unfold encC at ih ⊢
  simp only [List.map_cons, quiet.find, dptr_at ht, eqK_ptr h hd ht, look]
  by_cases hdt : d = t
  ·simp [hdt]
  ·simp only [hdt, decide_false, if_false]
   exact ih
theorem upd_ptr {ds : List Dc} (h : DcsR X m dB ds) {d : Nat} (n : Nat) (hd : d < dB.length) : ∀ (cs : List (Nat × Nat)), (∀ q ∈ cs, q.1 < dB.length) → effect.upd evEnv m 90 (ptr dB[d]) (I n) (encC dB cs) = some (encC dB (lay d n cs))
 | [], _ => by
  have hu : evEnv.under 90 = some (.pointer 92) := by rfl
  simp only [encC, List.map_nil, effect.upd, quiet.keyOk, hu, cond_true, lay, List.map_cons, dptr_at hd]
 | (t, x) :: cs, hc => by
  have ht := hc (t, x) List.mem_cons_self
  have ih := upd_ptr h n hd cs fun q hq => hc q (List.mem_cons_of_mem _ hq)
  unfold encC at ih ⊢
  simp only [List.map_cons, effect.upd, dptr_at ht, eqK_ptr h hd ht, lay]
  by_cases hdt : d = t
  ·subst hdt; simp [dptr_at hd]
  ·simp only [hdt, decide_false, if_false, ih]
   rw [← dptr_at ht]; rfl

/-- a frame's row of what it takes turns. -/
theorem FrsR.capAt {lo : Nat} : ∀ {hi : Nat} {bs : List Nat} {fs : List Fr} (k : Nat), FrsR X m dB lo hi bs fs → k < fs.length → ∃ b f mid top sv sb cb, bs[k]? = some b ∧ fs[k]? = some f ∧ FrR X m dB mid top b f sv sb cb ∧ lo ≤ mid ∧ top ≤ hi ∧
  ∀ (m' : Mem) (g : Fr → Fr) (caps' : List (Nat × Nat)), m.next ≤ m'.next → (∀ c, c < hi → c ≠ cb → m'.get c = m.get c) → Mp m' cb (encC dB caps') → g f = { f with caps := caps' } → FrsR X m' dB lo hi bs (fs.modify k g)
 | hi, [], [], k, _, hk => by simp at hk
 | hi, b :: bs, f :: fs, 0, ⟨mid, sv, sb, cb, F, L⟩, _ => by
  refine ⟨b, f, mid, hi, sv, sb, cb, rfl, rfl, F, L.le, Nat.le_refl _, fun m' g caps' hn hg hm hgf => ?_⟩
  rw [List.modify_zero_cons, hgf]
  have hbc : b ≠ cb := by
   intro h
   obtain ⟨-, c, h1, -⟩ := F.row
   have h2 := F.cmap.2
   rw [← h, h1] at h2; cases h2
  refine ⟨mid, sv, sb, cb, ⟨F.blo, F.bhi, F.bx, F.row.keep hn (hg b F.bhi hbc), ?_, F.slb, ?_, F.clo, F.chi, F.cx, hm, F.nodup⟩, ?_⟩
  ·rcases F.sl with h | ⟨c, cap, r, n, h1, h2, h3, h4⟩
   ·exact .inl h
   ·have hcc : c ≠ cb := by
     intro h
     obtain ⟨-, c', h1', -⟩ := h3
     have h2 := F.cmap.2
     rw [← h, h1'] at h2; cases h2
    exact .inr ⟨c, cap, r, n, h1, h2, h3.keep hn (hg c (F.slb c n cap h1).2 hcc), h4⟩
  ·have hnd := F.nodup
   have hs := F.scs
   have : ∀ {bs : List Nat} {scs : List (List (Bs × Nat))}, cb ∉ bs → ScsR X m dB mid hi bs scs → ScsR X m' dB mid hi bs scs := by
    intro bs
    induction bs with
    | nil => intro scs _ h; cases scs with
     | nil => trivial
     | cons _ _ => exact h
    | cons c bs ih => intro scs hc h; cases scs with
     | nil => exact h
     | cons sc scs =>
      obtain ⟨⟨h1, h2, h3, h4⟩, h5⟩ := h
      simp only [List.mem_cons, not_or] at hc
      exact ⟨⟨h1, h2, h3, h4.keep hn (hg c h2 (Ne.symm hc.1))⟩, ih hc.2 h5⟩
   exact this (List.nodup_cons.1 hnd).1 hs
  ·exact L.below hn fun c hc => hg c (by have := F.blo; have := F.bhi; omega) (by have := F.clo; omega)
 | hi, b :: bs, f :: fs, k + 1, ⟨mid, sv, sb, cb, F, L⟩, hk => by
  obtain ⟨b', f', mid', top, sv', sb', cb', e1, e2, F', e3, e4, hh⟩ := FrsR.capAt k L (by simpa using hk)
  refine ⟨b', f', mid', top, sv', sb', cb', by simpa using e1, by simpa using e2, F', e3, ?_, fun m' g caps' hn hg hm hgf => ?_⟩
  ·have := F.blo; have := F.bhi; omega
  ·rw [List.modify_succ_cons]
   have hmid : mid ≤ hi := by have := F.blo; have := F.bhi; omega
   have hcb : cb' < mid := Nat.lt_of_lt_of_le F'.chi e4
   refine ⟨mid, sv, sb, cb, ?_, hh m' g caps' hn (fun c hc => hg c (by omega)) hm hgf⟩
   have hb : ∀ c, mid ≤ c → c < hi → m'.get c = m.get c := fun c h1 h2 => hg c h2 (by omega)
   refine { F with row := F.row.keep hn (hb b F.blo F.bhi), sl := F.sl.keep hn fun c n k hv => hb c (F.slb c n k hv).1 (F.slb c n k hv).2, scs := ?_, cmap := F.cmap.keep hn (hb cb F.clo F.chi) }
   have : ∀ {bs : List Nat} {scs : List (List (Bs × Nat))}, ScsR X m dB mid hi bs scs → ScsR X m' dB mid hi bs scs := by
    intro bs
    induction bs with
    | nil => intro scs h; cases scs with
     | nil => trivial
     | cons _ _ => exact h
    | cons c bs ih => intro scs h; cases scs with
     | nil => exact h
     | cons sc scs =>
      obtain ⟨⟨h1, h2, h3, h4⟩, h5⟩ := h
      exact ⟨⟨h1, h2, h3, h4.keep hn (hb c h1 h2)⟩, ih h5⟩
   exact this F.scs

/-- one function's row of what it takes turns. -/
theorem CapsR.more {cvs : List Value} {fs : List Fn} (h : CapsR X m cvs fs) {i : Nat} {cv v : Value} {f : Fn} {c : Nat × Nat} (hi : cvs[i]? = some cv) (hf : fs[i]? = some f) (hX : ∀ b, X b → b < m.next) (hn : m.next ≤ m'.next)
  (hv : Sl X m' v 59 2 (encPs (f.caps ++ [c]))) (ho : ∀ b, b < m.next → (∀ n c, cv ≠ .slice (some ⟨b, 0, none⟩) n c) → m'.get b = m.get b)
  (hb : ∀ b n c, v = .slice (some ⟨b, 0, none⟩) n c → (∃ n' c', cv = .slice (some ⟨b, 0, none⟩) n' c') ∨ m.next ≤ b) :
  CapsR X m' (cvs.set i v) (fs.modify i fun f => { f with caps := f.caps ++ [c] }) := by
 have hblk : ∀ (w : Value) (l : List Value), Sl X m w 59 2 l → ∀ b, blockOf w = some b → (∃ n c, w = .slice (some ⟨b, 0, none⟩) n c) ∧ b < m.next := by
  intro w l hs b hbb
  rcases hs with ⟨rfl, _⟩ | ⟨b', cap, r, n, rfl, h2, h3, _⟩
  ·cases hbb
  ·cases hbb
   exact ⟨⟨_, _, rfl⟩, h3.1⟩
 have hil : i < cvs.length := (List.getElem?_eq_some_iff.1 hi).1
 refine ⟨by simp [h.1], fun j w g h1 h2 => ?_, fun j1 j2 w1 w2 b h1 h2 h3 h4 => ?_⟩
 ·rw [List.getElem?_set] at h1
  rw [List.getElem?_modify] at h2
  obtain ⟨g0, h3, h4⟩ := Option.map_eq_some_iff.1 h2
  by_cases hij : i = j
  ·subst hij
   rw [if_pos rfl, if_pos hil] at h1
   rw [if_pos rfl] at h4
   cases h1; subst h4
   rw [hf] at h3; cases h3
   exact hv
  ·rw [if_neg hij] at h1
   rw [if_neg hij] at h4
   subst h4
   have hs := h.2.1 j w g0 h1 h3
   refine hs.keep hn fun b n k hw => ?_
   have hbw : blockOf w = some b := by rw [hw]; rfl
   have hlt := (hblk w _ hs b hbw).2
   refine ho b hlt fun n' c' hcv => ?_
   have hbc : blockOf cv = some b := by rw [hcv]; rfl
   exact hij (h.2.2 i j cv w b hi h1 hbc hbw)
 ·have key : ∀ j w, (cvs.set i v)[j]? = some w → blockOf w = some b → (j = i ∧ w = v) ∨ (j ≠ i ∧ cvs[j]? = some w) := by
   intro j w hj hbb
   rw [List.getElem?_set] at hj
   by_cases hij : i = j
   ·subst hij; rw [if_pos rfl, if_pos hil] at hj; cases hj; exact .inl ⟨rfl, rfl⟩
   ·rw [if_neg hij] at hj; exact .inr ⟨Ne.symm hij, hj⟩
  have old : ∀ j w, j ≠ i → cvs[j]? = some w → blockOf w = some b → blockOf v = some b → False := by
   intro j w hj hw hbw hbv
   have hjl : j < fs.length := by rw [← h.1]; exact (List.getElem?_eq_some_iff.1 hw).1
   have hs := h.2.1 j w _ hw (List.getElem?_eq_getElem hjl)
   have hlt := (hblk w _ hs b hbw).2
   have hvs : ∃ n c, v = .slice (some ⟨b, 0, none⟩) n c := by
    rcases hv with ⟨rfl, _⟩ | ⟨b', cap, r, n, rfl, _⟩
    ·cases hbv
    ·cases hbv; exact ⟨_, _, rfl⟩
   obtain ⟨n, c', hvs⟩ := hvs
   rcases hb b n c' hvs with ⟨n', c'', hcv⟩ | hge
   ·have hbc : blockOf cv = some b := by rw [hcv]; rfl
    exact hj (h.2.2 j i w cv b hw hi hbw hbc)
   ·omega
  rcases key j1 w1 h1 h3 with ⟨e1, e2⟩ | ⟨e1, e2⟩ <;> rcases key j2 w2 h2 h4 with ⟨e3, e4⟩ | ⟨e3, e4⟩
  ·omega
  ·exact (old j2 w2 e3 e4 h4 (e2 ▸ h3)).elim
  ·exact (old j1 w1 e1 e2 h3 (e4 ▸ h4)).elim
  ·exact h.2.2 j1 j2 w1 w2 b e2 e4 h3 h4
theorem encFns_setv : ∀ (cvs : List Value) (fs : List Fn) (i : Nat) (v : Value) (g : Fn → Fn), i < fs.length → cvs.length = fs.length → (∀ f, (g f).node = f.node ∧ (g f).params = f.params ∧ (g f).slots = f.slots) → (encFns cvs fs).set (i * 4 + 3) v = encFns (cvs.set i v) (fs.modify i g)
 | [], fs, i, v, g, h1, h2, _ => absurd h1 (by simp only [List.length_nil] at h2; omega)
 | _ :: _, [], i, v, g, h1, _, _ => by simp at h1
 | c :: cvs, f :: fs, 0, v, g, h1, h2, hh => by
  obtain ⟨a1, a2, a3⟩ := hh f
  simp only [encFns, Nat.zero_mul, Nat.zero_add, List.modify_zero_cons, List.set_cons_zero]
  rw [List.set_append_left _ _ (by simp [encFn])]
  unfold encFn; rw [a1, a2, a3]; rfl
 | c :: cvs, f :: fs, i + 1, v, g, h1, h2, hh => by
  simp only [List.length_cons, Nat.add_lt_add_iff_right, Nat.add_right_cancel_iff] at h1 h2
  simp only [encFns, List.modify_succ_cons, List.set_cons_succ]
  rw [List.set_append_right _ _ (by simp [encFn]; omega), show (i + 1) * 4 + 3 - (encFn c f).length = i * 4 + 3 by simp [encFn]; omega, encFns_setv cvs fs i v g h1 h2 hh]
theorem caps_get {cvs : List Value} {fs : List Fn} {i : Nat} {cv : Value} (hc : cvs.length = fs.length) (hi : cvs[i]? = some cv) : (encFns cvs fs)[i * 4 + 3]? = some cv := by
 have hl := (List.getElem?_eq_some_iff.1 hi).1
 rw [encFns_get cvs fs i 3 _ _ hi (List.getElem?_eq_getElem (by omega)) (by omega)]
 rfl
end
end Go.Proofs.YtihokakelnfdgaaDoor

namespace Go.Proofs.YtihokakelnfdgaaDoor
open Go Go.Ev
set_option maxRecDepth 100000
set_option linter.unusedVariables false
set_option linter.unusedSimpArgs false
set_option pp.maxSteps 1500
attribute [local irreducible] quiet allocs effect wp ret wpO Runs Act.tmp Act.eval fin results Tree.set binOp loadAt storeAt target wanted cellsFrom

section
/-- a block that is kept apart is written. -/
theorem Rep.off {X : Nat → Prop} {A : Args} {wb : Nat} {S : MS} {fB dB : List Nat} {V : Vs} {m m' : Mem} {k : Nat} {r : List Value} (h : Rep (plus X k) A m wb S fB dB V) (hr : Row m k r 59 0) (hk : ¬ X k) (h0 : X 0) (hb : X A.nb) (ho : ∀ x, x ≠ k → m'.get x = m.get x) (hn : m'.next = m.next) : Rep X A m' wb S fB dB V := by
 have h' := h.less h0 hb
 have kk : Keep X [59] m m' := Keep.row hr hk (by decide) ho hn
 refine h'.turn kk (h'.w.stay kk (.inr (by decide))) (h'.funs.stay kk (by decide)) ?_ (h'.uses.stay kk (by decide)) (h'.globals.stay kk (by decide)) rfl ?_ (h'.frames.stay kk (by decide)) (h'.means.stay kk (by decide)) (h'.decls.stay kk (by decide)) (h'.frs.stay kk (by decide) kk.1)
 ·refine ⟨h.caps.1, fun i cv f e1 e2 => ?_, h.caps.2.2⟩
  have s := h.caps.2.1 i cv f e1 e2
  rcases s with s | ⟨b, cap, r, n, g1, g2, g3, g4⟩
  ·exact .inl s
  ·exact .inr ⟨b, cap, r, n, g1, fun hx => g2 (.inl hx), g3.keep kk.1 (ho b fun hbk => g2 (.inr hbk)), g4⟩
 ·exact ho _ fun hg => h.gx (.inr hg)

variable {A : Args} {wb : Nat} {fB dB : List Nat}
/-- in the midst of a take. -/
def TSt (X : Nat → Prop) (A : Args) (wb : Nat) (fB dB : List Nat) (V : Vs) (m0 : Mem) (pd : Value) (b nk ck : Nat) (x : Nd) (c : Nat × Nat) (S : MS) (a : Ev.Act) : Prop :=
 (a.n = 105 ∧ a.defers = [] ∧ a.tmp 0 = ptr wb ∧ a.tmp 1 = pd ∧ a.tmp 7 = ptr nk ∧ a.tmp 9 = ptr b ∧ a.tmp 12 = ptr ck) ∧
 Row a.m nk x.val 43 0 ∧ Row a.m ck [I c.1, I c.2] 59 0 ∧ (∃ cvs, Rep X A a.m wb S fB dB { V with cvs := cvs }) ∧ Keep X [83, 59, 49, mapTag] m0 a.m
def TSt2 (X : Nat → Prop) (A : Args) (wb : Nat) (fB dB : List Nat) (V : Vs) (m0 : Mem) (pd : Value) (b ck fb fo : Nat) (cvs : List Value) (x : Nd) (c : Nat × Nat) (S : MS) (a : Ev.Act) : Prop :=
 (a.n = 105 ∧ a.defers = [] ∧ a.tmp 0 = ptr wb ∧ a.tmp 1 = pd ∧ a.tmp 9 = ptr b ∧ a.tmp 12 = ptr ck ∧ a.tmp 13 = .pointer (some ⟨fb, fo, none⟩)) ∧
 Row a.m ck [I c.1, I c.2] 59 0 ∧ Rep X A a.m wb S fB dB { V with cvs := cvs } ∧ Keep X [83] m0 a.m

theorem take92 (x : Nd) {d : Nat} (hd : d < dB.length) (hs : fB.length ≤ 100000) : ∀ (f : Nat) {X : Nat → Prop} {S : MS} {m : Mem} {V : Vs} (k : Nat), Rep X A m wb S fB dB V → Refs dB.length S → S.frames.length ≤ k + f → (∃ j, k < j ∧ j < S.frames.length ∧ frFn S j = declFn S d) →
  (∀ g ∈ S.frames, g.fn < S.funs.length) → (∀ g ∈ S.funs, g.caps.length + f ≤ 900000) →
  Runs evEnv 92 [ptr wb, ptr dB[d], I ((S.frames.length - 1 - k : Nat) : Int), .agg ⟨x.val⟩] m fun v m' => ∃ cvs, v = I ((MS.take f S d k x.pos).2 : Nat) ∧ Rep X A m' wb (MS.take f S d k x.pos).1 fB dB { V with cvs := cvs } ∧ Keep X [83, 59, 49, mapTag] m m'
 | 0, X, S, m, V, k, h, hR, hk, hj, hfn, hc => by
  obtain ⟨j, j1, j2, -⟩ := hj
  omega
 | f + 1, X, S, m, V, k, h, hR, hk, hj, hfn, hc => by
  have ih := fun {X : Nat → Prop} {S : MS} {m : Mem} {V : Vs} => @take92 x d hd hs f X S m V
  obtain ⟨j, j1, j2, j3⟩ := hj
  obtain ⟨b, fr, mid, top, sv, sb, cb, e1, e2, F, e3, e4, -⟩ := h.frs.capAt k (by omega)
  have hlen := h.frs.len
  obtain ⟨fa, n, fc, fe, fl⟩ := h.frames.form (by decide)
  have hn : S.frames.length = n := by simp at fl; omega
  have hw := h.w
  rw [fe] at hw
  have hk2 : n - 1 - k < (fB.reverse.map ptr).length := by simp; omega
  have hk3 : n - 1 - k - 1 < (fB.reverse.map ptr).length := by simp; omega
  obtain ⟨rb, rcap, rr, rn, r1, r2, r3, r4, r5, r6, r7⟩ := h.frames.at hk2
  rw [fe] at r1
  cases r1
  have r8 : rr[0 + (n - 1 - k) * 1]? = some (ptr b) := by
   rw [Nat.zero_add, Nat.mul_one, r7, List.getElem?_map, show n - 1 - k = fB.length - 1 - k by omega, rev_get _ _ (by omega), e1]; rfl
  obtain ⟨b1, fr1, mid1, top1, u1, u2, sv1, sb1, cb1, F1⟩ := h.frs.nth (k + 1) (by omega)
  have r9 : rr[0 + (n - 1 - k - 1) * 1]? = some (ptr b1) := by
   have : rr[n - 1 - k - 1]? = (fB.reverse.map ptr)[n - 1 - k - 1]? := by
    rw [r6, List.getElem?_take_of_lt (by simp at hk3; omega)]
   rw [Nat.zero_add, Nat.mul_one, this, List.getElem?_map, show n - 1 - k - 1 = fB.length - 1 - (k + 1) by omega, rev_get _ _ (by omega), u1]; rfl
  have hmem := List.mem_of_getElem? e2
  have hck := (hR.2 fr hmem).2
  have hD := h.decls
  have hdl : d < S.decls.length := by rw [← hD.1]; exact hd
  have hdr := hD.2.2 d dB[d] S.decls[d] (List.getElem?_eq_getElem hd) (List.getElem?_eq_getElem hdl)
  have hb := row_new m x.val 43 0
  have g1 : Grow m (m.new (rowObj x.val 43 0)) := (Grow.refl m).new _
  have r3' := r3.grow g1
  have fr' := F.row.grow g1
  have hw' := hw.grow g1
  have hmp := (F.cmap.stay (X := X) (T := []) (Keep.new (rowObj x.val 43 0)) (.inr (by simp))).2
  have hfind := find_ptr (hD.stay (T := []) (Keep.new (rowObj x.val 43 0)) (by simp)) hd fr.caps hck
  have hex : n - 1 - k < n := by omega
  rw [hn]
  refine runs_start rfl rfl rfl rfl ?_
  (repeat (first | apply wpN_cons | apply g_next | (apply G.h; constructor <;> (first | exact Zc | apply gI | ((repeat' (first | exact Y0 | apply Y1 | ((first | apply Y4 | apply Y5); simp only [evs, Nat.reduceEqDiff, reduceIte] <;> rfl))); done) | (apply Y6; (try simp only [evs]); first | exact r3'.load1 rfl rfl r8 | exact fr'.load1 rfl rfl rfl | exact hw'.load1 rfl rfl rfl)))))
  have htk : taken S d k = look d fr.caps := by unfold taken; rw [e2]
  cases hl : look d fr.caps with
  | some i =>
   rw [hl] at hfind
   replace hfind : quiet.find evEnv (m.new (rowObj x.val 43 0)) 90 (ptr dB[d]) (encC dB fr.caps) = some (some (I i)) := hfind
   (apply g_lookup (f := some (I i)) <;> (first | exact Zc | apply gI | ((repeat' (first | exact Y0 | apply Y1 | exact Y2 | apply Y3 | ((first | apply Y4 | apply Y5); simp only [evs, Nat.reduceEqDiff, reduceIte] <;> rfl))); done) | (apply Hy.mk; (try simp only [evs]); first | exact hmp | exact hfind | assumption) | (apply Om.mk; first | exact hmp | exact hfind) | (apply Y6; (try simp only [evs]); first | rfl) | apply Cn.mk))
   (repeat (first | apply wpN_cons | apply g_next | (apply G.h; constructor <;> (first | exact Zc | apply gI | ((repeat' (first | exact Y0 | apply Y1 | ((first | apply Y4 | apply Y5); simp only [evs, Nat.reduceEqDiff, reduceIte] <;> rfl))); done) | (apply Y6; (try simp only [evs]); first | rfl)))))
   (refine g_fin (by repeat' first | exact Rs.nil | apply Rs.cons | (apply Y4; simp only [evs, Nat.reduceEqDiff, reduceIte] <;> rfl)) (by (simp only [evs, Nat.reduceEqDiff, reduceIte] <;> first | rfl | (congr 1; omega) | omega)) ?_)
   have ht : MS.take (f + 1) S d k x.pos = (S, i) := by rw [MS.take, htk, hl]
   rw [ht]
   exact ⟨V.cvs, rfl, by simp only [evs]; exact h.grow g1, by simp only [evs]; exact Keep.grow g1⟩
  | none =>
   rw [hl] at hfind
   replace hfind : quiet.find evEnv (m.new (rowObj x.val 43 0)) 90 (ptr dB[d]) (encC dB fr.caps) = some none := hfind
   (apply g_lookup (f := none) <;> (first | exact Zc | apply gI | ((repeat' (first | exact Y0 | apply Y1 | exact Y2 | apply Y3 | ((first | apply Y4 | apply Y5); simp only [evs, Nat.reduceEqDiff, reduceIte] <;> rfl))); done) | (apply Hy.mk; (try simp only [evs]); first | exact hmp | exact hfind | assumption) | (apply Om.mk; first | exact hmp | exact hfind) | (apply Y6; (try simp only [evs]); first | rfl) | apply Cn.mk))
   have hdr' := hdr.2.grow g1
   generalize hdc : S.decls[d] = dc at hdr'
   (repeat (first | apply wpN_cons | apply g_next | (apply G.h; constructor <;> (first | exact Zc | apply gI | ((repeat' (first | exact Y0 | apply Y1 | ((first | apply Y4 | apply Y5); simp only [evs, Nat.reduceEqDiff, reduceIte] <;> rfl))); done) | (apply Y6; (try simp only [evs]); first | exact hdr'.load1 rfl rfl rfl)))))
   have hc0 := row_new (m.new (rowObj x.val 43 0)) [I 0, I 0] 59 0
   (apply g_stR <;> (first | exact Zc | apply gI | ((repeat' (first | exact Y0 | apply Y1 | exact Y2 | apply Y3 | ((first | apply Y4 | apply Y5); simp only [evs, Nat.reduceEqDiff, reduceIte] <;> rfl))); done) | (apply Hy.mk; (try simp only [evs]); first | exact hc0 | assumption) | (apply Om.mk; first | exact hc0) | (apply Y6; (try simp only [evs]); first | rfl) | apply Cn.mk))
   intro m2 s2 o2 n2; simp only [evs] at s2 o2 n2
   have g2 : Grow m m2 := (g1.new _).wrote (Nat.le_succ m.next) o2 n2
   have hb2 : Row m2 m.next x.val 43 0 := (hb.keep_new (rowObj [I 0, I 0] 59 0)).keep (Nat.le_of_eq n2.symm) (o2 _ (Nat.ne_of_lt (Nat.lt_succ_self m.next)))
   have r32 := r3.grow g2
   have fr2 := F.row.grow g2
   have fr12 := F1.row.grow g2
   have hdr2 := hdr.2.grow g2
   rw [hdc] at hdr2
   have hw2 := hw.grow g2
   have h2 := h.grow g2
   (repeat (first | apply wpN_cons | apply g_next | (apply G.h; constructor <;> (first | exact Zc | apply gI | ((repeat' (first | exact Y0 | apply Y1 | ((first | apply Y4 | apply Y5); simp only [evs, Nat.reduceEqDiff, reduceIte] <;> rfl))); done) | (apply Y6; (try simp only [evs]); first | exact r32.load1 rfl rfl r9 | exact fr12.load1 rfl rfl rfl | exact hdr2.load1 rfl rfl rfl | exact hw2.load1 rfl rfl rfl)))))
   have hfn1 : frFn S (k + 1) = fr1.fn := frFn_of u2
   have hdf : declFn S d = dc.fn := by unfold declFn; rw [List.getElem?_eq_getElem hdl, hdc]
   have hds : declSlot S d = dc.slot := by unfold declSlot; rw [List.getElem?_eq_getElem hdl, hdc]
   generalize hq : (if frFn S (k + 1) ≠ declFn S d then (let r := MS.take f S d (k + 1) x.pos; (r.1, ((0, r.2) : Nat × Nat))) else (S, (1, declSlot S d))) = q
   have hckX : ¬ X (m.next + 1) := fun hx => by have := h.hX _ hx; omega
   have htq : Tk d f S q.1 := by
    rw [← hq]
    by_cases hne : frFn S (k + 1) ≠ declFn S d
    ·rw [if_pos hne]; exact take_tk f S d (k + 1) x.pos
    ·rw [if_neg hne]; exact (Tk.refl d S).more (Nat.zero_le _)
   refine ewpO_cut (TSt X A wb fB dB V m (ptr dB[d]) b m.next (m.next + 1) x q.2 q.1) ?_ ?_
   ·by_cases hne : frFn S (k + 1) ≠ declFn S d
    ·rw [if_pos hne] at hq
     have hne' : fr1.fn ≠ dc.fn := by rw [← hfn1, ← hdf]; exact hne
     have hj' : k + 1 < j := by
      rcases Nat.lt_or_ge (k + 1) j with h | h
      ·exact h
      ·obtain rfl : j = k + 1 := by omega
       exact absurd j3 hne
     have hm2 := h.more g2 (k := m.next + 1) (by omega) (by have : m2.next = m.next + 2 := n2; omega)
     have ih' := ih (k + 1) hm2 hR (by omega) ⟨j, hj', j2, j3⟩ hfn (fun g hg => by have := hc g hg; omega)
     rw [hn, show n - 1 - (k + 1) = n - 1 - k - 1 by omega] at ih'
     (repeat (first | apply wpN_cons | apply g_next | (apply G.h; constructor <;> (first | exact Zc | apply gI | ((repeat' (first | exact Y0 | apply Y1 | ((first | apply Y4 | apply Y5); simp only [evs, Nat.reduceEqDiff, reduceIte] <;> rfl))); done) | (apply Y6; (try simp only [evs]); first | exact hb2.loadA rfl rfl rfl (Nat.le_refl 5) rfl)))))
     ((first | apply g_run | apply g_run0) <;> (first | ((repeat' (first | exact Y0 | apply Y1 | exact Y2 | apply Y3 | ((first | apply Y4 | apply Y5); simp only [evs, Nat.reduceEqDiff, reduceIte] <;> rfl))); done) | exact Rn.mk ((by simp only [evs]; exact ih')) | apply Cn.mk))
     rintro v m4 ⟨cvs, rfl, h4, k4⟩
     have s4 := s2.stay k4 (.inl (.inr rfl))
     (repeat (first | apply wpN_cons | apply g_next | (apply G.h; constructor <;> (first | exact Zc | apply gI | ((repeat' (first | exact Y0 | apply Y1 | ((first | apply Y4 | apply Y5); simp only [evs, Nat.reduceEqDiff, reduceIte] <;> rfl))); done) | (apply Y6; (try simp only [evs]); first | rfl)))))
     (apply g_stR <;> (first | exact Zc | apply gI | ((repeat' (first | exact Y0 | apply Y1 | exact Y2 | apply Y3 | ((first | apply Y4 | apply Y5); simp only [evs, Nat.reduceEqDiff, reduceIte] <;> rfl))); done) | (apply Hy.mk; (try simp only [evs]); first | exact s4 | assumption) | (apply Om.mk; first | exact s4) | (apply Y6; (try simp only [evs]); first | rfl) | apply Cn.mk))
     intro m5 s5 o5 n5; simp only [evs] at s5 o5 n5
     (repeat (first | apply wpN_cons | apply g_next | (apply G.h; constructor <;> (first | exact Zc | apply gI | ((repeat' (first | exact Y0 | apply Y1 | ((first | apply Y4 | apply Y5); simp only [evs, Nat.reduceEqDiff, reduceIte] <;> rfl))); done) | (apply Y6; (try simp only [evs]); first | rfl)))))
     refine eret_nil ⟨rfl, (by refine ⟨?_, ?_, ?_, ?_, ?_, ?_, ?_⟩ <;> (simp only [evs, Nat.reduceEqDiff, reduceIte] <;> first | rfl | (congr 1; omega) | omega)), ?_, ?_, ?_, ?_⟩
     ·simp only [evs]
      exact (hb2.stay k4 (.inr (by decide))).keep (Nat.le_of_eq n5.symm) (o5 _ (Nat.ne_of_lt (Nat.lt_succ_self m.next)))
     ·simp only [evs]; rw [← hq]; exact s5
     ·rw [← hq]; exact ⟨cvs, by simp only [evs]; exact Rep.off h4 s4 hckX h.x0 h.xn o5 n5⟩
     ·simp only [evs]
      have k5 : Keep X [83, 59, 49, mapTag] m4 m5 := Keep.row s4 hckX (by decide) o5 n5
      have k4' : Keep X [83, 59, 49, mapTag] m2 m4 := Keep.sub k4 fun b hb => .inl hb
      exact ((Keep.grow g2).trans k4').trans k5
    ·rw [if_neg hne] at hq
     have hne' : ¬ fr1.fn ≠ dc.fn := by rw [← hfn1, ← hdf]; exact hne
     (repeat (first | apply wpN_cons | apply g_next | (apply G.h; constructor <;> (first | exact Zc | apply gI | ((repeat' (first | exact Y0 | apply Y1 | ((first | apply Y4 | apply Y5); simp only [evs, Nat.reduceEqDiff, reduceIte] <;> rfl))); done) | (apply Y6; (try simp only [evs]); first | rfl)))))
     refine eret_nil ⟨rfl, (by refine ⟨?_, ?_, ?_, ?_, ?_, ?_, ?_⟩ <;> (simp only [evs, Nat.reduceEqDiff, reduceIte] <;> first | rfl | (congr 1; omega) | omega)), ?_, ?_, ?_, ?_⟩
     ·simp only [evs]; exact hb2
     ·simp only [evs]; rw [← hq, hds]; exact s2
     ·rw [← hq]; exact ⟨V.cvs, by simp only [evs]; exact h2⟩
     ·simp only [evs]; exact Keep.grow g2
   clear r32 fr2 fr12 hdr2 hw2 h2 hb2 s2 o2 n2 hc0 hb r3' fr' hw' hfind hmp
   rintro a ⟨⟨qn, qd, q0, q1, q7, q9, q12⟩, hb4, s4, ⟨cvs4, h4⟩, k4⟩
   obtain ⟨b', fr', mid', top', sv', sb', cb', v1, v2, F', v3, v4, -⟩ := h4.frs.capAt k (by have := htq.nfr; omega)
   obtain rfl : b' = b := by rw [e1] at v1; exact (Option.some.inj v1).symm
   obtain ⟨fr0, w1, w2, w3, w4, w5⟩ := htq.frames k fr' v2
   obtain rfl : fr0 = fr := by rw [e2] at w1; exact (Option.some.inj w1).symm
   have hfnl : fr'.fn < q.1.funs.length := by rw [w2, htq.nf]; exact hfn fr0 hmem
   have hcl := h4.caps.1
   simp only at hcl
   have hfl := encFns_len _ _ hcl
   obtain ⟨fb, fcap, fr9, fn9, y1, y2, y3, y4, y5, y6, y7⟩ := h4.funs.at (i := fr'.fn * 4 + 3) (by simp only; rw [hfl]; omega)
   simp only at y1 y6 y7
   have hw4 := h4.w
   simp only [y1] at hw4
   have hfn9 : fn9 = q.1.funs.length := by
    have := congrArg List.length y6
    rw [hfl, List.length_take] at this
    have : fn9 * 4 ≤ fcap * 4 := Nat.mul_le_mul_right _ y5
    omega
   have hcv : cvs4[fr'.fn]? = some cvs4[fr'.fn] := List.getElem?_eq_getElem (by omega)
   generalize cvs4[fr'.fn] = cv at hcv
   have hg : q.1.funs[fr'.fn]? = some q.1.funs[fr'.fn] := List.getElem?_eq_getElem hfnl
   generalize q.1.funs[fr'.fn] = g at hg
   have scv := h4.caps.2.1 _ cv g hcv hg
   obtain ⟨ca, cn, cc, ce, cl⟩ := scv.form (by decide)
   have hcn : g.caps.length = cn := by rw [encPs_len] at cl; omega
   have hrow : fr9[0 + fr'.fn * 4 + 3]? = some (.slice ca cn cc) := by rw [Nat.zero_add, y7, caps_get hcl hcv, ce]
   have hcn2 : cn ≤ 900000 := by
    obtain ⟨g0, a1, -, -, -, -, a6⟩ := htq.funs _ g hg
    have := hc g0 (List.mem_of_getElem? a1)
    omega
   have fr4 := F'.row
   (repeat (first | apply wpN_cons | apply g_next | (apply G.h; constructor <;> (first | exact Zc | apply gI | ((repeat' (first | exact Y0 | apply Y1 | ((first | apply Y4 | apply Y5); simp only [evs, Nat.reduceEqDiff, reduceIte, qn, qd, q0, q1, q7, q9, q12] <;> rfl))); done) | (apply Y6; (try simp only [evs, qn, qd, q0, q1, q7, q9, q12]); first | exact y3.load1 rfl rfl hrow | exact fr4.load1 rfl rfl rfl | exact hw4.load1 rfl rfl rfl)))))
   refine ewpO_cut (TSt2 X A wb fB dB V a.m (ptr dB[d]) b' (m.next + 1) fb (0 + fr'.fn * 4) cvs4 x q.2 (q.1.failIf (decide (cn = 256)) 3 x.pos)) ?_ ?_
   ·by_cases h256 : cn = 256
    ·rw [decide_eq_true h256]
     (repeat (first | apply wpN_cons | apply g_next | (apply G.h; constructor <;> (first | exact Zc | apply gI | ((repeat' (first | exact Y0 | apply Y1 | ((first | apply Y4 | apply Y5); simp only [evs, Nat.reduceEqDiff, reduceIte, qn, qd, q0, q1, q7, q9, q12] <;> rfl))); done) | (apply Y6; (try simp only [evs, qn, qd, q0, q1, q7, q9, q12]); first | exact hb4.loadA rfl rfl rfl (Nat.le_refl 5) rfl)))))
     ((first | apply g_run | apply g_run0) <;> (first | ((repeat' (first | exact Y0 | apply Y1 | exact Y2 | apply Y3 | ((first | apply Y4 | apply Y5); simp only [evs, Nat.reduceEqDiff, reduceIte, qn, qd, q0, q1, q7, q9, q12] <;> rfl))); done) | exact Rn.mk (fail90 (e := 3) (x := x) (by simp only [evs]; exact h4)) | apply Cn.mk))
     rintro v m5 ⟨h5, k5⟩
     simp only [evs] at k5
     (repeat (first | apply wpN_cons | apply g_next | (apply G.h; constructor <;> (first | exact Zc | apply gI | ((repeat' (first | exact Y0 | apply Y1 | ((first | apply Y4 | apply Y5); simp only [evs, Nat.reduceEqDiff, reduceIte, qn, qd, q0, q1, q7, q9, q12] <;> rfl))); done) | (apply Y6; (try simp only [evs, qn, qd, q0, q1, q7, q9, q12]); first | rfl)))))
     refine eret_nil ⟨rfl, (by refine ⟨?_, ?_, ?_, ?_, ?_, ?_, ?_⟩ <;> (simp only [evs, Nat.reduceEqDiff, reduceIte, qn, qd, q0, q1, q7, q9, q12] <;> first | rfl | (congr 1; omega) | omega)), ?_, ?_, ?_⟩
     ·simp only [evs]; exact s4.stay k5 (.inr (by decide))
     ·simp only [evs]; exact h5
     ·simp only [evs]; exact k5
    ·rw [decide_eq_false h256]
     (repeat (first | apply wpN_cons | apply g_next | (apply G.h; constructor <;> (first | exact Zc | apply gI | ((repeat' (first | exact Y0 | apply Y1 | ((first | apply Y4 | apply Y5); simp only [evs, Nat.reduceEqDiff, reduceIte, qn, qd, q0, q1, q7, q9, q12] <;> rfl))); done) | (apply Y6; (try simp only [evs, qn, qd, q0, q1, q7, q9, q12]); first | rfl)))))
     refine eret_nil ⟨rfl, (by refine ⟨?_, ?_, ?_, ?_, ?_, ?_, ?_⟩ <;> (simp only [evs, Nat.reduceEqDiff, reduceIte, qn, qd, q0, q1, q7, q9, q12] <;> first | rfl | (congr 1; omega) | omega)), ?_, ?_, ?_⟩
     ·simp only [evs]; exact s4
     ·simp only [evs]; exact h4
     ·simp only [evs]; exact Keep.refl
   obtain ⟨z1, z2, z3, z4, z5, z6, z7⟩ := failIf_rest q.1 (decide (cn = 256)) 3 x.pos
   have hT : MS.take (f + 1) S d k x.pos = ({ q.1.failIf (decide (cn = 256)) 3 x.pos with frames := (q.1.failIf (decide (cn = 256)) 3 x.pos).frames.modify k (fun f => { f with caps := lay d cn f.caps }), funs := (q.1.failIf (decide (cn = 256)) 3 x.pos).funs.modify fr'.fn (fun f => { f with caps := f.caps ++ [q.2] }) }, cn) := by
    have hfk : frFn S k = fr'.fn := by rw [w2]; exact frFn_of e2
    have hcc : (capsOf q.1.funs fr'.fn).length = cn := by unfold capsOf; rw [hg]; exact hcn
    rw [MS.take, htk, hl]
    simp only [hq, hfk, hcc]
   generalize hS2 : q.1.failIf (decide (cn = 256)) 3 x.pos = S2
   rw [hS2] at z1 z2 z3 z4 z5 z6 z7 hT
   clear hrow fr4 hw4
   rintro a2 ⟨⟨pn, pd, p0, p1, p9, p12, p13⟩, s5, h5, k5⟩
   obtain ⟨b'', fr'', mid'', top'', sv'', sb'', cb, v5, v6, F5, v7, v8, hcap⟩ := h5.frs.capAt k (by rw [z4]; have := htq.nfr; omega)
   obtain rfl : b'' = b' := by rw [e1] at v5; exact (Option.some.inj v5).symm
   obtain rfl : fr'' = fr' := by rw [z4, v2] at v6; exact (Option.some.inj v6).symm
   have hrow : fr9[0 + fr''.fn * 4 + 3]? = some (.slice ca cn cc) := by rw [Nat.zero_add, y7, caps_get hcl hcv, ce]
   have y35 := y3.stay k5 (.inr (by decide))
   have fr5 := F5.row
   have cm5 := F5.cmap
   have hck' : ∀ q ∈ fr''.caps, q.1 < dB.length := ((htq.refs hR hd).2 fr'' (List.mem_of_getElem? v2)).2
   have hupd := upd_ptr h5.decls cn hd fr''.caps hck'
   (repeat (first | apply wpN_cons | apply g_next | (apply G.h; constructor <;> (first | exact Zc | apply gI | ((repeat' (first | exact Y0 | apply Y1 | ((first | apply Y4 | apply Y5); simp only [evs, Nat.reduceEqDiff, reduceIte, pn, pd, p0, p1, p9, p12, p13] <;> rfl))); done) | (apply Y6; (try simp only [evs, pn, pd, p0, p1, p9, p12, p13]); first | exact y35.load1 rfl rfl hrow | exact fr5.load1 rfl rfl rfl)))))
   (apply g_update <;> (first | exact Zc | apply gI | ((repeat' (first | exact Y0 | apply Y1 | exact Y2 | apply Y3 | ((first | apply Y4 | apply Y5); simp only [evs, Nat.reduceEqDiff, reduceIte, pn, pd, p0, p1, p9, p12, p13] <;> rfl))); done) | (apply Hy.mk; (try simp only [evs, pn, pd, p0, p1, p9, p12, p13]); first | exact cm5 | exact hupd | assumption) | (apply Om.mk; first | exact cm5 | exact hupd) | (apply Y6; (try simp only [evs, pn, pd, p0, p1, p9, p12, p13]); first | rfl) | apply Cn.mk))
   intro m6 mp6 o6 n6
   simp only [evs] at o6 n6
   have k6 : Keep X [mapTag] a2.m m6 := Keep.wrote cm5.2 F5.cx (List.mem_singleton.2 rfl) o6 n6
   have y36 := y35.stay k6 (.inr (by decide))
   have s6 := s5.stay k6 (.inr (by decide))
   (repeat (first | apply wpN_cons | apply g_next | (apply G.h; constructor <;> (first | exact Zc | apply gI | ((repeat' (first | exact Y0 | apply Y1 | ((first | apply Y4 | apply Y5); simp only [evs, Nat.reduceEqDiff, reduceIte, pn, pd, p0, p1, p9, p12, p13] <;> rfl))); done) | (apply Y6; (try simp only [evs, pn, pd, p0, p1, p9, p12, p13]); first | rfl)))))
   (apply g_regionN [0, 1, 2, 3, 4, 5, 6, 7, 8, 9, 10] [(0, 10)]; (focus exact Kr.mk (by kernel_rfl)); (focus exact Rf.mk))
   (repeat (first | apply wpN_cons | apply g_next | (apply G.h; constructor <;> (first | exact Zc | apply gI | ((repeat' (first | exact Y0 | apply Y1 | ((first | apply Y4 | apply Y5); simp only [evs, Nat.reduceEqDiff, reduceIte, pn, pd, p0, p1, p9, p12, p13] <;> rfl))); done) | (apply Y6; (try simp only [evs, pn, pd, p0, p1, p9, p12, p13]); first | exact y36.load1 rfl rfl hrow | exact s6.loadA rfl rfl rfl (Nat.le_refl 2) rfl)))))
   have hwid : fr9.length = fcap * 4 := y4
   have scv5 : Sl X a2.m (.slice ca cn cc) 59 2 (encPs g.caps) := by
    have := (scv.stay k5 (by decide)); rw [ce] at this; exact this
   have s6v := (scv5.stay k6 (by decide)).grow ((Grow.refl m6).new (rowObj [I q.2.1, I q.2.2] 59 0))
   have hx6 : ∀ c, X c → c < (m6.new (rowObj [I q.2.1, I q.2.2] 59 0)).next := fun c hc => Nat.lt_succ_of_lt (Nat.lt_of_lt_of_le (h5.hX c hc) k6.1)
   have hin : effect.cellsIn (m6.new (rowObj [I q.2.1, I q.2.2] 59 0)) 2 (.slice (some ⟨m6.next, 0, none⟩) 1 1) = some (1, [I q.2.1, I q.2.2]) := cellsIn_row (kc := 1) (new := [I q.2.1, I q.2.2]) (row_new m6 [I q.2.1, I q.2.2] 59 0) (Nat.le_refl 2) rfl
   have hgl2 : (encPs g.caps).length ≤ 1800000 := by rw [encPs_len]; omega
   (apply g_app <;> (first | exact Zc | apply gI | ((repeat' (first | exact Y0 | apply Y1 | exact Y2 | apply Y3 | ((first | apply Y4 | apply Y5); simp only [evs, Nat.reduceEqDiff, reduceIte, pn, pd, p0, p1, p9, p12, p13] <;> rfl))); done) | (apply Hy.mk; (try simp only [evs, pn, pd, p0, p1, p9, p12, p13]); first | exact hin | exact s6v | exact hx6 | assumption) | (apply Om.mk; first | exact hin | exact s6v | exact hx6) | (apply Y6; (try simp only [evs, pn, pd, p0, p1, p9, p12, p13]); first | rfl) | apply Cn.mk))
   intro v' m7 s7 k7 o7 b7 f7
   obtain ⟨c7, j7, p7, rfl, hc7⟩ := f7
   simp only [evs, pn, pd, p0, p1, p9, p12, p13] at k7 o7 b7
   replace k7 : Keep X [59] (m6.new (rowObj [I q.2.1, I q.2.2] 59 0)) m7 := k7
   have y37 := (y36.keep_new (rowObj [I q.2.1, I q.2.2] 59 0)).stay k7 (.inr (by decide))
   have hr9 : 0 + fr''.fn * 4 + 3 + 1 ≤ fr9.length := by have : fn9 * 4 ≤ fcap * 4 := Nat.mul_le_mul_right _ y5; omega
   (repeat (first | apply wpN_cons | apply g_next | (apply G.h; constructor <;> (first | exact Zc | apply gI | ((repeat' (first | exact Y0 | apply Y1 | ((first | apply Y4 | apply Y5); simp only [evs, Nat.reduceEqDiff, reduceIte, pn, pd, p0, p1, p9, p12, p13] <;> rfl))); done) | (apply Y6; (try simp only [evs, pn, pd, p0, p1, p9, p12, p13]); first | rfl)))))
   (apply g_stR <;> (first | exact Zc | apply gI | ((repeat' (first | exact Y0 | apply Y1 | exact Y2 | apply Y3 | ((first | apply Y4 | apply Y5); simp only [evs, Nat.reduceEqDiff, reduceIte, pn, pd, p0, p1, p9, p12, p13] <;> rfl))); done) | (apply Hy.mk; (try simp only [evs, pn, pd, p0, p1, p9, p12, p13]); first | exact y37 | exact hr9 | assumption) | (apply Om.mk; first | exact y37 | exact hr9) | (apply Y6; (try simp only [evs, pn, pd, p0, p1, p9, p12, p13]); first | rfl) | apply Cn.mk))
   intro m8 r8' o8 n8; simp only [evs, pn, pd, p0, p1, p9, p12, p13] at r8' o8 n8
   (repeat (first | apply wpN_cons | apply g_next | (apply G.h; constructor <;> (first | exact Zc | apply gI | ((repeat' (first | exact Y0 | apply Y1 | ((first | apply Y4 | apply Y5); simp only [evs, Nat.reduceEqDiff, reduceIte, pn, pd, p0, p1, p9, p12, p13] <;> rfl))); done) | (apply Y6; (try simp only [evs, pn, pd, p0, p1, p9, p12, p13]); first | rfl)))))
   refine g_last (.mk ⟨.mk ?_, trivial⟩) ?_
   ·(apply again_of; exact Rf.mk; exact Rf.mk; (apply Ev.mk; (simp only [evs, Nat.reduceEqDiff, reduceIte, pn, pd, p0, p1, p9, p12, p13] <;> rfl)); exact Rf.mk; (repeat (first | apply wpN_cons | apply g_next | (apply G.h; constructor <;> (first | exact Zc | apply gI | ((repeat' (first | exact Y0 | apply Y1 | ((first | apply Y4 | apply Y5); simp only [evs, Nat.reduceEqDiff, reduceIte, pn, pd, p0, p1, p9, p12, p13] <;> rfl))); done) | (apply Y6; (try simp only [evs, pn, pd, p0, p1, p9, p12, p13]); first | rfl))))); refine eret_nil ?_; (simp only [evs, Nat.reduceEqDiff, reduceIte, pn, pd, p0, p1, p9, p12, p13] <;> rfl))
   have k8 : Keep X [49] m7 m8 := Keep.row y37 y2 (by decide) o8 n8
   have kall : Keep X [83, 59, 49, mapTag] a2.m m8 := (((k6.mono (by simp)).trans (Keep.new _)).trans (k7.mono (by simp))).trans (k8.mono (by simp))
   have fr8 := ((((fr5.stay k6 (.inr (by decide))).keep_new (rowObj [I q.2.1, I q.2.2] 59 0))).stay k7 (.inr (by decide))).stay k8 (.inr (by decide))
   have mp8 := ((mp6.stay (X := X) (T := []) (Keep.new (rowObj [I q.2.1, I q.2.2] 59 0)) (.inr (by simp))).stay k7 (.inr (by decide))).stay k8 (.inr (by decide))
   have hfind8 := find_ptr (h5.decls.stay kall (by decide)) hd (lay d cn fr''.caps) (fun q hq => (lay_mem hq).elim (fun h => by rw [h]; exact hd) (hck' q))
   rw [look_lay] at hfind8
   replace hfind8 : quiet.find evEnv m8 90 (ptr dB[d]) (encC dB (lay d cn fr''.caps)) = some (some (I cn)) := hfind8
   have mp8' := mp8.2
   (repeat (first | apply wpN_cons | apply g_next | (apply G.h; constructor <;> (first | exact Zc | apply gI | ((repeat' (first | exact Y0 | apply Y1 | ((first | apply Y4 | apply Y5); simp only [evs, Nat.reduceEqDiff, reduceIte, pn, pd, p0, p1, p9, p12, p13] <;> rfl))); done) | (apply Y6; (try simp only [evs, pn, pd, p0, p1, p9, p12, p13]); first | exact fr8.load1 rfl rfl rfl)))))
   (apply g_lookup (f := some (I cn)) <;> (first | exact Zc | apply gI | ((repeat' (first | exact Y0 | apply Y1 | exact Y2 | apply Y3 | ((first | apply Y4 | apply Y5); simp only [evs, Nat.reduceEqDiff, reduceIte, pn, pd, p0, p1, p9, p12, p13] <;> rfl))); done) | (apply Hy.mk; (try simp only [evs, pn, pd, p0, p1, p9, p12, p13]); first | exact mp8' | exact hfind8 | assumption) | (apply Om.mk; first | exact mp8' | exact hfind8) | (apply Y6; (try simp only [evs, pn, pd, p0, p1, p9, p12, p13]); first | rfl) | apply Cn.mk))
   (repeat (first | apply wpN_cons | apply g_next | (apply G.h; constructor <;> (first | exact Zc | apply gI | ((repeat' (first | exact Y0 | apply Y1 | ((first | apply Y4 | apply Y5); simp only [evs, Nat.reduceEqDiff, reduceIte, pn, pd, p0, p1, p9, p12, p13] <;> rfl))); done) | (apply Y6; (try simp only [evs, pn, pd, p0, p1, p9, p12, p13]); first | rfl)))))
   (refine g_fin (by repeat' first | exact Rs.nil | apply Rs.cons | (apply Y4; simp only [evs, Nat.reduceEqDiff, reduceIte, pn, pd, p0, p1, p9, p12, p13] <;> rfl)) (by (simp only [evs, Nat.reduceEqDiff, reduceIte, pn, pd, p0, p1, p9, p12, p13] <;> first | rfl | (congr 1; omega) | omega)) ?_)
   rw [hT]
   refine ⟨cvs4.set fr''.fn (.slice (some ⟨c7, 0, none⟩) j7 p7), rfl, ?_, ?_⟩
   ·simp only [evs]
    have gbn : V.gb ≠ cb := by have := F5.clo; have h9 : V.gb + 1 ≤ mid'' := v7; omega
    have gm6 : Mp m6 V.gb (encG A.g) := Mp.keep h5.gmap (Nat.le_of_eq n6.symm) (o6 _ gbn)
    have gm8 := ((gm6.stay (X := X) (T := []) (Keep.new (rowObj [I q.2.1, I q.2.2] 59 0)) (.inr (by simp))).stay k7 (.inr (by decide))).stay k8 (.inr (by decide))
    refine h5.turn (V' := { V with cvs := cvs4.set fr''.fn (.slice (some ⟨c7, 0, none⟩) j7 p7) }) kall ?_ ?_ ?_ ?_ ?_ rfl (gm8.2.trans h5.gmap.2.symm) ?_ ?_ ?_ ?_
    ·exact ((((h5.w.stay k6 (.inr (by decide))).keep_new (rowObj [I q.2.1, I q.2.2] 59 0))).stay k7 (.inr (by decide))).stay k8 (.inr (by decide))
    ·have z := ((h5.funs.stay k6 (by decide)).grow ((Grow.refl m6).new (rowObj [I q.2.1, I q.2.2] 59 0))).stay k7 (by decide)
     simp only [y1] at z
     have z2 := z.stored (o := fr''.fn * 4 + 3) (w := .slice (some ⟨c7, 0, none⟩) j7 p7) y37 (by have := r8'; rw [show 0 + fr''.fn * 4 + 3 = fr''.fn * 4 + 3 by omega] at this; exact this) (by rw [z1, hfl]; omega)
     rw [encFns_setv _ _ _ _ (fun f => { f with caps := f.caps ++ [q.2] }) (by rw [z1]; omega) h5.caps.1 (fun f => ⟨rfl, rfl, rfl⟩)] at z2
     simp only [y1]
     exact z2
    ·have c6 := (h5.caps.stay k6 (by decide)).stay (Keep.new (X := X) (T := []) (rowObj [I q.2.1, I q.2.2] 59 0)) (by simp)
     have hg2 : S2.funs[fr''.fn]? = some g := by rw [z1]; exact hg
     refine CapsR.stay (CapsR.more c6 hcv hg2 hx6 k7.1 (c := q.2) ?_ ?_ ?_) k8 (by decide)
     ·have : encPs (g.caps ++ [q.2]) = encPs g.caps ++ [I q.2.1, I q.2.2] := by simp [encPs, encP]
      rw [this]; exact s7
     ·intro b0 hb0 hne
      exact o7 b0 hb0 (fun n c hh => hne n c (by rw [ce]; exact hh))
     ·intro b0 n c hv
      rcases b7 b0 n c hv with ⟨n', c', hh⟩ | hh
      ·exact .inl ⟨n', c', by rw [ce]; exact hh⟩
      ·exact .inr (Nat.le_of_eq hh.symm)
    ·exact (((h5.uses.stay k6 (by decide)).grow ((Grow.refl m6).new (rowObj [I q.2.1, I q.2.2] 59 0))).stay k7 (by decide)).stay k8 (by decide)
    ·exact (((h5.globals.stay k6 (by decide)).grow ((Grow.refl m6).new (rowObj [I q.2.1, I q.2.2] 59 0))).stay k7 (by decide)).stay k8 (by decide)
    ·exact (((h5.frames.stay k6 (by decide)).grow ((Grow.refl m6).new (rowObj [I q.2.1, I q.2.2] 59 0))).stay k7 (by decide)).stay k8 (by decide)
    ·exact (((h5.means.stay k6 (by decide)).grow ((Grow.refl m6).new (rowObj [I q.2.1, I q.2.2] 59 0))).stay k7 (by decide)).stay k8 (by decide)
    ·exact h5.decls.stay kall (by decide)
    ·have z := hcap m6 (fun f => { f with caps := lay d cn f.caps }) (lay d cn fr''.caps) (Nat.le_of_eq n6.symm) (fun c _ hc => o6 c hc) mp6 rfl
     exact ((z.stay (Keep.new (X := X) (T := []) (rowObj [I q.2.1, I q.2.2] 59 0)) (by simp) (Nat.le_refl _)).stay k7 (by decide) (Nat.le_refl _)).stay k8 (by decide) (by have := k6.1; have := k7.1; have := k8.1; have e : (m6.new (rowObj [I q.2.1, I q.2.2] 59 0)).next = m6.next + 1 := rfl; omega)
   ·simp only [evs]
    exact (k4.trans (k5.mono (by simp))).trans kall
end
end Go.Proofs.YtihokakelnfdgaaDoor
