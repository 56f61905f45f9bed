/- Part of a verified evaluator of the model's programs and of runs by it: PD JF JG JH. -/
import Derived.Test.YthhcnfgeacnfiaaGreatDoorXAE
import Derived.Test.YthhcnfgeacnfiaaGreatDoorXAD
import Derived.Test.YthhcnfgeacnfiaaGreatDoorEvG
import Derived.Test.YthhcnfgeacnfiaaGreatDoorXAB
import Derived.Test.YthhcnfgeacnfiaaGreatDoorXAF
namespace Go.Proofs.YthhcnfgeacnfiaaGreatDoor
open Go Go.Ev
set_option maxRecDepth 100000
set_option linter.unusedVariables false
set_option linter.unusedSimpArgs false
set_option pp.maxSteps 1500
theorem Nodes.at4 {m : Mem} {b off : Nat} {l : List Nd} (h : Nodes m b off l) (i : Nat) (hi : i < l.length) : loadAt evEnv m 3 b (off + i * 5 + 4) = some (I l[i].pos) := by
 obtain ⟨n, c, ty, kd, h1, h2, h3⟩ := h
 exact load_cell rfl rfl h1 (by omega) (h3 i 4 hi (by omega))
attribute [local irreducible] quiet allocs effect wp ret wpO Runs Act.tmp Act.eval fin results Tree.set binOp loadAt storeAt target wanted cellsFrom

set_option maxHeartbeats 2000000 in
/-- a node and what it is made of. -/
theorem join26 (n : Nd) (k : Nat) (L : List Nd) (hL : 0 < L.length) (hl : L.length ≤ 100000) {X : Nat → Prop} {m : Mem} {v : Value} (hs : Sl X m v 58 5 (nflat L)) : Runs evEnv 27 [.agg ⟨n.val⟩, I k, v] m fun v' m' => Keep (fun c => c < m.next) [58] m m' ∧ Sl (fun c => c < m.next) m' v' 58 5 (nflat ({ n with n := k } :: L)) := by
 obtain ⟨va, vn, vc, rfl, hvn⟩ := hs.form (by decide)
 have hfl := nflat_len L
 have hf1 := nflat_one L
 have hvl : vn = L.length := by omega
 subst hvl
 have hblt : Nat.blt 0 L.length = true := by rw [Nat.blt_eq]; exact hL
 have r0 := row_new m n.val 58 0
 have g1 : Grow m (m.new (rowObj n.val 58 0)) := (Grow.refl m).new _
 refine runs_start rfl rfl rfl rfl ?_
 (repeat (first | (apply G.h; constructor <;> (first | exact Zc | apply gI | ((repeat' (first | exact Y0 | apply Y1 | ((first | apply Y4 | apply Y5); simp only [evs, Nat.reduceEqDiff, reduceIte] <;> rfl))); done) | (apply Y6; (try simp only [evs]); first | rfl)))))
 (apply g_stR <;> (first | exact Zc | apply gI | ((repeat' (first | exact Y0 | apply Y1 | exact Y2 | apply Y3 | ((first | apply Y4 | apply Y5); simp only [evs, Nat.reduceEqDiff, reduceIte] <;> rfl))); done) | (apply Hy.mk; (try simp only [evs]); first | exact r0 | assumption) | (apply Om.mk; first | exact r0) | (apply Y6; (try simp only [evs]); first | rfl) | apply Cn.mk))
 intro m3 r3 o3 n3; simp only [evs] at r3 o3 n3
 replace r3 : Row m3 m.next ({ n with n := k } : Nd).val 58 0 := r3
 have g3 : Grow m m3 := g1.wrote (Nat.le_refl _) o3 n3
 (repeat (first | (apply G.h; constructor <;> (first | exact Zc | apply gI | ((repeat' (first | exact Y0 | apply Y1 | ((first | apply Y4 | apply Y5); simp only [evs, Nat.reduceEqDiff, reduceIte] <;> rfl))); done) | (apply Y6; (try simp only [evs]); first | exact r3.loadA (k := 5) rfl rfl rfl (Nat.le_refl 5) rfl)))))
 have r4 := row_new m3 ({ n with n := k } : Nd).val 58 0
 have g4 : Grow m (m3.new (rowObj ({ n with n := k } : Nd).val 58 0)) := g3.new _
 have s4 : Sl (fun c => c < m.next) (m3.new (rowObj ({ n with n := k } : Nd).val 58 0)) (.slice (some ⟨m3.next, 0, none⟩) 1 1) 58 5 (nflat [{ n with n := k }]) := .inr ⟨m3.next, 1, _, 1, rfl, fun h => by have := g3.1; omega, r4, rfl, Nat.le_refl _, rfl⟩
 have hin := (hs.grow g4).cells (by decide) (n := L.length) hfl
 have hX : ∀ c, c < m.next → c < (m3.new (rowObj ({ n with n := k } : Nd).val 58 0)).next := fun c hc => Nat.lt_of_lt_of_le hc g4.1
 apply g_app (X := fun c => c < m.next) (l0 := nflat [{ n with n := k }]) (new := nflat L) (kk := L.length)
 focus exact Rf.mk
 focus exact Rf.mk
 focus exact Rf.mk
 focus exact Rf.mk
 focus exact Rf.mk
 focus exact Rf.mk
 focus (apply Ev.mk; (simp only [evs, Nat.reduceEqDiff, reduceIte] <;> rfl))
 focus (apply Ev.mk; (simp only [evs, Nat.reduceEqDiff, reduceIte] <;> rfl))
 focus (apply Dn.mk; (simp only [evs, Nat.reduceEqDiff, reduceIte] <;> rfl))
 focus exact Hy.mk (by simp only [evs]; exact hin)
 focus exact Hy.mk (by simp only [evs]; exact s4)
 focus exact Hy.mk (by simp only [evs]; exact hX)
 focus exact Rf.mk
 focus (rw [hblt]; exact Rf.mk)
 focus (rw [hfl]; exact Rf.mk)
 focus (rw [hf1]; exact Rf.mk)
 focus exact Om.mk (by show 5 + _ ≤ _; omega)
 focus exact Rf.mk
 focus exact Rf.mk
 refine Cn.mk ?_
 intro v' m5 s5 k5 o5 b5 f5
 simp only [evs] at s5 k5
 have kk := (Keep.grow g4).trans k5
 rw [← nflat_app] at s5
 (repeat (first | (apply G.h; constructor <;> (first | exact Zc | apply gI | ((repeat' (first | exact Y0 | apply Y1 | ((first | apply Y4 | apply Y5); simp only [evs, Nat.reduceEqDiff, reduceIte] <;> rfl))); done) | (apply Y6; (try simp only [evs]); first | rfl)))))
 (refine g_fin (by repeat' first | exact Rs.nil | apply Rs.cons | (apply Y4; simp only [evs, Nat.reduceEqDiff, reduceIte] <;> rfl)) (by (simp only [evs, Nat.reduceEqDiff, reduceIte] <;> first | rfl | (congr 1; omega) | omega)) ?_)
 exact ⟨by simp only [evs]; exact kk, by simp only [evs]; exact s5⟩
set_option maxHeartbeats 2000000 in
/-- two lists as one, of which the first is empty. -/
theorem both52 (L : List Nd) (hL : 0 < L.length) (hl : L.length ≤ 100000) {X : Nat → Prop} {m : Mem} {v : Value} (hs : Sl X m v 58 5 (nflat L)) : Runs evEnv 59 [.slice none 0 0, v] m fun v' m' => Keep (fun c => c < m.next) [58] m m' ∧ Sl (fun c => c < m.next) m' v' 58 5 (nflat L) := by
 obtain ⟨va, vn, vc, rfl, hvn⟩ := hs.form (by decide)
 have hfl := nflat_len L
 have hf1 := nflat_one L
 have hvl : vn = L.length := by omega
 subst hvl
 have hblt : Nat.blt 0 L.length = true := by rw [Nat.blt_eq]; exact hL
 have g1 : Grow m (m.new (rowObj [] 58 0)) := (Grow.refl m).new _
 have s1 : Sl (fun c => c < m.next) (m.new (rowObj [] 58 0)) (.slice (some ⟨m.next, 0, none⟩) 0 0) 58 5 [] := .inr ⟨m.next, 0, [], 0, rfl, Nat.lt_irrefl _, row_new m [] 58 0, rfl, Nat.le_refl _, rfl⟩
 refine runs_start rfl rfl rfl rfl ?_
 (repeat (first | (apply G.h; constructor <;> (first | exact Zc | apply gI | ((repeat' (first | exact Y0 | apply Y1 | ((first | apply Y4 | apply Y5); simp only [evs, Nat.reduceEqDiff, reduceIte] <;> rfl))); done) | (apply Y6; (try simp only [evs]); first | rfl)))))
 apply g_app0 (X := fun c => c < m.next) (l0 := [])
 focus exact Rf.mk
 focus exact Rf.mk
 focus exact Rf.mk
 focus exact Rf.mk
 focus exact Rf.mk
 focus exact Rf.mk
 focus (apply Ev.mk; (simp only [evs, Nat.reduceEqDiff, reduceIte] <;> rfl))
 focus (apply Ev.mk; (simp only [evs, Nat.reduceEqDiff, reduceIte] <;> rfl))
 focus (apply Dn.mk; (simp only [evs, Nat.reduceEqDiff, reduceIte] <;> rfl))
 focus exact Hy.mk rfl
 focus exact Hy.mk (by simp only [evs]; exact s1)
 refine Cn.mk ?_
 intro m4 e4 n4
 simp only [evs] at e4 n4
 have g4 : Grow m m4 := ⟨Nat.le_trans g1.1 (Nat.le_of_eq n4.symm), fun c hc => (e4 c).trans (g1.2 c hc)⟩
 have s4 : Sl (fun c => c < m.next) m4 (.slice (some ⟨m.next, 0, none⟩) 0 0) 58 5 [] := s1.grow ⟨Nat.le_of_eq n4.symm, fun c _ => e4 c⟩
 have hin := (hs.grow g4).cells (by decide) (n := L.length) hfl
 have hX : ∀ c, c < m.next → c < m4.next := fun c hc => Nat.lt_of_lt_of_le hc g4.1
 (repeat (first | (apply G.h; constructor <;> (first | exact Zc | apply gI | ((repeat' (first | exact Y0 | apply Y1 | ((first | apply Y4 | apply Y5); simp only [evs, Nat.reduceEqDiff, reduceIte] <;> rfl))); done) | (apply Y6; (try simp only [evs]); first | rfl)))))
 apply g_app (X := fun c => c < m.next) (l0 := []) (new := nflat L) (kk := L.length)
 focus exact Rf.mk
 focus exact Rf.mk
 focus exact Rf.mk
 focus exact Rf.mk
 focus exact Rf.mk
 focus exact Rf.mk
 focus (apply Ev.mk; (simp only [evs, Nat.reduceEqDiff, reduceIte] <;> rfl))
 focus (apply Ev.mk; (simp only [evs, Nat.reduceEqDiff, reduceIte] <;> rfl))
 focus (apply Dn.mk; (simp only [evs, Nat.reduceEqDiff, reduceIte] <;> rfl))
 focus exact Hy.mk (by simp only [evs]; exact hin)
 focus exact Hy.mk (by simp only [evs]; exact s4)
 focus exact Hy.mk (by simp only [evs]; exact hX)
 focus exact Rf.mk
 focus (rw [hblt]; exact Rf.mk)
 focus (rw [hfl]; exact Rf.mk)
 focus (rw [hf1]; exact Rf.mk)
 focus exact Om.mk (by simp; omega)
 focus exact Rf.mk
 focus exact Rf.mk
 refine Cn.mk ?_
 intro v' m5 s5 k5 o5 b5 f5
 simp only [evs, List.nil_append] at s5 k5
 (repeat (first | (apply G.h; constructor <;> (first | exact Zc | apply gI | ((repeat' (first | exact Y0 | apply Y1 | ((first | apply Y4 | apply Y5); simp only [evs, Nat.reduceEqDiff, reduceIte] <;> rfl))); done) | (apply Y6; (try simp only [evs]); first | rfl)))))
 (refine g_fin (by repeat' first | exact Rs.nil | apply Rs.cons | (apply Y4; simp only [evs, Nat.reduceEqDiff, reduceIte] <;> rfl)) (by (simp only [evs, Nat.reduceEqDiff, reduceIte] <;> first | rfl | (congr 1; omega) | omega)) ?_)
 refine ⟨by simp only [evs]; exact (Keep.grow g4).trans k5, by simp only [evs]; exact s5⟩
set_option maxHeartbeats 2000000 in
/-- no sign that stands between two. -/
theorem level72 (p : Nat) (m : Mem) : Runs evEnv 76 [.agg ⟨[I 5, encS [59], I 0, I p]⟩] m fun v m' => v = I (-1) ∧ Grow m m' := by
 have r0 := row_new m [I 5, encS [59], I 0, I p] 87 0
 have g1 : Grow m (m.new (rowObj [I 5, encS [59], I 0, I p] 87 0)) := (Grow.refl m).new _
 have w0 : ¬ ([59] : List UInt8) = [111, 114] := by decide
 have w1 : ¬ ([59] : List UInt8) = [97, 110, 100] := by decide
 have w2 : ¬ ([59] : List UInt8) = [61, 61] := by decide
 have w3 : ¬ ([59] : List UInt8) = [33, 61] := by decide
 have w4 : ¬ ([59] : List UInt8) = [60] := by decide
 have w5 : ¬ ([59] : List UInt8) = [60, 61] := by decide
 have w6 : ¬ ([59] : List UInt8) = [62] := by decide
 have w7 : ¬ ([59] : List UInt8) = [62, 61] := by decide
 have w8 : ¬ ([59] : List UInt8) = [43] := by decide
 have w9 : ¬ ([59] : List UInt8) = [45] := by decide
 have w10 : ¬ ([59] : List UInt8) = [42] := by decide
 have w11 : ¬ ([59] : List UInt8) = [47] := by decide
 have w12 : ¬ ([59] : List UInt8) = [37] := by decide
 refine runs_start rfl rfl rfl rfl ?_
 (repeat (first | (apply G.h; constructor <;> (first | exact Zc | apply gI | ((repeat' (first | exact Y0 | apply Y1 | ((first | apply Y4 | apply Y5); simp only [evs, Nat.reduceEqDiff, reduceIte] <;> rfl))); done) | (apply Y6; (try simp only [evs]); first | exact r0.load1 rfl rfl rfl)))))
 (refine g_fin (by repeat' first | exact Rs.nil | apply Rs.cons | (apply Y4; simp only [evs, Nat.reduceEqDiff, reduceIte] <;> rfl)) (by (simp only [evs, Nat.reduceEqDiff, reduceIte] <;> first | rfl | (congr 1; omega) | omega)) ?_)
 exact ⟨rfl, by simp only [evs]; exact g1⟩
end Go.Proofs.YthhcnfgeacnfiaaGreatDoor

namespace Go.Proofs.YthhcnfgeacnfiaaGreatDoor
open Go Go.Ev
set_option maxRecDepth 100000
set_option linter.unusedVariables false
set_option linter.unusedSimpArgs false
set_option pp.maxSteps 1500
theorem find_i0 (m : Mem) : effect.upd evEnv m 3 (I 0) (I 0) [] = some [(I 0, I 0)] := by
 have hu : evEnv.under 3 = some (.int .i64) := by rfl
 simp only [effect.upd, quiet.keyOk, hu, cond_true]
/-- what Compile's work may turn. -/
abbrev TC : List Nat := [105, 116, 64, mapTag, 3, 121, 46, 35, 71, 31, 44]
/-- what Compile answers. -/
def CompV (X : Nat → Prop) (m' : Mem) (n : Nat) (v : Value) : Prop :=
 (n ≤ 255 ∧ ∃ fv cv, v = .tuple ⟨[.agg ⟨[fv, nilS, nilS, I 1]⟩, I 0, I 0]⟩ ∧ Sl X m' fv 44 6 [I 0, I 0, nilS, nilS, cv, nilS] ∧ Sl X m' cv 46 3 (codeL n)) ∨
 (255 < n ∧ v = .tuple ⟨[.agg ⟨[nilS, nilS, nilS, I 0]⟩, I 3, I (if 256 < n then 0 else 8 : Nat)]⟩)
attribute [local irreducible] quiet allocs effect wp ret wpO Runs Act.tmp Act.eval fin results Tree.set binOp loadAt storeAt target wanted cellsFrom

set_option maxHeartbeats 8000000 in
theorem compile10 (b off cap n : Nat) (hn0 : 0 < n) (hn : n ≤ 500) (m : Mem) (hN : Nodes m b off (listN n)) (hNm : Names m) (hbn : b < m.next) (h0 : 0 < m.next) :
  Runs evEnv 10 [.slice (some ⟨b, off, none⟩) (3 + n) cap] m fun v m' => Keep (fun c => c < m.next) TC m m' ∧ CompV (fun c => c < m.next) m' n v := by
 have z1 := row_new m [nilS, nilS, nilS, I 0] 35 0
 have g1 : Grow m (m.new (rowObj [nilS, nilS, nilS, I 0] 35 0)) := (Grow.refl m).new _
 have hN1 := hN.grow hbn g1
 have hNm1 := hNm.stay (X := fun c => c < m.next) h0 h0 (Keep.grow (T := []) g1)
 refine runs_start rfl rfl rfl rfl ?_
 (repeat (first | apply wpN_cons | apply g_next | (apply G.h; constructor <;> (first | exact Zc | apply gI | ((repeat' (first | exact Y0 | apply Y1 | ((first | apply Y4 | apply Y5); simp only [evs, Nat.reduceEqDiff, reduceIte] <;> rfl))); done) | (apply Y6; (try simp only [evs]); first | rfl)))))
 ((first | apply g_run | apply g_run0) <;> (first | ((repeat' (first | exact Y0 | apply Y1 | exact Y2 | apply Y3 | ((first | apply Y4 | apply Y5); simp only [evs, Nat.reduceEqDiff, reduceIte] <;> rfl))); done) | exact Rn.mk ((by simp only [evs]; exact resolveL b off cap n hn _ hN1 hNm1 (Nat.lt_succ_of_lt hbn) (Nat.succ_pos _))) | apply Cn.mk))
 rintro v m2 ⟨k2, fv, uv, gv, rfl, sf, su, sg⟩
 try simp only [evs] at k2 sf su sg
 obtain ⟨xb, xc, xr, xn, rfl, x2, x3, x4, x5, x6, -⟩ := sf.at (i := 0) (by show 0 < 4; decide)
 have hxn : xn = 1 := by
  have := congrArg List.length x6
  rw [List.length_take] at this
  have h1 : [I 0, I 0, I 0, nilS].length = 4 := rfl
  omega
 subst hxn
 obtain ⟨ga, gn, gc, rfl, hgn⟩ := sg.form (by decide)
 have hgn1 : gn = 1 := by
  have h1 : [encS [120]].length = 1 := rfl
  omega
 subst hgn1
 have hul : (put (repeatList [I 0, I 0] (3 + n)) 2 [I 4, I 0]).length = (3 + n) * 2 := by rw [put_length, repeat_len2]; rfl
 obtain ⟨ub, uc, ur, un, rfl, u2, u3, u4, u5, u6, -⟩ := su.at (i := 0) (by omega)
 have hun : un = 3 + n := by
  have := congrArg List.length u6
  rw [List.length_take] at this
  omega
 subst hun
 have z2 : Row m2 m.next [nilS, nilS, nilS, I 0] 35 0 := z1.stay k2 (.inl (Nat.lt_succ_self _))
 have k02 : Keep (fun c => c < m.next) TC m m2 := (Keep.grow g1).trans ((Keep.sub k2 fun c hc => Nat.lt_succ_of_lt hc).mono (by simp))
 have z3 := row_new m2 [nilS, nilS, nilS] 64 0
 (repeat (first | apply wpN_cons | apply g_next | (apply G.h; constructor <;> (first | exact Zc | apply gI | ((repeat' (first | exact Y0 | apply Y1 | ((first | apply Y4 | apply Y5); simp only [evs, Nat.reduceEqDiff, reduceIte] <;> rfl))); done) | (apply Y6; (try simp only [evs]); first | rfl)))))
 (apply g_stR <;> (first | exact Zc | apply gI | ((repeat' (first | exact Y0 | apply Y1 | exact Y2 | apply Y3 | ((first | apply Y4 | apply Y5); simp only [evs, Nat.reduceEqDiff, reduceIte] <;> rfl))); done) | (apply Hy.mk; (try simp only [evs]); first | exact z3 | assumption) | (apply Om.mk; first | exact z3) | (apply Y6; (try simp only [evs]); first | rfl) | apply Cn.mk))
 intro m4 r4 o4 n4; simp only [evs] at r4 o4 n4
 have g4 : Grow m2 m4 := ((Grow.refl m2).new _).wrote (Nat.le_refl _) o4 n4
 have k04 : Keep (fun c => c < m.next) TC m m4 := k02.trans (Keep.grow g4)
 have hN4 : Nodes m4 b off (listN n) := hN.stay (X := fun c => c < m.next) hbn hbn k04
 have hb4 : b < m4.next := Nat.lt_of_lt_of_le hbn k04.1
 (repeat (first | apply wpN_cons | apply g_next | (apply G.h; constructor <;> (first | exact Zc | apply gI | ((repeat' (first | exact Y0 | apply Y1 | ((first | apply Y4 | apply Y5); simp only [evs, Nat.reduceEqDiff, reduceIte] <;> rfl))); done) | (apply Y6; (try simp only [evs]); first | rfl)))))
 ((first | apply g_run | apply g_run0) <;> (first | ((repeat' (first | exact Y0 | apply Y1 | exact Y2 | apply Y3 | ((first | apply Y4 | apply Y5); simp only [evs, Nat.reduceEqDiff, reduceIte] <;> rfl))); done) | exact Rn.mk ((by simp only [evs]; exact fits19 hn0 (by omega) hN4 hb4)) | apply Cn.mk))
 rintro v m5 ⟨rfl, k5⟩
 try simp only [evs] at k5
 have k05 : Keep (fun c => c < m.next) TC m m5 := k04.trans k5.all
 have z5 : Row m5 m.next [nilS, nilS, nilS, I 0] 35 0 := (z2.grow g4).stay k5 (.inl (z2.grow g4).1)
 by_cases h255 : 255 < n
 ·rw [if_pos h255]
  have hposA : ∃ p, badAt n = p ∧ p < 3 + n ∧ ∀ m' : Mem, Nodes m' b off (listN n) → loadAt evEnv m' 3 b (off + p * 5 + 4) = some (I (if 256 < n then 0 else 8 : Nat)) := by
   unfold badAt
   by_cases h : 256 < n
   ·exact ⟨1, by rw [if_pos h], by omega, fun m' h' => by rw [if_pos h]; exact h'.at4 1 (by rw [listN_len]; omega)⟩
   ·exact ⟨2, by rw [if_neg h, if_pos h255], by omega, fun m' h' => by rw [if_neg h]; exact h'.at4 2 (by rw [listN_len]; omega)⟩
  obtain ⟨p, hpe, hp3, hposA⟩ := hposA
  rw [hpe]
  have hN5 : Nodes m5 b off (listN n) := hN.stay (X := fun c => c < m.next) hbn hbn k05
  have hpos := hposA _ hN5
  (repeat (first | apply wpN_cons | apply g_next | (apply G.h; constructor <;> (first | exact Zc | apply gI | ((repeat' (first | exact Y0 | apply Y1 | ((first | apply Y4 | apply Y5); simp only [evs, Nat.reduceEqDiff, reduceIte] <;> rfl))); done) | (apply Y6; (try simp only [evs]); first | rfl)))))
  (apply g_regionN [0, 1, 2, 3, 4, 5, 6, 7, 8, 9] [(1, 10), (2, 10), (3, 10), (4, 10), (5, 10), (6, 10)]; (focus exact Kr.mk (by kernel_rfl)); (focus exact Rf.mk))
  (repeat (first | apply wpN_cons | apply g_next | (apply G.h; constructor <;> (first | exact Zc | apply gI | ((repeat' (first | exact Y0 | apply Y1 | ((first | apply Y4 | apply Y5); simp only [evs, Nat.reduceEqDiff, reduceIte] <;> rfl))); done) | (apply Y6; (try simp only [evs]); first | exact hpos)))))
  (apply g_stR <;> (first | exact Zc | apply gI | ((repeat' (first | exact Y0 | apply Y1 | exact Y2 | apply Y3 | ((first | apply Y4 | apply Y5); simp only [evs, Nat.reduceEqDiff, reduceIte] <;> rfl))); done) | (apply Hy.mk; (try simp only [evs]); first | exact z5 | assumption) | (apply Om.mk; first | exact z5) | (apply Y6; (try simp only [evs]); first | rfl) | apply Cn.mk))
  intro m6 r6 o6 n6; simp only [evs] at r6 o6 n6
  have k56 : Keep (fun c => c < m.next) [35] m5 m6 := Keep.row z5 (fun hh => Nat.lt_irrefl _ hh) (by decide) o6 n6
  have k06 : Keep (fun c => c < m.next) TC m m6 := k05.trans (k56.mono (by simp))
  have hpos6 := hposA _ (hN.stay (X := fun c => c < m.next) hbn hbn k06)
  (repeat (first | apply wpN_cons | apply g_next | (apply G.h; constructor <;> (first | exact Zc | apply gI | ((repeat' (first | exact Y0 | apply Y1 | ((first | apply Y4 | apply Y5); simp only [evs, Nat.reduceEqDiff, reduceIte] <;> rfl))); done) | (apply Y6; (try simp only [evs]); first | rfl)))))
  refine g_last (.mk ⟨.mk ?_, .mk ?_, .mk ?_, .mk ?_, .mk ?_, .mk ?_, trivial⟩) ?_
  ·(apply again_of; exact Rf.mk; exact Rf.mk; (apply Ev.mk; (simp only [evs, Nat.reduceEqDiff, reduceIte] <;> rfl)); exact Rf.mk; (repeat (first | apply wpN_cons | apply g_next | (apply G.h; constructor <;> (first | exact Zc | apply gI | ((repeat' (first | exact Y0 | apply Y1 | ((first | apply Y4 | apply Y5); simp only [evs, Nat.reduceEqDiff, reduceIte] <;> rfl))); done) | (apply Y6; (try simp only [evs]); first | rfl))))); refine eret_nil ?_; (simp only [evs, Nat.reduceEqDiff, reduceIte] <;> rfl))
  ·(apply again_of; exact Rf.mk; exact Rf.mk; (apply Ev.mk; (simp only [evs, Nat.reduceEqDiff, reduceIte] <;> rfl)); exact Rf.mk; (repeat (first | apply wpN_cons | apply g_next | (apply G.h; constructor <;> (first | exact Zc | apply gI | ((repeat' (first | exact Y0 | apply Y1 | ((first | apply Y4 | apply Y5); simp only [evs, Nat.reduceEqDiff, reduceIte] <;> rfl))); done) | (apply Y6; (try simp only [evs]); first | rfl))))); refine eret_nil ?_; (simp only [evs, Nat.reduceEqDiff, reduceIte] <;> rfl))
  ·(apply again_of; exact Rf.mk; exact Rf.mk; (apply Ev.mk; (simp only [evs, Nat.reduceEqDiff, reduceIte] <;> rfl)); exact Rf.mk; (repeat (first | apply wpN_cons | apply g_next | (apply G.h; constructor <;> (first | exact Zc | apply gI | ((repeat' (first | exact Y0 | apply Y1 | ((first | apply Y4 | apply Y5); simp only [evs, Nat.reduceEqDiff, reduceIte] <;> rfl))); done) | (apply Y6; (try simp only [evs]); first | rfl))))); refine eret_nil ?_; (simp only [evs, Nat.reduceEqDiff, reduceIte] <;> rfl))
  ·(apply again_of; exact Rf.mk; exact Rf.mk; (apply Ev.mk; (simp only [evs, Nat.reduceEqDiff, reduceIte] <;> rfl)); exact Rf.mk; (repeat (first | apply wpN_cons | apply g_next | (apply G.h; constructor <;> (first | exact Zc | apply gI | ((repeat' (first | exact Y0 | apply Y1 | ((first | apply Y4 | apply Y5); simp only [evs, Nat.reduceEqDiff, reduceIte] <;> rfl))); done) | (apply Y6; (try simp only [evs]); first | rfl))))); refine eret_nil ?_; (simp only [evs, Nat.reduceEqDiff, reduceIte] <;> rfl))
  ·(apply again_of; exact Rf.mk; exact Rf.mk; (apply Ev.mk; (simp only [evs, Nat.reduceEqDiff, reduceIte] <;> rfl)); exact Rf.mk; (repeat (first | apply wpN_cons | apply g_next | (apply G.h; constructor <;> (first | exact Zc | apply gI | ((repeat' (first | exact Y0 | apply Y1 | ((first | apply Y4 | apply Y5); simp only [evs, Nat.reduceEqDiff, reduceIte] <;> rfl))); done) | (apply Y6; (try simp only [evs]); first | rfl))))); refine eret_nil ?_; (simp only [evs, Nat.reduceEqDiff, reduceIte] <;> rfl))
  ·(apply again_of; exact Rf.mk; exact Rf.mk; (apply Ev.mk; (simp only [evs, Nat.reduceEqDiff, reduceIte] <;> rfl)); exact Rf.mk; (repeat (first | apply wpN_cons | apply g_next | (apply G.h; constructor <;> (first | exact Zc | apply gI | ((repeat' (first | exact Y0 | apply Y1 | ((first | apply Y4 | apply Y5); simp only [evs, Nat.reduceEqDiff, reduceIte] <;> rfl))); done) | (apply Y6; (try simp only [evs]); first | exact hpos6))))); refine eret_nil ?_; (simp only [evs, Nat.reduceEqDiff, reduceIte] <;> rfl))
  (repeat (first | apply wpN_cons | apply g_next | (apply G.h; constructor <;> (first | exact Zc | apply gI | ((repeat' (first | exact Y0 | apply Y1 | ((first | apply Y4 | apply Y5); simp only [evs, Nat.reduceEqDiff, reduceIte] <;> rfl))); done) | (apply Y6; (try simp only [evs]); first | rfl)))))
  refine g_fin3c (b := m.next) (o := 0) (.agg ⟨[nilS, nilS, nilS, I 0]⟩) (I 3) (I (if 256 < n then 0 else 8 : Nat)) rfl ?_ ?_ ?_ ?_ ?_ ?_
  ·(simp only [evs, Nat.reduceEqDiff, reduceIte] <;> first | rfl | (congr 1; omega) | omega)
  ·(simp only [evs, Nat.reduceEqDiff, reduceIte] <;> first | rfl | (congr 1; omega) | omega)
  ·simp only [evs]; exact r6.loadA (k := 4) rfl rfl rfl (Nat.le_refl 4) rfl
  ·(simp only [evs, Nat.reduceEqDiff, reduceIte] <;> first | rfl | (congr 1; omega) | omega)
  ·(simp only [evs, Nat.reduceEqDiff, reduceIte] <;> first | rfl | (congr 1; omega) | omega)
  ·simp only [evs]
   exact ⟨k06, .inr ⟨h255, rfl⟩⟩
 ·rw [if_neg h255, show badAt n = 0 by unfold badAt; rw [if_neg (by omega), if_neg h255]]
  have r5 : Row m5 m2.next [.slice (some ⟨xb, 0, none⟩) 1 xc, .slice (some ⟨ub, 0, none⟩) (3 + n) uc, .slice ga 1 gc] 64 0 := Row.stay (X := fun c => c < m4.next) (m := m4) r4 k5 (.inl r4.1)
  have x5r : Row m5 xb xr 73 0 := Row.stay (m := m4) (X := fun c => c < m4.next) (x3.grow g4) k5 (.inl (x3.grow g4).1)
  have u5r : Row m5 ub ur 116 0 := Row.stay (m := m4) (X := fun c => c < m4.next) (u3.grow g4) k5 (.inl (u3.grow g4).1)
  have hxt : (xr.drop 0).take 4 = [I 0, I 0, I 0, nilS] := by rw [List.drop_zero]; exact x6.symm
  have hx4 : 0 + 4 ≤ xr.length := by omega
  have hU5 : Ul m5 ub := by
   refine ⟨ur, u5r, by omega, ?_⟩
   have e1 : (put (repeatList [I 0, I 0] (3 + n)) 2 [I 4, I 0]).drop 2 = (ur.take ((3 + n) * 2)).drop 2 := by rw [u6]
   have e2 := congrArg (List.take 2) e1
   rw [List.drop_take, List.take_take, Nat.min_eq_left (by omega)] at e2
   rw [← e2, show 3 + n = (n + 1) + 1 + 1 by omega]; rfl
  have q6 : Row (((m5.new (.map [])).new (.map [])).new (rowObj [.slice (some ⟨b, off, none⟩) (3 + n) cap, .slice (some ⟨xb, 0, none⟩) 1 xc, .slice (some ⟨ub, 0, none⟩) (3 + n) uc, .slice ga 1 gc, nilS, nilS, nilS, I 0, .map (some m5.next), .map (some (m5.next + 1))] 71 0)) (m5.next + 2) [.slice (some ⟨b, off, none⟩) (3 + n) cap, .slice (some ⟨xb, 0, none⟩) 1 xc, .slice (some ⟨ub, 0, none⟩) (3 + n) uc, .slice ga 1 gc, nilS, nilS, nilS, I 0, .map (some m5.next), .map (some (m5.next + 1))] 71 0 := row_new ((m5.new (.map [])).new (.map [])) [.slice (some ⟨b, off, none⟩) (3 + n) cap, .slice (some ⟨xb, 0, none⟩) 1 xc, .slice (some ⟨ub, 0, none⟩) (3 + n) uc, .slice ga 1 gc, nilS, nilS, nilS, I 0, .map (some m5.next), .map (some (m5.next + 1))] 71 0
  have mp6 : Mp (((m5.new (.map [])).new (.map [])).new (rowObj [.slice (some ⟨b, off, none⟩) (3 + n) cap, .slice (some ⟨xb, 0, none⟩) 1 xc, .slice (some ⟨ub, 0, none⟩) (3 + n) uc, .slice ga 1 gc, nilS, nilS, nilS, I 0, .map (some m5.next), .map (some (m5.next + 1))] 71 0)) (m5.next + 1) [] := (mp_new (m5.new (.map []))).stay (X := fun _ => True) (T := []) (Keep.new _) (.inl trivial)
  have g56 : Grow m5 (((m5.new (.map [])).new (.map [])).new (rowObj [.slice (some ⟨b, off, none⟩) (3 + n) cap, .slice (some ⟨xb, 0, none⟩) 1 xc, .slice (some ⟨ub, 0, none⟩) (3 + n) uc, .slice ga 1 gc, nilS, nilS, nilS, I 0, .map (some m5.next), .map (some (m5.next + 1))] 71 0)) := (((Grow.refl m5).new _).new _).new _
  have r6 := r5.grow g56
  have x6r := x5r.grow g56
  have zf := row_new (((m5.new (.map [])).new (.map [])).new (rowObj [.slice (some ⟨b, off, none⟩) (3 + n) cap, .slice (some ⟨xb, 0, none⟩) 1 xc, .slice (some ⟨ub, 0, none⟩) (3 + n) uc, .slice ga 1 gc, nilS, nilS, nilS, I 0, .map (some m5.next), .map (some (m5.next + 1))] 71 0)) [I 0, I 0, I 0, nilS] 73 0
  (repeat (first | apply wpN_cons | apply g_next | (apply G.h; constructor <;> (first | exact Zc | apply gI | ((repeat' (first | exact Y0 | apply Y1 | ((first | apply Y4 | apply Y5); simp only [evs, Nat.reduceEqDiff, reduceIte] <;> rfl))); done) | (apply Y6; (try simp only [evs]); first | exact r5.loadA (k := 3) rfl rfl rfl (Nat.le_refl 3) rfl | exact r6.load1 rfl rfl rfl)))))
  refine ewp_loop (ι := Bool) (fun s a => (a.n = 91 ∧ a.defers = [] ∧ a.tmp 2 = ptr m.next ∧ a.tmp 5 = ptr m2.next ∧ a.tmp 8 = ptr (m5.next + 2) ∧ a.tmp 44 = .slice (some ⟨xb, 0, none⟩) 1 xc ∧ a.tmp 45 = I 1 ∧ a.tmp 46 = I (if s then 0 else 1 : Nat)) ∧ (if s then a.m = (((m5.new (.map [])).new (.map [])).new (rowObj [.slice (some ⟨b, off, none⟩) (3 + n) cap, .slice (some ⟨xb, 0, none⟩) 1 xc, .slice (some ⟨ub, 0, none⟩) (3 + n) uc, .slice ga 1 gc, nilS, nilS, nilS, I 0, .map (some m5.next), .map (some (m5.next + 1))] 71 0)) else Keep (fun c => c ≠ m5.next + 1) [mapTag] (((m5.new (.map [])).new (.map [])).new (rowObj [.slice (some ⟨b, off, none⟩) (3 + n) cap, .slice (some ⟨xb, 0, none⟩) 1 xc, .slice (some ⟨ub, 0, none⟩) (3 + n) uc, .slice ga 1 gc, nilS, nilS, nilS, I 0, .map (some m5.next), .map (some (m5.next + 1))] 71 0)) a.m)) (fun s => if s then 1 else 0) true ?_ ?_
  ·exact ⟨(by refine ⟨?_, ?_, ?_, ?_, ?_, ?_, ?_, ?_⟩ <;> (simp only [evs, Nat.reduceEqDiff, reduceIte] <;> first | rfl | (congr 1; omega) | omega)), by rw [if_pos rfl]; (simp only [evs, Nat.reduceEqDiff, reduceIte] <;> first | rfl | (congr 1; omega) | omega)⟩
  rintro s a ⟨⟨qn, qd, q2_, q5_, q8, q44, q45, q46⟩, hs⟩ ih
  cases s with
  | true =>
   rw [if_pos rfl] at hs q46
   (repeat (first | apply wpN_cons | apply g_next | (apply G.h; constructor <;> (first | exact Zc | apply gI | ((repeat' (first | exact Y0 | apply Y1 | ((first | apply Y4 | apply Y5); simp only [evs, Nat.reduceEqDiff, reduceIte, qn, qd, q2_, q5_, q8, q44, q45, q46, hs] <;> rfl))); done) | (apply Y6; (try simp only [evs, qn, qd, q2_, q5_, q8, q44, q45, q46, hs]); first | exact x6r.loadA (k := 4) rfl rfl rfl hx4 hxt)))))
   (apply g_stR <;> (first | exact Zc | apply gI | ((repeat' (first | exact Y0 | apply Y1 | exact Y2 | apply Y3 | ((first | apply Y4 | apply Y5); simp only [evs, Nat.reduceEqDiff, reduceIte, qn, qd, q2_, q5_, q8, q44, q45, q46, hs] <;> rfl))); done) | (apply Hy.mk; (try simp only [evs, qn, qd, q2_, q5_, q8, q44, q45, q46, hs]); first | exact zf | assumption) | (apply Om.mk; first | exact zf) | (apply Y6; (try simp only [evs, qn, qd, q2_, q5_, q8, q44, q45, q46, hs]); first | rfl) | apply Cn.mk))
   intro m7 r7 o7 n7; simp only [evs, qn, qd, q2_, q5_, q8, q44, q45, q46, hs] at r7 o7 n7
   replace r7 : Row m7 (m5.next + 3) [I 0, I 0, I 0, nilS] 73 0 := r7
   have g7 : Grow (((m5.new (.map [])).new (.map [])).new (rowObj [.slice (some ⟨b, off, none⟩) (3 + n) cap, .slice (some ⟨xb, 0, none⟩) 1 xc, .slice (some ⟨ub, 0, none⟩) (3 + n) uc, .slice ga 1 gc, nilS, nilS, nilS, I 0, .map (some m5.next), .map (some (m5.next + 1))] 71 0)) m7 := ((Grow.refl _).new _).wrote (Nat.le_refl _) o7 n7
   have q7 := q6.grow g7
   have mp7 := mp6.stay (X := fun _ => True) (T := []) (Keep.grow g7) (.inl trivial)
   have hupd := find_i0 m7
   (repeat (first | apply wpN_cons | apply g_next | (apply G.h; constructor <;> (first | exact Zc | apply gI | ((repeat' (first | exact Y0 | apply Y1 | ((first | apply Y4 | apply Y5); simp only [evs, Nat.reduceEqDiff, reduceIte, qn, qd, q2_, q5_, q8, q44, q45, q46, hs] <;> rfl))); done) | (apply Y6; (try simp only [evs, qn, qd, q2_, q5_, q8, q44, q45, q46, hs]); first | exact q7.load1 rfl rfl rfl | exact r7.load1 rfl rfl rfl)))))
   (apply g_update <;> (first | exact Zc | apply gI | ((repeat' (first | exact Y0 | apply Y1 | exact Y2 | apply Y3 | ((first | apply Y4 | apply Y5); simp only [evs, Nat.reduceEqDiff, reduceIte, qn, qd, q2_, q5_, q8, q44, q45, q46, hs] <;> rfl))); done) | (apply Hy.mk; (try simp only [evs, qn, qd, q2_, q5_, q8, q44, q45, q46, hs]); first | exact mp7 | exact hupd | assumption) | (apply Om.mk; first | exact mp7 | exact hupd) | (apply Y6; (try simp only [evs, qn, qd, q2_, q5_, q8, q44, q45, q46, hs]); first | rfl) | apply Cn.mk))
   intro m8 mp8 o8 n8
   simp only [evs, qn, qd, q2_, q5_, q8, q44, q45, q46, hs] at o8 n8
   have k8 : Keep (fun c => c ≠ m5.next + 1) [mapTag] m7 m8 := Keep.wrote mp7.2 (fun hh => hh rfl) List.mem_cons_self o8 n8
   (repeat (first | apply wpN_cons | apply g_next | (apply G.h; constructor <;> (first | exact Zc | apply gI | ((repeat' (first | exact Y0 | apply Y1 | ((first | apply Y4 | apply Y5); simp only [evs, Nat.reduceEqDiff, reduceIte, qn, qd, q2_, q5_, q8, q44, q45, q46, hs] <;> rfl))); done) | (apply Y6; (try simp only [evs, qn, qd, q2_, q5_, q8, q44, q45, q46, hs]); first | rfl)))))
   refine ih false _ ⟨(by refine ⟨?_, ?_, ?_, ?_, ?_, ?_, ?_, ?_⟩ <;> (simp only [evs, Nat.reduceEqDiff, reduceIte, qn, qd, q2_, q5_, q8, q44, q45, q46, hs] <;> first | rfl | (congr 1; omega) | omega)), ?_⟩ (by decide)
   rw [if_neg (by decide)]
   simp only [evs]
   exact (Keep.grow g7).trans k8
  | false =>
   clear ih
   rw [if_neg (by decide)] at hs q46
   have q8r := q6.stay hs (.inr (by decide))
   have r8 := r6.stay hs (.inr (by decide))
   have k58 : Keep (fun c => c < m.next) TC m5 a.m := (Keep.grow g56).trans ((Keep.sub hs fun c hc => by have := k05.1; show c ≠ m5.next + 1; have hc : c < m.next := hc; omega).mono (by simp))
   (repeat (first | apply wpN_cons | apply g_next | (apply G.h; constructor <;> (first | exact Zc | apply gI | ((repeat' (first | exact Y0 | apply Y1 | ((first | apply Y4 | apply Y5); simp only [evs, Nat.reduceEqDiff, reduceIte, qn, qd, q2_, q5_, q8, q44, q45, q46] <;> rfl))); done) | (apply Y6; (try simp only [evs, qn, qd, q2_, q5_, q8, q44, q45, q46]); first | exact r8.load1 rfl rfl rfl | exact q8r.load1 rfl rfl rfl)))))
   (apply g_stR <;> (first | exact Zc | apply gI | ((repeat' (first | exact Y0 | apply Y1 | exact Y2 | apply Y3 | ((first | apply Y4 | apply Y5); simp only [evs, Nat.reduceEqDiff, reduceIte, qn, qd, q2_, q5_, q8, q44, q45, q46] <;> rfl))); done) | (apply Hy.mk; (try simp only [evs, qn, qd, q2_, q5_, q8, q44, q45, q46]); first | exact q8r | assumption) | (apply Om.mk; first | exact q8r) | (apply Y6; (try simp only [evs, qn, qd, q2_, q5_, q8, q44, q45, q46]); first | rfl) | apply Cn.mk))
   intro m9 r9 o9 n9; simp only [evs, qn, qd, q2_, q5_, q8, q44, q45, q46] at r9 o9 n9
   replace r9 : Row m9 (m5.next + 2) [.slice (some ⟨b, off, none⟩) (3 + n) cap, .slice (some ⟨xb, 0, none⟩) 1 xc, .slice (some ⟨ub, 0, none⟩) (3 + n) uc, .slice ga 1 gc, nilS, nilS, nilS, I 1, .map (some m5.next), .map (some (m5.next + 1))] 71 0 := r9
   have k9 : Keep (fun c => c ≠ m5.next + 2) [71] a.m m9 := Keep.row q8r (fun hh => hh rfl) (by decide) o9 n9
   have r89 := r8.stay k9 (.inr (by decide))
   (repeat (first | apply wpN_cons | apply g_next | (apply G.h; constructor <;> (first | exact Zc | apply gI | ((repeat' (first | exact Y0 | apply Y1 | ((first | apply Y4 | apply Y5); simp only [evs, Nat.reduceEqDiff, reduceIte, qn, qd, q2_, q5_, q8, q44, q45, q46] <;> rfl))); done) | (apply Y6; (try simp only [evs, qn, qd, q2_, q5_, q8, q44, q45, q46]); first | exact r89.load1 rfl rfl rfl)))))
   have k59 : Keep (fun c => c < m.next) TC m5 m9 := k58.trans ((Keep.sub k9 fun c hc => by have := k05.1; show c ≠ m5.next + 2; have hc : c < m.next := hc; omega).mono (by simp))
   have k09 : Keep (fun c => c < m.next) TC m m9 := k05.trans k59
   have q68 : Keep (fun c => c ≠ m5.next + 1 ∧ c ≠ m5.next + 2) [mapTag, 71] (((m5.new (.map [])).new (.map [])).new (rowObj [.slice (some ⟨b, off, none⟩) (3 + n) cap, .slice (some ⟨xb, 0, none⟩) 1 xc, .slice (some ⟨ub, 0, none⟩) (3 + n) uc, .slice ga 1 gc, nilS, nilS, nilS, I 0, .map (some m5.next), .map (some (m5.next + 1))] 71 0)) m9 := ((Keep.sub hs fun c hc => hc.1).mono (by simp)).trans ((Keep.sub k9 fun c hc => hc.2).mono (by simp))
   have x9 : Row m9 xb xr 73 0 := x6r.stay q68 (.inr (by decide))
   have z9 : Row m9 m.next [nilS, nilS, nilS, I 0] 35 0 := (z5.grow g56).stay q68 (.inr (by decide))
   have ub5 : ub < m5.next := u5r.1
   have hU9 : Ul m9 ub := (hU5.grow g56).stay (X := fun c => c ≠ m5.next + 1 ∧ c ≠ m5.next + 2) ⟨by omega, by omega⟩ q68
   have hN9 : Nodes m9 b off (listN n) := hN.stay (X := fun c => c < m.next) hbn hbn k09
   have hb9 : b < m9.next := Nat.lt_of_lt_of_le hbn k09.1
   have hm9 : m.next ≤ m9.next := k09.1
   refine ewp_loop (ι := Bool) (fun s a => (a.n = 91 ∧ a.defers = [] ∧ a.tmp 2 = ptr m.next ∧ a.tmp 8 = ptr (m5.next + 2) ∧ a.tmp 68 = I 1 ∧ a.tmp 69 = I (if s then 0 else 1 : Nat)) ∧ (if s then a.m = m9 else Keep (fun c => c < m.next) TC m a.m ∧ Row a.m m.next [nilS, nilS, nilS, I 0] 35 0 ∧ ∃ fsv cv, Row a.m (m5.next + 2) [.slice (some ⟨b, off, none⟩) (3 + n) cap, .slice (some ⟨xb, 0, none⟩) 1 xc, .slice (some ⟨ub, 0, none⟩) (3 + n) uc, .slice ga 1 gc, fsv, nilS, nilS, I 1, .map (some m5.next), .map (some (m5.next + 1))] 71 0 ∧ Sl (fun c => c < m.next) a.m fsv 44 6 [I 0, I 0, nilS, nilS, cv, nilS] ∧ Sl (fun c => c < m.next) a.m cv 46 3 (codeL n))) (fun s => if s then 1 else 0) true ?_ ?_
   ·exact ⟨(by refine ⟨?_, ?_, ?_, ?_, ?_, ?_⟩ <;> (simp only [evs, Nat.reduceEqDiff, reduceIte, qn, qd, q2_, q5_, q8, q44, q45, q46] <;> first | rfl | (congr 1; omega) | omega)), by rw [if_pos rfl]; (simp only [evs, Nat.reduceEqDiff, reduceIte, qn, qd, q2_, q5_, q8, q44, q45, q46] <;> first | rfl | (congr 1; omega) | omega)⟩
   clear qn qd q2_ q5_ q8 q44 q45 q46
   rintro s a ⟨⟨wn, wd, w2, w8, w68, w69⟩, ws⟩ ih
   cases s with
   | true =>
    rw [if_pos rfl] at ws w69
    (repeat (first | apply wpN_cons | apply g_next | (apply G.h; constructor <;> (first | exact Zc | apply gI | ((repeat' (first | exact Y0 | apply Y1 | ((first | apply Y4 | apply Y5); simp only [evs, Nat.reduceEqDiff, reduceIte, wn, wd, w2, w8, w68, w69, ws] <;> rfl))); done) | (apply Y6; (try simp only [evs, wn, wd, w2, w8, w68, w69, ws]); first | rfl)))))
    (apply g_regionN [0, 1, 2, 3, 4, 5, 6, 7, 8, 9, 10, 11, 12, 13, 14] [(0, 10), (0, 14), (1, 10), (2, 10), (3, 10), (4, 10), (5, 10)]; (focus exact Kr.mk (by kernel_rfl)); (focus exact Rf.mk))
    (repeat (first | apply wpN_cons | apply g_next | (apply G.h; constructor <;> (first | exact Zc | apply gI | ((repeat' (first | exact Y0 | apply Y1 | ((first | apply Y4 | apply Y5); simp only [evs, Nat.reduceEqDiff, reduceIte, wn, wd, w2, w8, w68, w69, ws] <;> rfl))); done) | (apply Y6; (try simp only [evs, wn, wd, w2, w8, w68, w69, ws]); first | exact r9.load1 rfl rfl rfl)))))
    have hfun := function20 b off cap n (m5.next + 2) ub uc m5.next (m5.next + 1) xb xc (.slice ga 1 gc) hn0 (by omega) r9 x9 hx4 hxt hU9 hN9 hb9
    ((first | apply g_run | apply g_run0) <;> (first | ((repeat' (first | exact Y0 | apply Y1 | exact Y2 | apply Y3 | ((first | apply Y4 | apply Y5); simp only [evs, Nat.reduceEqDiff, reduceIte, wn, wd, w2, w8, w68, w69, ws] <;> rfl))); done) | exact Rn.mk ((by simp only [evs, wn, wd, w2, w8, w68, w69, ws]; exact hfun)) | apply Cn.mk))
    rintro v m10 ⟨k10, cv, rfl, s10⟩
    try simp only [evs, wn, wd, w2, w8, w68, w69, ws] at k10 s10
    obtain ⟨ca, cn, cc2, rfl, -⟩ := s10.form (by decide)
    have q10 := r9.stay k10 (.inl r9.1)
    have z10 := z9.stay k10 (.inl z9.1)
    have hin : effect.cellsIn (m10.new (rowObj [I 0, I 0, nilS, nilS, .slice ca cn cc2, nilS] 44 0)) 6 (.slice (some ⟨m10.next, 0, none⟩) 1 1) = some (1, [I 0, I 0, nilS, nilS, .slice ca cn cc2, nilS]) := cellsIn_row (kc := 1) (new := [I 0, I 0, nilS, nilS, .slice ca cn cc2, nilS]) (row_new m10 [I 0, I 0, nilS, nilS, .slice ca cn cc2, nilS] 44 0) (Nat.le_refl 6) rfl
    have q10n := q10.keep_new (rowObj [I 0, I 0, nilS, nilS, .slice ca cn cc2, nilS] 44 0)
    have s0 : Sl (fun c => c < m.next) (m10.new (rowObj [I 0, I 0, nilS, nilS, .slice ca cn cc2, nilS] 44 0)) nilS 44 6 [] := .inl ⟨rfl, rfl⟩
    have hX : ∀ c, c < m.next → c < (m10.new (rowObj [I 0, I 0, nilS, nilS, .slice ca cn cc2, nilS] 44 0)).next := fun c hc => by have := k10.1; show c < m10.next + 1; omega
    (repeat (first | apply wpN_cons | apply g_next | (apply G.h; constructor <;> (first | exact Zc | apply gI | ((repeat' (first | exact Y0 | apply Y1 | ((first | apply Y4 | apply Y5); simp only [evs, Nat.reduceEqDiff, reduceIte, wn, wd, w2, w8, w68, w69, ws] <;> rfl))); done) | (apply Y6; (try simp only [evs, wn, wd, w2, w8, w68, w69, ws]); first | rfl)))))
    (apply g_appB <;> (first | exact Zc | apply gI | ((repeat' (first | exact Y0 | apply Y1 | exact Y2 | apply Y3 | ((first | apply Y4 | apply Y5); simp only [evs, Nat.reduceEqDiff, reduceIte, wn, wd, w2, w8, w68, w69, ws] <;> rfl))); done) | (apply Hy.mk; (try simp only [evs, wn, wd, w2, w8, w68, w69, ws]); first | exact hin | exact s0 | exact hX | assumption) | (apply Om.mk; first | exact hin | exact s0 | exact hX) | (apply Y6; (try simp only [evs, wn, wd, w2, w8, w68, w69, ws]); first | rfl) | apply Cn.mk))
    intro v' m11 s11 k11 o11 b11 f11
    simp only [evs, wn, wd, w2, w8, w68, w69, ws] at s11 k11
    replace s11 : Sl (fun c => c < m.next) m11 v' 44 6 [I 0, I 0, nilS, nilS, .slice ca cn cc2, nilS] := s11
    have k11' : Keep (fun c => c < m.next) [44] m10 m11 := (Keep.new _).trans k11
    obtain ⟨va, vn, vc, rfl, -⟩ := s11.form (by decide)
    have q11 := q10.stay k11' (.inr (by decide))
    have z11 := z10.stay k11' (.inr (by decide))
    have s10' : Sl (fun c => c < m.next) m11 (.slice ca cn cc2) 46 3 (codeL n) := (s10.any k11' (by decide)).sub fun b _ hb hc => hb (Nat.lt_of_lt_of_le hc hm9)
    (repeat (first | apply wpN_cons | apply g_next | (apply G.h; constructor <;> (first | exact Zc | apply gI | ((repeat' (first | exact Y0 | apply Y1 | ((first | apply Y4 | apply Y5); simp only [evs, Nat.reduceEqDiff, reduceIte, wn, wd, w2, w8, w68, w69, ws] <;> rfl))); done) | (apply Y6; (try simp only [evs, wn, wd, w2, w8, w68, w69, ws]); first | rfl)))))
    (apply g_stR <;> (first | exact Zc | apply gI | ((repeat' (first | exact Y0 | apply Y1 | exact Y2 | apply Y3 | ((first | apply Y4 | apply Y5); simp only [evs, Nat.reduceEqDiff, reduceIte, wn, wd, w2, w8, w68, w69, ws] <;> rfl))); done) | (apply Hy.mk; (try simp only [evs, wn, wd, w2, w8, w68, w69, ws]); first | exact q11 | assumption) | (apply Om.mk; first | exact q11) | (apply Y6; (try simp only [evs, wn, wd, w2, w8, w68, w69, ws]); first | rfl) | apply Cn.mk))
    intro m12 r12 o12 n12; simp only [evs, wn, wd, w2, w8, w68, w69, ws] at r12 o12 n12
    have k12 : Keep (fun c => c < m.next) [71] m11 m12 := Keep.row q11 (fun hh => by have := k05.1; have hh : m5.next + 2 < m.next := hh; omega) (by decide) o12 n12
    (repeat (first | apply wpN_cons | apply g_next | (apply G.h; constructor <;> (first | exact Zc | apply gI | ((repeat' (first | exact Y0 | apply Y1 | ((first | apply Y4 | apply Y5); simp only [evs, Nat.reduceEqDiff, reduceIte, wn, wd, w2, w8, w68, w69, ws] <;> rfl))); done) | (apply Y6; (try simp only [evs, wn, wd, w2, w8, w68, w69, ws]); first | rfl)))))
    refine g_last (.mk ⟨.mk ?_, .mk ?_, .mk ?_, .mk ?_, .mk ?_, .mk ?_, .mk ?_, trivial⟩) ?_
    ·(apply again_of; exact Rf.mk; exact Rf.mk; (apply Ev.mk; (simp only [evs, Nat.reduceEqDiff, reduceIte, wn, wd, w2, w8, w68, w69, ws] <;> rfl)); exact Rf.mk; (repeat (first | apply wpN_cons | apply g_next | (apply G.h; constructor <;> (first | exact Zc | apply gI | ((repeat' (first | exact Y0 | apply Y1 | ((first | apply Y4 | apply Y5); simp only [evs, Nat.reduceEqDiff, reduceIte, wn, wd, w2, w8, w68, w69, ws] <;> rfl))); done) | (apply Y6; (try simp only [evs, wn, wd, w2, w8, w68, w69, ws]); first | rfl))))); refine eret_nil ?_; (simp only [evs, Nat.reduceEqDiff, reduceIte, wn, wd, w2, w8, w68, w69, ws] <;> rfl))
    ·(apply again_of; exact Rf.mk; exact Rf.mk; (apply Ev.mk; (simp only [evs, Nat.reduceEqDiff, reduceIte, wn, wd, w2, w8, w68, w69, ws] <;> rfl)); exact Rf.mk; (repeat (first | apply wpN_cons | apply g_next | (apply G.h; constructor <;> (first | exact Zc | apply gI | ((repeat' (first | exact Y0 | apply Y1 | ((first | apply Y4 | apply Y5); simp only [evs, Nat.reduceEqDiff, reduceIte, wn, wd, w2, w8, w68, w69, ws] <;> rfl))); done) | (apply Y6; (try simp only [evs, wn, wd, w2, w8, w68, w69, ws]); first | rfl))))); refine eret_nil ?_; (simp only [evs, Nat.reduceEqDiff, reduceIte, wn, wd, w2, w8, w68, w69, ws] <;> rfl))
    ·(apply again_of; exact Rf.mk; exact Rf.mk; (apply Ev.mk; (simp only [evs, Nat.reduceEqDiff, reduceIte, wn, wd, w2, w8, w68, w69, ws] <;> rfl)); exact Rf.mk; (repeat (first | apply wpN_cons | apply g_next | (apply G.h; constructor <;> (first | exact Zc | apply gI | ((repeat' (first | exact Y0 | apply Y1 | ((first | apply Y4 | apply Y5); simp only [evs, Nat.reduceEqDiff, reduceIte, wn, wd, w2, w8, w68, w69, ws] <;> rfl))); done) | (apply Y6; (try simp only [evs, wn, wd, w2, w8, w68, w69, ws]); first | rfl))))); refine eret_nil ?_; (simp only [evs, Nat.reduceEqDiff, reduceIte, wn, wd, w2, w8, w68, w69, ws] <;> rfl))
    ·(apply again_of; exact Rf.mk; exact Rf.mk; (apply Ev.mk; (simp only [evs, Nat.reduceEqDiff, reduceIte, wn, wd, w2, w8, w68, w69, ws] <;> rfl)); exact Rf.mk; (repeat (first | apply wpN_cons | apply g_next | (apply G.h; constructor <;> (first | exact Zc | apply gI | ((repeat' (first | exact Y0 | apply Y1 | ((first | apply Y4 | apply Y5); simp only [evs, Nat.reduceEqDiff, reduceIte, wn, wd, w2, w8, w68, w69, ws] <;> rfl))); done) | (apply Y6; (try simp only [evs, wn, wd, w2, w8, w68, w69, ws]); first | rfl))))); refine eret_nil ?_; (simp only [evs, Nat.reduceEqDiff, reduceIte, wn, wd, w2, w8, w68, w69, ws] <;> rfl))
    ·(apply again_of; exact Rf.mk; exact Rf.mk; (apply Ev.mk; (simp only [evs, Nat.reduceEqDiff, reduceIte, wn, wd, w2, w8, w68, w69, ws] <;> rfl)); exact Rf.mk; (repeat (first | apply wpN_cons | apply g_next | (apply G.h; constructor <;> (first | exact Zc | apply gI | ((repeat' (first | exact Y0 | apply Y1 | ((first | apply Y4 | apply Y5); simp only [evs, Nat.reduceEqDiff, reduceIte, wn, wd, w2, w8, w68, w69, ws] <;> rfl))); done) | (apply Y6; (try simp only [evs, wn, wd, w2, w8, w68, w69, ws]); first | rfl))))); refine eret_nil ?_; (simp only [evs, Nat.reduceEqDiff, reduceIte, wn, wd, w2, w8, w68, w69, ws] <;> rfl))
    ·(apply again_of; exact Rf.mk; exact Rf.mk; (apply Ev.mk; (simp only [evs, Nat.reduceEqDiff, reduceIte, wn, wd, w2, w8, w68, w69, ws] <;> rfl)); exact Rf.mk; (repeat (first | apply wpN_cons | apply g_next | (apply G.h; constructor <;> (first | exact Zc | apply gI | ((repeat' (first | exact Y0 | apply Y1 | ((first | apply Y4 | apply Y5); simp only [evs, Nat.reduceEqDiff, reduceIte, wn, wd, w2, w8, w68, w69, ws] <;> rfl))); done) | (apply Y6; (try simp only [evs, wn, wd, w2, w8, w68, w69, ws]); first | rfl))))); refine eret_nil ?_; (simp only [evs, Nat.reduceEqDiff, reduceIte, wn, wd, w2, w8, w68, w69, ws] <;> rfl))
    ·(apply again_of; exact Rf.mk; exact Rf.mk; (apply Ev.mk; (simp only [evs, Nat.reduceEqDiff, reduceIte, wn, wd, w2, w8, w68, w69, ws] <;> rfl)); exact Rf.mk; (repeat (first | apply wpN_cons | apply g_next | (apply G.h; constructor <;> (first | exact Zc | apply gI | ((repeat' (first | exact Y0 | apply Y1 | ((first | apply Y4 | apply Y5); simp only [evs, Nat.reduceEqDiff, reduceIte, wn, wd, w2, w8, w68, w69, ws] <;> rfl))); done) | (apply Y6; (try simp only [evs, wn, wd, w2, w8, w68, w69, ws]); first | exact q10n.load1 rfl rfl rfl))))); refine eret_nil ?_; (simp only [evs, Nat.reduceEqDiff, reduceIte, wn, wd, w2, w8, w68, w69, ws] <;> rfl))
    (repeat (first | apply wpN_cons | apply g_next | (apply G.h; constructor <;> (first | exact Zc | apply gI | ((repeat' (first | exact Y0 | apply Y1 | ((first | apply Y4 | apply Y5); simp only [evs, Nat.reduceEqDiff, reduceIte, wn, wd, w2, w8, w68, w69, ws] <;> rfl))); done) | (apply Y6; (try simp only [evs, wn, wd, w2, w8, w68, w69, ws]); first | rfl)))))
    refine ih false _ ⟨(by refine ⟨?_, ?_, ?_, ?_, ?_, ?_⟩ <;> (simp only [evs, Nat.reduceEqDiff, reduceIte, wn, wd, w2, w8, w68, w69, ws] <;> first | rfl | (congr 1; omega) | omega)), ?_⟩ (by decide)
    rw [if_neg (by decide)]
    simp only [evs]
    have k9c : Keep (fun c => c < m.next) TC m9 m10 := (Keep.sub k10 fun c hc => Nat.lt_of_lt_of_le hc hm9).mono (by simp)
    exact ⟨k09.trans (k9c.trans ((k11'.mono (by simp)).trans (k12.mono (by simp)))), z11.stay k12 (.inr (by decide)), _, _, r12, s11.stay k12 (by decide), s10'.stay k12 (by decide)⟩
   | false =>
    clear ih
    rw [if_neg (by decide)] at ws w69
    obtain ⟨kk, zz, fsv, cv, gg, e1, e2⟩ := ws
    obtain ⟨fa, fn, fc, rfl, -⟩ := e1.form (by decide)
    (repeat (first | apply wpN_cons | apply g_next | (apply G.h; constructor <;> (first | exact Zc | apply gI | ((repeat' (first | exact Y0 | apply Y1 | ((first | apply Y4 | apply Y5); simp only [evs, Nat.reduceEqDiff, reduceIte, wn, wd, w2, w8, w68, w69] <;> rfl))); done) | (apply Y6; (try simp only [evs, wn, wd, w2, w8, w68, w69]); first | exact gg.loadA (k := 4) rfl rfl rfl (show 0 + 4 + 4 ≤ 10 by decide) rfl)))))
    (apply g_stR <;> (first | exact Zc | apply gI | ((repeat' (first | exact Y0 | apply Y1 | exact Y2 | apply Y3 | ((first | apply Y4 | apply Y5); simp only [evs, Nat.reduceEqDiff, reduceIte, wn, wd, w2, w8, w68, w69] <;> rfl))); done) | (apply Hy.mk; (try simp only [evs, wn, wd, w2, w8, w68, w69]); first | exact zz | assumption) | (apply Om.mk; first | exact zz) | (apply Y6; (try simp only [evs, wn, wd, w2, w8, w68, w69]); first | rfl) | apply Cn.mk))
    intro m6 r6' o6 n6; simp only [evs, wn, wd, w2, w8, w68, w69] at r6' o6 n6
    have k6 : Keep (fun c => c < m.next) [35] a.m m6 := Keep.row zz (fun hh => Nat.lt_irrefl _ hh) (by decide) o6 n6
    (repeat (first | apply wpN_cons | apply g_next | (apply G.h; constructor <;> (first | exact Zc | apply gI | ((repeat' (first | exact Y0 | apply Y1 | ((first | apply Y4 | apply Y5); simp only [evs, Nat.reduceEqDiff, reduceIte, wn, wd, w2, w8, w68, w69] <;> rfl))); done) | (apply Y6; (try simp only [evs, wn, wd, w2, w8, w68, w69]); first | rfl)))))
    refine g_fin3c (b := m.next) (o := 0) (.agg ⟨[.slice fa fn fc, nilS, nilS, I 1]⟩) (I 0) (I 0) rfl ?_ ?_ ?_ ?_ ?_ ?_
    ·(simp only [evs, Nat.reduceEqDiff, reduceIte, wn, wd, w2, w8, w68, w69] <;> first | rfl | (congr 1; omega) | omega)
    ·(simp only [evs, Nat.reduceEqDiff, reduceIte, wn, wd, w2, w8, w68, w69] <;> first | rfl | (congr 1; omega) | omega)
    ·simp only [evs]; exact r6'.loadA (k := 4) rfl rfl rfl (Nat.le_refl 4) rfl
    ·(simp only [evs, Nat.reduceEqDiff, reduceIte, wn, wd, w2, w8, w68, w69] <;> first | rfl | (congr 1; omega) | omega)
    ·(simp only [evs, Nat.reduceEqDiff, reduceIte, wn, wd, w2, w8, w68, w69] <;> first | rfl | (congr 1; omega) | omega)
    ·simp only [evs]
     exact ⟨kk.trans (k6.mono (by simp)), .inl ⟨by omega, _, cv, rfl, e1.stay k6 (by decide), e2.stay k6 (by decide)⟩⟩
end Go.Proofs.YthhcnfgeacnfiaaGreatDoor

namespace Go.Proofs.YthhcnfgeacnfiaaGreatDoor
open Go Go.Ev
set_option maxRecDepth 100000
set_option linter.unusedVariables false
set_option linter.unusedSimpArgs false
set_option pp.maxSteps 1500

/-! The document's check of these images. -/
def tabL : List Value := [encS [105, 110, 116], I 0, I 1, encS [97, 116, 111, 109], I 0, I 1, encS [115, 116, 114], I 0, I 1, encS [112, 114, 105, 109], I 0, I 1, encS [112, 111, 112], I 1, I 0, encS [108, 111, 97, 100], I 0, I 1, encS [115, 116, 111, 114, 101], I 1, I 0, encS [98, 111, 120], I 0, I 0, encS [108, 111, 97, 100, 99, 101, 108, 108], I 0, I 1, encS [115, 116, 111, 114, 101, 99, 101, 108, 108], I 1, I 0, encS [108, 111, 97, 100, 99, 97, 112], I 0, I 1, encS [115, 116, 111, 114, 101, 99, 97, 112], I 1, I 0, encS [108, 111, 97, 100, 103, 108, 111, 98, 97, 108], I 0, I 1, encS [115, 116, 111, 114, 101, 103, 108, 111, 98, 97, 108], I 1, I 0, encS [108, 105, 115, 116], I 0, I 1, encS [114, 101, 99], I 0, I 1, encS [102, 117, 110], I 0, I 1, encS [98, 105, 110], I 2, I 1, encS [110, 111, 116], I 1, I 1, encS [110, 101, 103], I 1, I 1, encS [106, 117, 109, 112], I 0, I 0, encS [102, 97, 108, 115, 101], I 1, I 0, encS [107, 101, 101, 112, 102, 97, 108, 115, 101], I 1, I 0, encS [107, 101, 101, 112, 116, 114, 117, 101], I 1, I 0, encS [108, 111, 111, 112], I 0, I 0, encS [99, 97, 108, 108], I 1, I 1, encS [115, 112, 97, 119, 110], I 1, I 1, encS [114, 101, 116, 117, 114, 110], I 1, I 0, encS [116, 104, 114, 111, 119], I 1, I 0, encS [105, 110, 100, 101, 120], I 2, I 1, encS [115, 101, 116, 105, 110, 100, 101, 120], I 3, I 0, encS [102, 105, 101, 108, 100], I 1, I 1, encS [115, 101, 116, 102, 105, 101, 108, 100], I 2, I 0]
/-- an instruction, by its place. -/
def opA (n i : Nat) : Nat × Nat := if i < n then (0, 0) else if i = n then (14, n) else if i = n + 1 then (13, 0) else if i = n + 2 then (1, 0) else (27, 0)
theorem zerosI_at : ∀ (k i q : Nat), i < k → q < 3 → (zerosI k)[i * 3 + q]? = some (I 0)
 | 0, i, q, h, _ => by omega
 | k + 1, i, q, h, hq => by
  rw [zerosI]
  rcases Nat.lt_or_ge i k with hi | hi
  ·rw [List.getElem?_append_left (by rw [zerosI_len]; omega)]; exact zerosI_at k i q hi hq
  ·rw [List.getElem?_append_right (by rw [zerosI_len]; omega), zerosI_len, show i * 3 + q - 3 * k = q by omega]
   rcases (show q = 0 ∨ q = 1 ∨ q = 2 by omega) with rfl | rfl | rfl <;> rfl
theorem codeL_at {n i q : Nat} (hi : i < n + 4) (hq : q < 3) : (codeL n)[i * 3 + q]? = [I (opA n i).1, I (opA n i).2, I 0][q]? := by
 have hz := zerosI_len n
 have e : codeL n = zerosI n ++ [I 14, I n, I 0, I 13, I 0, I 0, I 1, I 0, I 0, I 27, I 0, I 0] := by simp [codeL, varI]
 rw [e]
 unfold opA
 rcases Nat.lt_or_ge i n with h | h
 ·rw [List.getElem?_append_left (by omega), zerosI_at n i q h hq, if_pos h]
  rcases (show q = 0 ∨ q = 1 ∨ q = 2 by omega) with rfl | rfl | rfl <;> rfl
 ·rw [List.getElem?_append_right (by omega), hz, if_neg (by omega)]
  rcases (show i = n ∨ i = n + 1 ∨ i = n + 2 ∨ i = n + 3 by omega) with rfl | rfl | rfl | rfl
  ·rw [if_pos rfl, show i * 3 + q - 3 * i = q by omega]
   rcases (show q = 0 ∨ q = 1 ∨ q = 2 by omega) with rfl | rfl | rfl <;> rfl
  ·rw [if_neg (by omega), if_pos rfl, show (n + 1) * 3 + q - 3 * n = 3 + q by omega]
   rcases (show q = 0 ∨ q = 1 ∨ q = 2 by omega) with rfl | rfl | rfl <;> rfl
  ·rw [if_neg (by omega), if_neg (by omega), if_pos rfl, show (n + 2) * 3 + q - 3 * n = 6 + q by omega]
   rcases (show q = 0 ∨ q = 1 ∨ q = 2 by omega) with rfl | rfl | rfl <;> rfl
  ·rw [if_neg (by omega), if_neg (by omega), if_neg (by omega), show (n + 3) * 3 + q - 3 * n = 9 + q by omega]
   rcases (show q = 0 ∨ q = 1 ∨ q = 2 by omega) with rfl | rfl | rfl <;> rfl
attribute [local irreducible] quiet allocs effect wp ret wpO Runs Act.tmp Act.eval fin results Tree.set binOp loadAt storeAt target wanted cellsFrom

theorem in69 {x lo hi : Int} (h : lo ≤ x ∧ x ≤ hi) (m : Mem) : Runs evEnv 69 [.int .i64 x, .int .i64 lo, .int .i64 hi] m fun v m' => v = .bool true ∧ m' = m := by
 obtain ⟨h1, h2⟩ := h
 refine runs_start rfl rfl rfl rfl ?_
 (repeat (first | (apply G.h; constructor <;> (first | exact Zc | apply gI | ((repeat' (first | exact Y0 | apply Y1 | ((first | apply Y4 | apply Y5); simp only [evs, Nat.reduceEqDiff, reduceIte] <;> rfl))); done) | (apply Y6; (try simp only [evs]); first | rfl)))))
 (refine g_fin (by repeat' first | exact Rs.nil | apply Rs.cons | (apply Y4; simp only [evs, Nat.reduceEqDiff, reduceIte] <;> rfl)) (by (simp only [evs, Nat.reduceEqDiff, reduceIte] <;> first | rfl | (congr 1; omega) | omega)) ?_)
 exact ⟨rfl, by (simp only [evs, Nat.reduceEqDiff, reduceIte] <;> first | rfl | (congr 1; omega) | omega)⟩
set_option maxHeartbeats 4000000 in
theorem table98 (m : Mem) : Runs evEnv 98 [] m fun v m' => v = .slice (some ⟨m.next, 0, none⟩) 33 33 ∧ m' = m.new (rowObj tabL 164 0) := by
 refine runs_start rfl rfl rfl rfl ?_
 (repeat (first | (apply G.h; constructor <;> (first | exact Zc | apply gI | ((repeat' (first | exact Y0 | apply Y1 | ((first | apply Y4 | apply Y5); simp only [evs, Nat.reduceEqDiff, reduceIte] <;> rfl))); done) | (apply Y6; (try simp only [evs]); first | rfl)))))
 (refine g_fin (by repeat' first | exact Rs.nil | apply Rs.cons | (apply Y4; simp only [evs, Nat.reduceEqDiff, reduceIte] <;> rfl)) (by (simp only [evs, Nat.reduceEqDiff, reduceIte] <;> first | rfl | (congr 1; omega) | omega)) ?_)
 exact ⟨rfl, by (simp only [evs, Nat.reduceEqDiff, reduceIte] <;> first | rfl | (congr 1; omega) | omega)⟩
/-- what an instruction takes and puts. -/
def effA (n i : Nat) : Nat × Nat := if i < n then (0, 1) else if i = n then (n, 1) else if i = n + 1 then (1, 0) else if i = n + 2 then (0, 1) else (1, 0)
/-- an image of such a program, as it is handed on. -/
abbrev imgV (fa : Option Addr) (fn fc : Nat) : List Value := [.slice fa fn fc, nilS, nilS, I 1]
set_option maxHeartbeats 4000000 in
theorem effect70 {op a pops puts : Nat} (fa : Option Addr) (fn fc : Nat) (h : (op = 0 ∧ pops = 0 ∧ puts = 1) ∨ (op = 14 ∧ a ≤ 255 ∧ pops = a ∧ puts = 1) ∨ (op = 13 ∧ pops = 1 ∧ puts = 0) ∨ (op = 1 ∧ pops = 0 ∧ puts = 1) ∨ (op = 27 ∧ pops = 1 ∧ puts = 0)) (m : Mem) :
  Runs evEnv 70 [.agg ⟨imgV fa fn fc⟩, .agg ⟨[I op, I a, I 0]⟩] m fun v m' => v = .tuple ⟨[I pops, I puts, I 0]⟩ ∧ Grow m m' := by
 have z1 := row_new m (imgV fa fn fc) 35 0
 have z2 := row_new (m.new (rowObj (imgV fa fn fc) 35 0)) [I op, I a, I 0] 46 0
 have g2 : Grow m ((m.new (rowObj (imgV fa fn fc) 35 0)).new (rowObj [I op, I a, I 0] 46 0)) := ((Grow.refl m).new _).new _
 refine runs_start rfl rfl rfl rfl ?_
 (repeat (first | (apply G.h; constructor <;> (first | exact Zc | apply gI | ((repeat' (first | exact Y0 | apply Y1 | ((first | apply Y4 | apply Y5); simp only [evs, Nat.reduceEqDiff, reduceIte] <;> rfl))); done) | (apply Y6; (try simp only [evs]); first | rfl)))))
 ((first | apply g_run | apply g_run0) <;> (first | ((repeat' (first | exact Y0 | apply Y1 | exact Y2 | apply Y3 | ((first | apply Y4 | apply Y5); simp only [evs, Nat.reduceEqDiff, reduceIte] <;> rfl))); done) | exact Rn.mk ((by simp only [evs]; exact table98 _)) | apply Cn.mk))
 rintro v m3 ⟨rfl, rfl⟩
 have zt := row_new ((m.new (rowObj (imgV fa fn fc) 35 0)).new (rowObj [I op, I a, I 0] 46 0)) tabL 164 0
 have z3 := z2.keep_new (rowObj tabL 164 0)
 have g3 : Grow m (((m.new (rowObj (imgV fa fn fc) 35 0)).new (rowObj [I op, I a, I 0] 46 0)).new (rowObj tabL 164 0)) := g2.new _
 have zb := row_new (((m.new (rowObj (imgV fa fn fc) 35 0)).new (rowObj [I op, I a, I 0] 46 0)).new (rowObj tabL 164 0)) [encS [], I 0, I 0] 164 0
 have z4 := z3.keep_new (rowObj [encS [], I 0, I 0] 164 0)
 rcases h with ⟨rfl, rfl, rfl⟩ | ⟨rfl, ha, rfl, rfl⟩ | ⟨rfl, rfl, rfl⟩ | ⟨rfl, rfl, rfl⟩ | ⟨rfl, rfl, rfl⟩
 all_goals
  (repeat (first | (apply G.h; constructor <;> (first | exact Zc | apply gI | ((repeat' (first | exact Y0 | apply Y1 | ((first | apply Y4 | apply Y5); simp only [evs, Nat.reduceEqDiff, reduceIte] <;> rfl))); done) | (apply Y6; (try simp only [evs]); first | exact z3.load1 rfl rfl rfl | exact zt.loadA (k := 3) rfl rfl rfl (Nat.le_of_ble_eq_true rfl) rfl)))))
  (apply g_stR <;> (first | exact Zc | apply gI | ((repeat' (first | exact Y0 | apply Y1 | exact Y2 | apply Y3 | ((first | apply Y4 | apply Y5); simp only [evs, Nat.reduceEqDiff, reduceIte] <;> rfl))); done) | (apply Hy.mk; (try simp only [evs]); first | exact zb | assumption) | (apply Om.mk; first | exact zb) | (apply Y6; (try simp only [evs]); first | rfl) | apply Cn.mk))
  intro m5 r5 o5 n5; simp only [evs] at r5 o5 n5
  have g5 := (g3.new (rowObj [encS [], I 0, I 0] 164 0)).wrote (b := _) (Nat.le_trans g3.1 (Nat.le_refl _)) o5 n5
  have z5 := z4.keep (m' := m5) (Nat.le_of_eq n5.symm) (o5 _ (by simp only [next_new]; omega))
  (repeat (first | (apply G.h; constructor <;> (first | exact Zc | apply gI | ((repeat' (first | exact Y0 | apply Y1 | ((first | apply Y4 | apply Y5); simp only [evs, Nat.reduceEqDiff, reduceIte] <;> rfl))); done) | (apply Y6; (try simp only [evs]); first | exact z5.load1 rfl rfl rfl | exact r5.load1 rfl rfl rfl)))))
  (refine g_fin (by repeat' first | exact Rs.nil | apply Rs.cons | (apply Y4; simp only [evs, Nat.reduceEqDiff, reduceIte] <;> rfl)) (by (simp only [evs, Nat.reduceEqDiff, reduceIte] <;> first | rfl | (congr 1; omega) | omega)) ?_)
  refine ⟨?_, by simp only [evs]; exact g5⟩
  first | rfl | (simp [one]; done) | (simp; rfl)
end Go.Proofs.YthhcnfgeacnfiaaGreatDoor

namespace Go.Proofs.YthhcnfgeacnfiaaGreatDoor
open Go Go.Ev
set_option maxRecDepth 100000
set_option linter.unusedVariables false
set_option linter.unusedSimpArgs false
set_option pp.maxSteps 1500

/-- a function of such an image: where its instructions lie. -/
def Ck (m : Mem) (cb n : Nat) : Prop := ∃ r, Row m cb r 46 0 ∧ (n + 4) * 3 ≤ r.length ∧ ∀ i q, i < n + 4 → q < 3 → r[i * 3 + q]? = [I (opA n i).1, I (opA n i).2, I 0][q]?
abbrev clV (cb n cc : Nat) : List Value := [I 0, I 0, nilS, nilS, .slice (some ⟨cb, 0, none⟩) (n + 4) cc, nilS]
theorem Ck.grow {m m' : Mem} {cb n : Nat} (h : Ck m cb n) (g : Grow m m') : Ck m' cb n := by
 obtain ⟨r, h1, h2⟩ := h
 exact ⟨r, h1.grow g, h2⟩
theorem Ck.ins {m : Mem} {cb n i op a : Nat} (h : Ck m cb n) (hi : i < n + 4) (e : opA n i = (op, a)) : loadAt evEnv m 46 cb (0 + i * 3) = some (.agg ⟨[I op, I a, I 0]⟩) := by
 obtain ⟨r, h1, h2, h3⟩ := h
 refine h1.loadA (k := 3) rfl rfl rfl (by omega) ?_
 apply List.ext_getElem?
 intro q
 rcases Nat.lt_or_ge q 3 with hq | hq
 ·rw [List.getElem?_take_of_lt hq, List.getElem?_drop, show 0 + i * 3 + q = i * 3 + q by omega, h3 i q hi hq, e]
 ·rw [List.getElem?_eq_none (by rw [List.length_take]; omega), List.getElem?_eq_none (by show 3 ≤ q; exact hq)]
theorem Ck.lt {m : Mem} {cb n : Nat} (h : Ck m cb n) : cb < m.next := by obtain ⟨r, h1, -⟩ := h; exact h1.1
/-- the five kinds of instructions. -/
theorem opA_cases {n i : Nat} (hi : i < n + 4) : (i < n ∧ opA n i = (0, 0)) ∨ (i = n ∧ opA n i = (14, n)) ∨ (i = n + 1 ∧ opA n i = (13, 0)) ∨ (i = n + 2 ∧ opA n i = (1, 0)) ∨ (i = n + 3 ∧ opA n i = (27, 0)) := by
 unfold opA
 rcases (show i < n ∨ i = n ∨ i = n + 1 ∨ i = n + 2 ∨ i = n + 3 by omega) with h | rfl | rfl | rfl | rfl
 ·exact .inl ⟨h, if_pos h⟩
 ·exact .inr (.inl ⟨rfl, by rw [if_neg (by omega), if_pos rfl]⟩)
 ·exact .inr (.inr (.inl ⟨rfl, by rw [if_neg (by omega), if_neg (by omega), if_pos rfl]⟩))
 ·exact .inr (.inr (.inr (.inl ⟨rfl, by rw [if_neg (by omega), if_neg (by omega), if_neg (by omega), if_pos rfl]⟩)))
 ·exact .inr (.inr (.inr (.inr ⟨rfl, by rw [if_neg (by omega), if_neg (by omega), if_neg (by omega), if_neg (by omega)]⟩)))
attribute [local irreducible] quiet allocs effect wp ret wpO Runs Act.tmp Act.eval fin results Tree.set binOp loadAt storeAt target wanted cellsFrom

section
variable {m : Mem} {cb cc n : Nat} {fa : Option Addr} {fn fc : Nat}
set_option maxHeartbeats 8000000 in
theorem operand41 {i op a : Nat} (hn : n ≤ 255) (hi : i < n + 4) (h : Ck m cb n) (e : opA n i = (op, a)) (hk : (op = 0 ∧ a = 0) ∨ (op = 14 ∧ a = n) ∨ (op = 13 ∧ a = 0) ∨ (op = 1 ∧ a = 0) ∨ (op = 27 ∧ a = 0)) :
  Runs evEnv 41 [.agg ⟨imgV fa fn fc⟩, .agg ⟨clV cb n cc⟩, I i] m fun v m' => v = .bool true ∧ Grow m m' := by
 have z1 := row_new m (imgV fa fn fc) 35 0
 have z2 := row_new (m.new (rowObj (imgV fa fn fc) 35 0)) (clV cb n cc) 44 0
 have g2 : Grow m ((m.new (rowObj (imgV fa fn fc) 35 0)).new (rowObj (clV cb n cc) 44 0)) := ((Grow.refl m).new _).new _
 have hld := (h.grow g2).ins hi e
 have zb := row_new ((m.new (rowObj (imgV fa fn fc) 35 0)).new (rowObj (clV cb n cc) 44 0)) [I 0, I 0, I 0] 46 0
 refine runs_start rfl rfl rfl rfl ?_
 (repeat (first | (apply G.h; constructor <;> (first | exact Zc | apply gI | ((repeat' (first | exact Y0 | apply Y1 | ((first | apply Y4 | apply Y5); simp only [evs, Nat.reduceEqDiff, reduceIte] <;> rfl))); done) | (apply Y6; (try simp only [evs]); first | exact z2.load1 rfl rfl rfl | exact hld)))))
 (apply g_stR <;> (first | exact Zc | apply gI | ((repeat' (first | exact Y0 | apply Y1 | exact Y2 | apply Y3 | ((first | apply Y4 | apply Y5); simp only [evs, Nat.reduceEqDiff, reduceIte] <;> rfl))); done) | (apply Hy.mk; (try simp only [evs]); first | exact zb | assumption) | (apply Om.mk; first | exact zb) | (apply Y6; (try simp only [evs]); first | rfl) | apply Cn.mk))
 intro m3 r3 o3 n3; simp only [evs] at r3 o3 n3
 replace r3 : Row m3 ((m.new (rowObj (imgV fa fn fc) 35 0)).new (rowObj (clV cb n cc) 44 0)).next [I op, I a, I 0] 46 0 := r3
 have g3 : Grow ((m.new (rowObj (imgV fa fn fc) 35 0)).new (rowObj (clV cb n cc) 44 0)) m3 := ((Grow.refl _).new _).wrote (Nat.le_refl _) o3 n3
 have z13 := (z1.keep_new (rowObj (clV cb n cc) 44 0)).grow g3
 have g03 := g2.trans g3
 rcases hk with ⟨rfl, rfl⟩ | ⟨rfl, rfl⟩ | ⟨rfl, rfl⟩ | ⟨rfl, rfl⟩ | ⟨rfl, rfl⟩
 ·(repeat (first | (apply G.h; constructor <;> (first | exact Zc | apply gI | ((repeat' (first | exact Y0 | apply Y1 | ((first | apply Y4 | apply Y5); simp only [evs, Nat.reduceEqDiff, reduceIte] <;> rfl))); done) | (apply Y6; (try simp only [evs]); first | exact r3.load1 rfl rfl rfl)))))
  ((first | apply g_run | apply g_run0) <;> (first | ((repeat' (first | exact Y0 | apply Y1 | exact Y2 | apply Y3 | ((first | apply Y4 | apply Y5); simp only [evs, Nat.reduceEqDiff, reduceIte] <;> rfl))); done) | exact Rn.mk ((by simp only [evs]; exact in69 (x := 0) (by decide) _)) | apply Cn.mk))
  rintro v m4 ⟨rfl, rfl⟩
  (repeat (first | (apply G.h; constructor <;> (first | exact Zc | apply gI | ((repeat' (first | exact Y0 | apply Y1 | ((first | apply Y4 | apply Y5); simp only [evs, Nat.reduceEqDiff, reduceIte] <;> rfl))); done) | (apply Y6; (try simp only [evs]); first | rfl)))))
  (refine g_fin (by repeat' first | exact Rs.nil | apply Rs.cons | (apply Y4; simp only [evs, Nat.reduceEqDiff, reduceIte] <;> rfl)) (by (simp only [evs, Nat.reduceEqDiff, reduceIte] <;> first | rfl | (congr 1; omega) | omega)) ?_)
  exact ⟨rfl, by simp only [evs]; exact g03⟩
 ·(repeat (first | (apply G.h; constructor <;> (first | exact Zc | apply gI | ((repeat' (first | exact Y0 | apply Y1 | ((first | apply Y4 | apply Y5); simp only [evs, Nat.reduceEqDiff, reduceIte] <;> rfl))); done) | (apply Y6; (try simp only [evs]); first | exact r3.load1 rfl rfl rfl)))))
  ((first | apply g_run | apply g_run0) <;> (first | ((repeat' (first | exact Y0 | apply Y1 | exact Y2 | apply Y3 | ((first | apply Y4 | apply Y5); simp only [evs, Nat.reduceEqDiff, reduceIte] <;> rfl))); done) | exact Rn.mk ((by simp only [evs]; exact in69 (x := (a : Nat)) (by omega) _)) | apply Cn.mk))
  rintro v m4 ⟨rfl, rfl⟩
  (repeat (first | (apply G.h; constructor <;> (first | exact Zc | apply gI | ((repeat' (first | exact Y0 | apply Y1 | ((first | apply Y4 | apply Y5); simp only [evs, Nat.reduceEqDiff, reduceIte] <;> rfl))); done) | (apply Y6; (try simp only [evs]); first | rfl)))))
  (refine g_fin (by repeat' first | exact Rs.nil | apply Rs.cons | (apply Y4; simp only [evs, Nat.reduceEqDiff, reduceIte] <;> rfl)) (by (simp only [evs, Nat.reduceEqDiff, reduceIte] <;> first | rfl | (congr 1; omega) | omega)) ?_)
  exact ⟨rfl, by simp only [evs]; exact g03⟩
 ·(repeat (first | (apply G.h; constructor <;> (first | exact Zc | apply gI | ((repeat' (first | exact Y0 | apply Y1 | ((first | apply Y4 | apply Y5); simp only [evs, Nat.reduceEqDiff, reduceIte] <;> rfl))); done) | (apply Y6; (try simp only [evs]); first | exact r3.load1 rfl rfl rfl | exact z13.load1 rfl rfl rfl)))))
  ((first | apply g_run | apply g_run0) <;> (first | ((repeat' (first | exact Y0 | apply Y1 | exact Y2 | apply Y3 | ((first | apply Y4 | apply Y5); simp only [evs, Nat.reduceEqDiff, reduceIte] <;> rfl))); done) | exact Rn.mk ((by simp only [evs]; exact in69 (x := 0) (by decide) _)) | apply Cn.mk))
  rintro v m4 ⟨rfl, rfl⟩
  (repeat (first | (apply G.h; constructor <;> (first | exact Zc | apply gI | ((repeat' (first | exact Y0 | apply Y1 | ((first | apply Y4 | apply Y5); simp only [evs, Nat.reduceEqDiff, reduceIte] <;> rfl))); done) | (apply Y6; (try simp only [evs]); first | rfl)))))
  (refine g_fin (by repeat' first | exact Rs.nil | apply Rs.cons | (apply Y4; simp only [evs, Nat.reduceEqDiff, reduceIte] <;> rfl)) (by (simp only [evs, Nat.reduceEqDiff, reduceIte] <;> first | rfl | (congr 1; omega) | omega)) ?_)
  exact ⟨rfl, by simp only [evs]; exact g03⟩
 ·(repeat (first | (apply G.h; constructor <;> (first | exact Zc | apply gI | ((repeat' (first | exact Y0 | apply Y1 | ((first | apply Y4 | apply Y5); simp only [evs, Nat.reduceEqDiff, reduceIte] <;> rfl))); done) | (apply Y6; (try simp only [evs]); first | exact r3.load1 rfl rfl rfl)))))
  ((first | apply g_run | apply g_run0) <;> (first | ((repeat' (first | exact Y0 | apply Y1 | exact Y2 | apply Y3 | ((first | apply Y4 | apply Y5); simp only [evs, Nat.reduceEqDiff, reduceIte] <;> rfl))); done) | exact Rn.mk ((by simp only [evs]; exact in69 (x := 0) (by decide) _)) | apply Cn.mk))
  rintro v m4 ⟨rfl, rfl⟩
  (repeat (first | (apply G.h; constructor <;> (first | exact Zc | apply gI | ((repeat' (first | exact Y0 | apply Y1 | ((first | apply Y4 | apply Y5); simp only [evs, Nat.reduceEqDiff, reduceIte] <;> rfl))); done) | (apply Y6; (try simp only [evs]); first | rfl)))))
  (refine g_fin (by repeat' first | exact Rs.nil | apply Rs.cons | (apply Y4; simp only [evs, Nat.reduceEqDiff, reduceIte] <;> rfl)) (by (simp only [evs, Nat.reduceEqDiff, reduceIte] <;> first | rfl | (congr 1; omega) | omega)) ?_)
  exact ⟨rfl, by simp only [evs]; exact g03⟩
 ·(repeat (first | (apply G.h; constructor <;> (first | exact Zc | apply gI | ((repeat' (first | exact Y0 | apply Y1 | ((first | apply Y4 | apply Y5); simp only [evs, Nat.reduceEqDiff, reduceIte] <;> rfl))); done) | (apply Y6; (try simp only [evs]); first | exact r3.load1 rfl rfl rfl)))))
  (refine g_fin (by repeat' first | exact Rs.nil | apply Rs.cons | (apply Y4; simp only [evs, Nat.reduceEqDiff, reduceIte] <;> rfl)) (by (simp only [evs, Nat.reduceEqDiff, reduceIte] <;> first | rfl | (congr 1; omega) | omega)) ?_)
  exact ⟨rfl, by simp only [evs]; exact g03⟩
theorem operand41' {i : Nat} (hn : n ≤ 255) (hi : i < n + 4) (h : Ck m cb n) : Runs evEnv 41 [.agg ⟨imgV fa fn fc⟩, .agg ⟨clV cb n cc⟩, I i] m fun v m' => v = .bool true ∧ Grow m m' := by
 rcases opA_cases hi with ⟨-, e⟩ | ⟨-, e⟩ | ⟨-, e⟩ | ⟨-, e⟩ | ⟨-, e⟩
 ·exact operand41 hn hi h e (.inl ⟨rfl, rfl⟩)
 ·exact operand41 hn hi h e (.inr (.inl ⟨rfl, rfl⟩))
 ·exact operand41 hn hi h e (.inr (.inr (.inl ⟨rfl, rfl⟩)))
 ·exact operand41 hn hi h e (.inr (.inr (.inr (.inl ⟨rfl, rfl⟩))))
 ·exact operand41 hn hi h e (.inr (.inr (.inr (.inr ⟨rfl, rfl⟩))))
set_option maxHeartbeats 4000000 in
theorem frame22 (hn : n ≤ 255) : Runs evEnv 22 [.agg ⟨clV cb n cc⟩, .bool true] m fun v m' => v = I 0 ∧ Grow m m' := by
 have z := row_new m (clV cb n cc) 44 0
 have g1 : Grow m (m.new (rowObj (clV cb n cc) 44 0)) := (Grow.refl m).new _
 refine runs_start rfl rfl rfl rfl ?_
 (repeat (first | (apply G.h; constructor <;> (first | exact Zc | apply gI | ((repeat' (first | exact Y0 | apply Y1 | ((first | apply Y4 | apply Y5); simp only [evs, Nat.reduceEqDiff, reduceIte] <;> rfl))); done) | (apply Y6; (try simp only [evs]); first | exact z.load1 rfl rfl rfl)))))
 refine ewp_loop (ι := Unit) (fun _ a => (a.n = 121 ∧ a.defers = [] ∧ a.tmp 2 = ptr m.next ∧ a.tmp 5 = I 0) ∧ a.m = m.new (rowObj (clV cb n cc) 44 0)) (fun _ => 0) () ?_ ?_
 ·exact ⟨(by refine ⟨?_, ?_, ?_, ?_⟩ <;> (simp only [evs, Nat.reduceEqDiff, reduceIte] <;> first | rfl | (congr 1; omega) | omega)), by (simp only [evs, Nat.reduceEqDiff, reduceIte] <;> first | rfl | (congr 1; omega) | omega)⟩
 rintro - a ⟨⟨un, ud, u2, u5⟩, um⟩ -
 (repeat (first | (apply G.h; constructor <;> (first | exact Zc | apply gI | ((repeat' (first | exact Y0 | apply Y1 | ((first | apply Y4 | apply Y5); simp only [evs, Nat.reduceEqDiff, reduceIte, un, ud, u2, u5, um] <;> rfl))); done) | (apply Y6; (try simp only [evs, un, ud, u2, u5, um]); first | exact z.load1 rfl rfl rfl)))))
 refine ewp_loop (ι := Unit) (fun _ a => (a.n = 121 ∧ a.defers = [] ∧ a.tmp 2 = ptr m.next ∧ a.tmp 6 = I 0) ∧ a.m = m.new (rowObj (clV cb n cc) 44 0)) (fun _ => 0) () ?_ ?_
 ·exact ⟨(by refine ⟨?_, ?_, ?_, ?_⟩ <;> (simp only [evs, Nat.reduceEqDiff, reduceIte, un, ud, u2, u5] <;> first | rfl | (congr 1; omega) | omega)), by (simp only [evs, Nat.reduceEqDiff, reduceIte, um] <;> first | rfl | (congr 1; omega) | omega)⟩
 clear un ud u2 u5 um
 rintro - a ⟨⟨un, ud, u2, u5⟩, um⟩ -
 (repeat (first | (apply G.h; constructor <;> (first | exact Zc | apply gI | ((repeat' (first | exact Y0 | apply Y1 | ((first | apply Y4 | apply Y5); simp only [evs, Nat.reduceEqDiff, reduceIte, un, ud, u2, u5, um] <;> rfl))); done) | (apply Y6; (try simp only [evs, un, ud, u2, u5, um]); first | exact z.load1 rfl rfl rfl)))))
 (refine g_fin (by repeat' first | exact Rs.nil | apply Rs.cons | (apply Y4; simp only [evs, Nat.reduceEqDiff, reduceIte, un, ud, u2, u5, um] <;> rfl)) (by (simp only [evs, Nat.reduceEqDiff, reduceIte, un, ud, u2, u5, um] <;> first | rfl | (congr 1; omega) | omega)) ?_)
 exact ⟨rfl, by simp only [evs, um]; exact g1⟩
theorem opA_le {n i : Nat} (hi : i < n + 4) : (opA n i).1 ≤ 32 := by
 rcases opA_cases hi with ⟨-, e⟩ | ⟨-, e⟩ | ⟨-, e⟩ | ⟨-, e⟩ | ⟨-, e⟩ <;> rw [e] <;> simp
set_option maxHeartbeats 4000000 in
theorem code23 (hn : n ≤ 255) (h : Ck m cb n) : Runs evEnv 23 [.agg ⟨imgV fa fn fc⟩, .agg ⟨clV cb n cc⟩] m fun v m' => v = .tuple ⟨[I 0, I 0]⟩ ∧ Grow m m' := by
 have z1 := row_new m (imgV fa fn fc) 35 0
 have z2 : Row ((m.new (rowObj (imgV fa fn fc) 35 0)).new (rowObj (clV cb n cc) 44 0)) (m.next + 1) (clV cb n cc) 44 0 := row_new (m.new (rowObj (imgV fa fn fc) 35 0)) (clV cb n cc) 44 0
 have z12 := z1.keep_new (rowObj (clV cb n cc) 44 0)
 have g2 : Grow m ((m.new (rowObj (imgV fa fn fc) 35 0)).new (rowObj (clV cb n cc) 44 0)) := ((Grow.refl m).new _).new _
 have h2 := h.grow g2
 refine runs_start rfl rfl rfl rfl ?_
 (repeat (first | (apply G.h; constructor <;> (first | exact Zc | apply gI | ((repeat' (first | exact Y0 | apply Y1 | ((first | apply Y4 | apply Y5); simp only [evs, Nat.reduceEqDiff, reduceIte] <;> rfl))); done) | (apply Y6; (try simp only [evs]); first | rfl)))))
 refine ewp_loop (ι := Nat) (fun i a => (a.n = 92 ∧ a.defers = [] ∧ a.tmp 2 = ptr m.next ∧ a.tmp 3 = ptr (m.next + 1) ∧ a.tmp 6 = I i) ∧ i ≤ n + 4 ∧ Grow ((m.new (rowObj (imgV fa fn fc) 35 0)).new (rowObj (clV cb n cc) 44 0)) a.m) (fun i => n + 4 - i) 0 ?_ ?_
 ·exact ⟨(by refine ⟨?_, ?_, ?_, ?_, ?_⟩ <;> (simp only [evs, Nat.reduceEqDiff, reduceIte] <;> first | rfl | (congr 1; omega) | omega)), Nat.zero_le _, by simp only [evs]; exact Grow.refl _⟩
 rintro i a ⟨⟨qn, qd, q2, q3, q6⟩, hi, qg⟩ ih
 have z2a := z2.grow qg
 have z1a := z12.grow qg
 rcases Nat.lt_or_ge i (n + 4) with hlt | hge
 ·have hop := opA_le hlt
  obtain ⟨op, av, e⟩ : ∃ op av, opA n i = (op, av) := ⟨_, _, rfl⟩
  rw [e] at hop
  replace hop : op ≤ 32 := hop
  have ha := h2.grow qg
  have hld := ha.ins hlt e
  have zb := row_new a.m [I 0, I 0, I 0] 46 0
  (repeat (first | (apply G.h; constructor <;> (first | exact Zc | apply gI | ((repeat' (first | exact Y0 | apply Y1 | ((first | apply Y4 | apply Y5); simp only [evs, Nat.reduceEqDiff, reduceIte, qn, qd, q2, q3, q6] <;> rfl))); done) | (apply Y6; (try simp only [evs, qn, qd, q2, q3, q6]); first | exact z2a.load1 rfl rfl rfl | exact hld)))))
  (apply g_stR <;> (first | exact Zc | apply gI | ((repeat' (first | exact Y0 | apply Y1 | exact Y2 | apply Y3 | ((first | apply Y4 | apply Y5); simp only [evs, Nat.reduceEqDiff, reduceIte, qn, qd, q2, q3, q6] <;> rfl))); done) | (apply Hy.mk; (try simp only [evs, qn, qd, q2, q3, q6]); first | exact zb | assumption) | (apply Om.mk; first | exact zb) | (apply Y6; (try simp only [evs, qn, qd, q2, q3, q6]); first | rfl) | apply Cn.mk))
  intro m3 r3 o3 n3; simp only [evs, qn, qd, q2, q3, q6] at r3 o3 n3
  replace r3 : Row m3 a.m.next [I op, I av, I 0] 46 0 := r3
  have g3 : Grow a.m m3 := ((Grow.refl _).new _).wrote (Nat.le_refl _) o3 n3
  have z23 := z2a.grow g3
  have z13 := z1a.grow g3
  (repeat (first | (apply G.h; constructor <;> (first | exact Zc | apply gI | ((repeat' (first | exact Y0 | apply Y1 | ((first | apply Y4 | apply Y5); simp only [evs, Nat.reduceEqDiff, reduceIte, qn, qd, q2, q3, q6] <;> rfl))); done) | (apply Y6; (try simp only [evs, qn, qd, q2, q3, q6]); first | exact r3.load1 rfl rfl rfl | exact z13.loadA (k := 4) rfl rfl rfl (Nat.le_refl 4) rfl | exact z23.loadA (k := 6) rfl rfl rfl (Nat.le_refl 6) rfl)))))
  ((first | apply g_run | apply g_run0) <;> (first | ((repeat' (first | exact Y0 | apply Y1 | exact Y2 | apply Y3 | ((first | apply Y4 | apply Y5); simp only [evs, Nat.reduceEqDiff, reduceIte, qn, qd, q2, q3, q6] <;> rfl))); done) | exact Rn.mk ((by simp only [evs, qn, qd, q2, q3, q6]; exact operand41' hn hlt (ha.grow g3))) | apply Cn.mk))
  rintro v m4 ⟨rfl, g4⟩
  try simp only [evs, qn, qd, q2, q3, q6] at g4
  (repeat (first | (apply G.h; constructor <;> (first | exact Zc | apply gI | ((repeat' (first | exact Y0 | apply Y1 | ((first | apply Y4 | apply Y5); simp only [evs, Nat.reduceEqDiff, reduceIte, qn, qd, q2, q3, q6] <;> rfl))); done) | (apply Y6; (try simp only [evs, qn, qd, q2, q3, q6]); first | rfl)))))
  exact ih (i + 1) _ ⟨(by refine ⟨?_, ?_, ?_, ?_, ?_⟩ <;> (simp only [evs, Nat.reduceEqDiff, reduceIte, qn, qd, q2, q3, q6] <;> first | rfl | (congr 1; omega) | omega)), hlt, by simp only [evs]; exact qg.trans (g3.trans g4)⟩ (by omega)
 ·obtain rfl : i = n + 4 := by omega
  clear ih
  (repeat (first | (apply G.h; constructor <;> (first | exact Zc | apply gI | ((repeat' (first | exact Y0 | apply Y1 | ((first | apply Y4 | apply Y5); simp only [evs, Nat.reduceEqDiff, reduceIte, qn, qd, q2, q3, q6] <;> rfl))); done) | (apply Y6; (try simp only [evs, qn, qd, q2, q3, q6]); first | exact z2a.load1 rfl rfl rfl)))))
  refine ewp_loop (ι := Unit) (fun _ a' => (a'.n = 92 ∧ a'.defers = [] ∧ a'.tmp 3 = ptr (m.next + 1) ∧ a'.tmp 9 = I 0) ∧ a'.m = a.m) (fun _ => 0) () ?_ ?_
  ·exact ⟨(by refine ⟨?_, ?_, ?_, ?_⟩ <;> (simp only [evs, Nat.reduceEqDiff, reduceIte, qn, qd, q2, q3, q6] <;> first | rfl | (congr 1; omega) | omega)), by (simp only [evs, Nat.reduceEqDiff, reduceIte, qn, qd, q2, q3, q6] <;> first | rfl | (congr 1; omega) | omega)⟩
  rintro - a' ⟨⟨un, ud, u3, u9⟩, um⟩ -
  (repeat (first | (apply G.h; constructor <;> (first | exact Zc | apply gI | ((repeat' (first | exact Y0 | apply Y1 | ((first | apply Y4 | apply Y5); simp only [evs, Nat.reduceEqDiff, reduceIte, un, ud, u3, u9, um] <;> rfl))); done) | (apply Y6; (try simp only [evs, un, ud, u3, u9, um]); first | exact z2a.load1 rfl rfl rfl)))))
  (refine g_fin (by repeat' first | exact Rs.nil | apply Rs.cons | (apply Y4; simp only [evs, Nat.reduceEqDiff, reduceIte, un, ud, u3, u9, um] <;> rfl)) (by (simp only [evs, Nat.reduceEqDiff, reduceIte, un, ud, u3, u9, um] <;> first | rfl | (congr 1; omega) | omega)) ?_)
  exact ⟨rfl, by simp only [evs, um]; exact g2.trans qg⟩
end
end Go.Proofs.YthhcnfgeacnfiaaGreatDoor
