/- Part of a verified evaluator of the model's programs and of runs by it: SX5. -/
import Derived.Test.YtihokakelnfdgaaDoorSR
namespace Go.Ev
open Go
section
variable {E : Env} {all l : List Oper} {k : List Kont} {a : Act} {Q : Ex → Act → Prop} {d : Nat} {t : TypeId} {pos : String} {af : Array Edge}
/-- nothing more, behind nothing. -/
theorem g_app0 {t1 t2 e : TypeId} {x y : Operand} {vy : Value} {i : TypeInfo} {z : Value} {du : TypeDesc} {b : Nat}
  (hu : Rf (E.under t1) (some (.slice e))) (hu2 : Rf (E.under t2) (some du)) (hdu : Rf (rowD du) true) (hi : Rf (E.ti e) (some i)) (hz : Rf i.zero (some z)) (hzl : Rf (Nat.beq (cellsOf z).length i.size) true)
  (hx : Ev a x (.slice (some ⟨b, 0, none⟩) 0 0)) (hy : Ev a y vy) (hd : Dn a d) (hin : Hy (effect.cellsIn a.m i.size vy = some (0, []))) (hr : Hy (Row a.m b [] e 0))
  (h : Cn (∀ m', wpO E all l k ((a.mem m').upd d (.slice (some ⟨b, 0, none⟩) 0 0)) Q)) : wpO E all (⟨some d, .call ⟨.builtin .append, #[x, y], #[t1, t2]⟩, t, pos, af, none⟩ :: l) k a Q := by
 obtain ⟨_, c, h1, _⟩ := hr.h
 refine ewpO_append rfl rfl rfl rfl hu.h hu2.h hdu.h hi.h hz.h hzl.h hx.h hy.h hin.h (m' := a.m.put b (.cells 0 c e 0)) ?_ hd.h (h.h _)
 simp [effect.append, h1, storeFrom]
 rfl
end
end Go.Ev
namespace Go.Proofs.YtihokakelnfdgaaDoor
open Go Go.Ev
set_option maxRecDepth 100000
set_option linter.unusedVariables false
set_option linter.unusedSimpArgs false
set_option pp.maxSteps 1500
attribute [local irreducible] quiet allocs effect wp ret wpO Runs Act.tmp Act.eval fin results Tree.set binOp loadAt storeAt target wanted cellsFrom

theorem check18_nil (sl : Option Addr) (cap : Nat) (m : Mem) : Runs evEnv 18 [.slice sl 0 cap] m fun v m' => v = .tuple ⟨[.int .i64 0, .int .i64 6]⟩ ∧ m' = m := by
 refine runs_start rfl rfl rfl rfl ?_
 (repeat (first | (apply G.h; constructor <;> (first | exact Zc | apply gI | ((repeat' (first | exact Y0 | apply Y1 | ((first | apply Y4 | apply Y5); simp only [evs, Nat.reduceEqDiff, reduceIte] <;> rfl))); done) | (apply Y6; (try simp only [evs]); first | rfl)))))
 (refine g_fin (by repeat' first | exact Rs.nil | apply Rs.cons | (apply Y4; simp only [evs, Nat.reduceEqDiff, reduceIte] <;> rfl)) (by (simp only [evs, Nat.reduceEqDiff, reduceIte] <;> first | rfl | (congr 1; omega) | omega)) ?_)
 exact ⟨rfl, by (simp only [evs, Nat.reduceEqDiff, reduceIte] <;> first | rfl | (congr 1; omega) | omega)⟩

theorem Sl.str {X : Nat → Prop} {m : Mem} {v : Value} {gs : List Bs} (h : Sl X m v 9 1 (gs.map encS)) {i : Nat} (hi : i < gs.length) : ∃ b c, v = .slice (some ⟨b, 0, none⟩) gs.length c ∧ loadAt evEnv m 9 b (0 + i * 1) = some (encS gs[i]) := by
 obtain ⟨b, cap, r, n, z1, z2, z3, z4, z5, z6, z7⟩ := h.at (i := i) (by rw [List.length_map]; exact hi)
 have hn : n = gs.length := by
  have := congrArg List.length z6
  rw [List.length_map, List.length_take] at this
  omega
 subst hn
 refine ⟨b, cap, z1, z3.load1 rfl rfl ?_⟩
 rw [show 0 + i * 1 = i by omega, z7, List.getElem?_map, List.getElem?_eq_getElem hi]; rfl
theorem ren_len (s : Bs) : (ren s).length ≤ s.length + 3 := by
 unfold ren
 split
 ·omega
 ·rw [List.length_append]; exact Nat.le_refl _
theorem rnd_ok {x : Nd} (h : x.ok ∧ x.text.length ≤ 140737488351232) : (rnd ren x).ok ∧ (rnd ren x).text.length ≤ 9223372036854775807 := by
 have := ren_len x.text
 unfold rnd
 split
 ·exact ⟨h.1, by show (ren x.text).length ≤ _; omega⟩
 ·exact ⟨h.1, by omega⟩

theorem renamed16_nil (sl : Option Addr) (cap : Nat) (hin : ∀ m, effect.cellsIn m 5 (.slice sl 0 cap) = some (0, [])) (m : Mem) : Runs evEnv 16 [.slice sl 0 cap, encS q9] m fun v m' => ∃ sl' cap', v = .slice sl' 0 cap' := by
 refine runs_start rfl rfl rfl rfl ?_
 (repeat (first | (apply G.h; constructor <;> (first | exact Zc | apply gI | ((repeat' (first | exact Y0 | apply Y1 | ((first | apply Y4 | apply Y5); simp only [evs, Nat.reduceEqDiff, reduceIte] <;> rfl))); done) | (apply Y6; (try simp only [evs]); first | rfl)))))
 have hz := row_new m [] 43 0
 apply g_app0
 focus exact Rf.mk
 focus exact Rf.mk
 focus exact Rf.mk
 focus exact Rf.mk
 focus exact Rf.mk
 focus exact Rf.mk
 focus (apply Ev.mk; (simp only [evs, Nat.reduceEqDiff, reduceIte] <;> rfl))
 focus (apply Ev.mk; (simp only [evs, Nat.reduceEqDiff, reduceIte] <;> rfl))
 focus (apply Dn.mk; (simp only [evs, Nat.reduceEqDiff, reduceIte] <;> rfl))
 focus exact Hy.mk (hin _)
 focus exact Hy.mk (by simp only [evs]; exact hz)
 refine Cn.mk ?_
 intro m2
 (repeat (first | (apply G.h; constructor <;> (first | exact Zc | apply gI | ((repeat' (first | exact Y0 | apply Y1 | ((first | apply Y4 | apply Y5); simp only [evs, Nat.reduceEqDiff, reduceIte] <;> rfl))); done) | (apply Y6; (try simp only [evs]); first | rfl)))))
 refine ewp_loop (ι := Nat) (fun i a => (a.n = 57 ∧ a.defers = [] ∧ a.tmp 5 = .slice (some ⟨m.next, 0, none⟩) 0 0 ∧ a.tmp 6 = I 0)) (fun _ => 0) 0 ?_ ?_
 ·exact (by refine ⟨?_, ?_, ?_, ?_⟩ <;> (simp only [evs, Nat.reduceEqDiff, reduceIte] <;> first | rfl | (congr 1; omega) | omega))
 rintro i a ⟨pn, pd, p5, p6⟩ -
 (repeat (first | (apply G.h; constructor <;> (first | exact Zc | apply gI | ((repeat' (first | exact Y0 | apply Y1 | ((first | apply Y4 | apply Y5); simp only [evs, Nat.reduceEqDiff, reduceIte, pn, pd, p5, p6] <;> rfl))); done) | (apply Y6; (try simp only [evs, pn, pd, p5, p6]); first | rfl)))))
 (refine g_fin (by repeat' first | exact Rs.nil | apply Rs.cons | (apply Y4; simp only [evs, Nat.reduceEqDiff, reduceIte, pn, pd, p5, p6] <;> rfl)) (by (simp only [evs, Nat.reduceEqDiff, reduceIte, pn, pd, p5, p6] <;> first | rfl | (congr 1; omega) | omega)) ?_)
 exact ⟨_, _, rfl⟩
theorem names4_long (sl : Option Addr) (n cap : Nat) (hn : 400 < n) (hn2 : n ≤ 9223372036854775807) (m : Mem) : Runs evEnv 4 [.slice sl n cap] m fun v _ => v = .bool true := by
 refine runs_start rfl rfl rfl rfl ?_
 (repeat (first | (apply G.h; constructor <;> (first | exact Zc | apply gI | ((repeat' (first | exact Y0 | apply Y1 | ((first | apply Y4 | apply Y5); simp only [evs, Nat.reduceEqDiff, reduceIte] <;> rfl))); done) | (apply Y6; (try simp only [evs]); first | rfl)))))
 ((first | apply g_run | apply g_run0) <;> (first | ((repeat' (first | exact Y0 | apply Y1 | exact Y2 | apply Y3 | ((first | apply Y4 | apply Y5); simp only [evs, Nat.reduceEqDiff, reduceIte] <;> rfl))); done) | exact Rn.mk (live10 _) | apply Cn.mk))
 rintro v m5 ⟨rfl, rfl⟩
 (repeat (first | (apply G.h; constructor <;> (first | exact Zc | apply gI | ((repeat' (first | exact Y0 | apply Y1 | ((first | apply Y4 | apply Y5); simp only [evs, Nat.reduceEqDiff, reduceIte] <;> rfl))); done) | (apply Y6; (try simp only [evs]); first | rfl)))))
 (refine g_fin (by repeat' first | exact Rs.nil | apply Rs.cons | (apply Y4; simp only [evs, Nat.reduceEqDiff, reduceIte] <;> rfl)) (by (simp only [evs, Nat.reduceEqDiff, reduceIte] <;> first | rfl | (congr 1; omega) | omega)) ?_)
 rfl
theorem names4_nil (sl : Option Addr) (cap : Nat) (hin : ∀ m, effect.cellsIn m 5 (.slice sl 0 cap) = some (0, [])) (m : Mem) : Runs evEnv 4 [.slice sl 0 cap] m fun v _ => v = .bool true := by
 refine runs_start rfl rfl rfl rfl ?_
 (repeat (first | (apply G.h; constructor <;> (first | exact Zc | apply gI | ((repeat' (first | exact Y0 | apply Y1 | ((first | apply Y4 | apply Y5); simp only [evs, Nat.reduceEqDiff, reduceIte] <;> rfl))); done) | (apply Y6; (try simp only [evs]); first | rfl)))))
 ((first | apply g_run | apply g_run0) <;> (first | ((repeat' (first | exact Y0 | apply Y1 | exact Y2 | apply Y3 | ((first | apply Y4 | apply Y5); simp only [evs, Nat.reduceEqDiff, reduceIte] <;> rfl))); done) | exact Rn.mk (renamed16_nil sl cap hin _) | apply Cn.mk))
 rintro v m1 ⟨sl', cap', rfl⟩
 (repeat (first | (apply G.h; constructor <;> (first | exact Zc | apply gI | ((repeat' (first | exact Y0 | apply Y1 | ((first | apply Y4 | apply Y5); simp only [evs, Nat.reduceEqDiff, reduceIte] <;> rfl))); done) | (apply Y6; (try simp only [evs]); first | rfl)))))
 refine ewp_loop (ι := Nat) (fun i a => (a.n = 120 ∧ a.defers = [] ∧ a.tmp 0 = .slice sl 0 cap ∧ a.tmp 3 = .slice sl' 0 cap' ∧ a.tmp 4 = I 0)) (fun _ => 0) 0 ?_ ?_
 ·exact (by refine ⟨?_, ?_, ?_, ?_, ?_⟩ <;> (simp only [evs, Nat.reduceEqDiff, reduceIte] <;> first | rfl | (congr 1; omega) | omega))
 rintro i a ⟨qn, qd, q0, q3, q4⟩ -
 (repeat (first | (apply G.h; constructor <;> (first | exact Zc | apply gI | ((repeat' (first | exact Y0 | apply Y1 | ((first | apply Y4 | apply Y5); simp only [evs, Nat.reduceEqDiff, reduceIte, qn, qd, q0, q3, q4] <;> rfl))); done) | (apply Y6; (try simp only [evs, qn, qd, q0, q3, q4]); first | rfl)))))
 ((first | apply g_run | apply g_run0) <;> (first | ((repeat' (first | exact Y0 | apply Y1 | exact Y2 | apply Y3 | ((first | apply Y4 | apply Y5); simp only [evs, Nat.reduceEqDiff, reduceIte, qn, qd, q0, q3, q4] <;> rfl))); done) | exact Rn.mk (resolve12_nil sl cap _) | apply Cn.mk))
 rintro v m2 ⟨rfl, gr⟩
 have hz := row_new m2 [nilS, nilS, nilS] 31 0
 (repeat (first | (apply G.h; constructor <;> (first | exact Zc | apply gI | ((repeat' (first | exact Y0 | apply Y1 | ((first | apply Y4 | apply Y5); simp only [evs, Nat.reduceEqDiff, reduceIte, qn, qd, q0, q3, q4] <;> rfl))); done) | (apply Y6; (try simp only [evs, qn, qd, q0, q3, q4]); first | rfl)))))
 (apply g_stR <;> (first | exact Zc | apply gI | ((repeat' (first | exact Y0 | apply Y1 | exact Y2 | apply Y3 | ((first | apply Y4 | apply Y5); simp only [evs, Nat.reduceEqDiff, reduceIte, qn, qd, q0, q3, q4] <;> rfl))); done) | (apply Hy.mk; (try simp only [evs, qn, qd, q0, q3, q4]); first | exact hz | assumption) | (apply Om.mk; first | exact hz) | (apply Y6; (try simp only [evs, qn, qd, q0, q3, q4]); first | rfl) | apply Cn.mk))
 intro m3 r3 o3 n3; simp only [evs, qn, qd, q0, q3, q4] at r3 o3 n3
 (repeat (first | (apply G.h; constructor <;> (first | exact Zc | apply gI | ((repeat' (first | exact Y0 | apply Y1 | ((first | apply Y4 | apply Y5); simp only [evs, Nat.reduceEqDiff, reduceIte, qn, qd, q0, q3, q4] <;> rfl))); done) | (apply Y6; (try simp only [evs, qn, qd, q0, q3, q4]); first | rfl)))))
 ((first | apply g_run | apply g_run0) <;> (first | ((repeat' (first | exact Y0 | apply Y1 | exact Y2 | apply Y3 | ((first | apply Y4 | apply Y5); simp only [evs, Nat.reduceEqDiff, reduceIte, qn, qd, q0, q3, q4] <;> rfl))); done) | exact Rn.mk (resolve12_nil sl' cap' _) | apply Cn.mk))
 rintro v m4 ⟨rfl, gr'⟩
 have hz := row_new m4 [nilS, nilS, nilS] 31 0
 (repeat (first | (apply G.h; constructor <;> (first | exact Zc | apply gI | ((repeat' (first | exact Y0 | apply Y1 | ((first | apply Y4 | apply Y5); simp only [evs, Nat.reduceEqDiff, reduceIte, qn, qd, q0, q3, q4] <;> rfl))); done) | (apply Y6; (try simp only [evs, qn, qd, q0, q3, q4]); first | rfl)))))
 (apply g_stR <;> (first | exact Zc | apply gI | ((repeat' (first | exact Y0 | apply Y1 | exact Y2 | apply Y3 | ((first | apply Y4 | apply Y5); simp only [evs, Nat.reduceEqDiff, reduceIte, qn, qd, q0, q3, q4] <;> rfl))); done) | (apply Hy.mk; (try simp only [evs, qn, qd, q0, q3, q4]); first | exact hz | assumption) | (apply Om.mk; first | exact hz) | (apply Y6; (try simp only [evs, qn, qd, q0, q3, q4]); first | rfl) | apply Cn.mk))
 intro m5 r5 o5 n5; simp only [evs, qn, qd, q0, q3, q4] at r5 o5 n5
 (repeat (first | (apply G.h; constructor <;> (first | exact Zc | apply gI | ((repeat' (first | exact Y0 | apply Y1 | ((first | apply Y4 | apply Y5); simp only [evs, Nat.reduceEqDiff, reduceIte, qn, qd, q0, q3, q4] <;> rfl))); done) | (apply Y6; (try simp only [evs, qn, qd, q0, q3, q4]); first | rfl)))))
 ((first | apply g_run | apply g_run0) <;> (first | ((repeat' (first | exact Y0 | apply Y1 | exact Y2 | apply Y3 | ((first | apply Y4 | apply Y5); simp only [evs, Nat.reduceEqDiff, reduceIte, qn, qd, q0, q3, q4] <;> rfl))); done) | exact Rn.mk (check18_nil sl cap _) | apply Cn.mk))
 rintro v m6 ⟨rfl, rfl⟩
 (repeat (first | (apply G.h; constructor <;> (first | exact Zc | apply gI | ((repeat' (first | exact Y0 | apply Y1 | ((first | apply Y4 | apply Y5); simp only [evs, Nat.reduceEqDiff, reduceIte, qn, qd, q0, q3, q4] <;> rfl))); done) | (apply Y6; (try simp only [evs, qn, qd, q0, q3, q4]); first | rfl)))))
 ((first | apply g_run | apply g_run0) <;> (first | ((repeat' (first | exact Y0 | apply Y1 | exact Y2 | apply Y3 | ((first | apply Y4 | apply Y5); simp only [evs, Nat.reduceEqDiff, reduceIte, qn, qd, q0, q3, q4] <;> rfl))); done) | exact Rn.mk (check18_nil sl' cap' _) | apply Cn.mk))
 rintro v m6 ⟨rfl, rfl⟩
 (repeat (first | (apply G.h; constructor <;> (first | exact Zc | apply gI | ((repeat' (first | exact Y0 | apply Y1 | ((first | apply Y4 | apply Y5); simp only [evs, Nat.reduceEqDiff, reduceIte, qn, qd, q0, q3, q4] <;> rfl))); done) | (apply Y6; (try simp only [evs, qn, qd, q0, q3, q4]); first | rfl)))))
 ((first | apply g_run | apply g_run0) <;> (first | ((repeat' (first | exact Y0 | apply Y1 | exact Y2 | apply Y3 | ((first | apply Y4 | apply Y5); simp only [evs, Nat.reduceEqDiff, reduceIte, qn, qd, q0, q3, q4] <;> rfl))); done) | exact Rn.mk (live10 _) | apply Cn.mk))
 rintro v m6 ⟨rfl, rfl⟩
 (repeat (first | (apply G.h; constructor <;> (first | exact Zc | apply gI | ((repeat' (first | exact Y0 | apply Y1 | ((first | apply Y4 | apply Y5); simp only [evs, Nat.reduceEqDiff, reduceIte, qn, qd, q0, q3, q4] <;> rfl))); done) | (apply Y6; (try simp only [evs, qn, qd, q0, q3, q4]); first | rfl)))))
 (refine g_fin (by repeat' first | exact Rs.nil | apply Rs.cons | (apply Y4; simp only [evs, Nat.reduceEqDiff, reduceIte, qn, qd, q0, q3, q4] <;> rfl)) (by (simp only [evs, Nat.reduceEqDiff, reduceIte, qn, qd, q0, q3, q4] <;> first | rfl | (congr 1; omega) | omega)) ?_)
 rfl

set_option maxHeartbeats 4000000 in
theorem names4 (b off cap : Nat) (l : List Nd) (hok : ∀ x ∈ l, x.ok ∧ x.text.length ≤ 140737488351232) (hl : l.length ≤ 400) (hne : l ≠ []) (m : Mem) (hN : Nodes m b off l) (hNm : Names m) (hbn : b < m.next) (h0 : 0 < m.next) :
  Runs evEnv 4 [.slice (some ⟨b, off, none⟩) l.length cap] m fun v _ => v = .bool true := by
 have hpos : 0 < l.length := List.length_pos_iff.2 hne
 have hT : ∀ x ∈ l, x.text.length ≤ 140737488351232 := fun x hx => (hok x hx).2
 have hok1 : ∀ x ∈ l, x.ok ∧ x.text.length ≤ 9223372036854775807 := fun x hx => ⟨(hok x hx).1, Nat.le_trans (hT x hx) (by decide)⟩
 refine runs_start rfl rfl rfl rfl ?_
 (repeat (first | (apply G.h; constructor <;> (first | exact Zc | apply gI | ((repeat' (first | exact Y0 | apply Y1 | ((first | apply Y4 | apply Y5); simp only [evs, Nat.reduceEqDiff, reduceIte] <;> rfl))); done) | (apply Y6; (try simp only [evs]); first | rfl)))))
 ((first | apply g_run | apply g_run0) <;> (first | ((repeat' (first | exact Y0 | apply Y1 | exact Y2 | apply Y3 | ((first | apply Y4 | apply Y5); simp only [evs, Nat.reduceEqDiff, reduceIte] <;> rfl))); done) | exact Rn.mk (renamed16 b off cap l hl hne hT _ (by simp only [evs]; exact hN) (by simp only [evs]; exact hbn)) | apply Cn.mk))
 rintro v m1 ⟨k1, nb, cap', rfl, hN1, hnb⟩
 simp only [evs] at k1
 (repeat (first | (apply G.h; constructor <;> (first | exact Zc | apply gI | ((repeat' (first | exact Y0 | apply Y1 | ((first | apply Y4 | apply Y5); simp only [evs, Nat.reduceEqDiff, reduceIte] <;> rfl))); done) | (apply Y6; (try simp only [evs]); first | rfl)))))
 refine ewp_loop (ι := Nat) (fun i a => (a.n = 120 ∧ a.defers = [] ∧ a.tmp 0 = .slice (some ⟨b, off, none⟩) l.length cap ∧ a.tmp 3 = .slice (some ⟨nb, 0, none⟩) l.length cap' ∧ a.tmp 4 = I i) ∧ Grow m1 a.m ∧ i ≤ l.length ∧ ∀ j (h : j < l.length), j < i → primI l[j].text = none → primI (rnd ren l[j]).text = none) (fun i => l.length - i) 0 ?_ ?_
 ·exact ⟨(by refine ⟨?_, ?_, ?_, ?_, ?_⟩ <;> (simp only [evs, Nat.reduceEqDiff, reduceIte] <;> first | rfl | (congr 1; omega) | omega)), by simp only [evs]; exact Grow.refl _, Nat.zero_le _, fun j _ hj => absurd hj (Nat.not_lt_zero _)⟩
 rintro i a ⟨⟨qn, qd, q0, q3, q4⟩, gr, hi, hj⟩ ih
 have kL : Keep (fun c => c < m.next) [43] m a.m := k1.trans (Keep.grow gr)
 have hNL : Nodes a.m b off l := hN.stay (X := fun c => c < m.next) hbn hbn kL
 have hNL' : Nodes a.m nb 0 (l.map (rnd ren)) := hN1.grow hnb gr
 have hbL : b < a.m.next := Nat.lt_of_lt_of_le hbn kL.1
 have hnbL : nb < a.m.next := Nat.lt_of_lt_of_le hnb gr.1
 rcases Nat.lt_or_ge i l.length with hlt | hge
 ·have hst := hNL.str i hlt
  have hst' := hNL'.str i (by rw [List.length_map]; exact hlt)
  rw [List.getElem_map] at hst'
  have hnext : (primI l[i].text = none → primI (rnd ren l[i]).text = none) → ∀ j (h : j < l.length), j < i + 1 → primI l[j].text = none → primI (rnd ren l[j]).text = none := fun hh j h hji => by
   rcases Nat.lt_or_ge j i with h1 | h1
   ·exact hj j h h1
   ·obtain rfl : j = i := by omega
    exact hh
  generalize (rnd ren l[i]).text = tx' at hst' hnext
  generalize htx : l[i].text = tx at hst hnext
  (repeat (first | (apply G.h; constructor <;> (first | exact Zc | apply gI | ((repeat' (first | exact Y0 | apply Y1 | ((first | apply Y4 | apply Y5); simp only [evs, Nat.reduceEqDiff, reduceIte, qn, qd, q0, q3, q4] <;> rfl))); done) | (apply Y6; (try simp only [evs, qn, qd, q0, q3, q4]); first | exact hst')))))
  ((first | apply g_run | apply g_run0) <;> (first | ((repeat' (first | exact Y0 | apply Y1 | exact Y2 | apply Y3 | ((first | apply Y4 | apply Y5); simp only [evs, Nat.reduceEqDiff, reduceIte, qn, qd, q0, q3, q4] <;> rfl))); done) | exact Rn.mk (prim17 tx' _) | apply Cn.mk))
  rintro v m2 ⟨rfl, g2⟩
  simp only [evs] at g2
  cases hp' : primI tx' with
  | none =>
   have hpd : primD tx' = I (-1) := by unfold primD; rw [hp']
   rw [hpd]
   (repeat (first | (apply G.h; constructor <;> (first | exact Zc | apply gI | ((repeat' (first | exact Y0 | apply Y1 | ((first | apply Y4 | apply Y5); simp only [evs, Nat.reduceEqDiff, reduceIte, qn, qd, q0, q3, q4] <;> rfl))); done) | (apply Y6; (try simp only [evs, qn, qd, q0, q3, q4]); first | rfl)))))
   refine ih (i + 1) _ ⟨(by refine ⟨?_, ?_, ?_, ?_, ?_⟩ <;> (simp only [evs, Nat.reduceEqDiff, reduceIte, qn, qd, q0, q3, q4] <;> first | rfl | (congr 1; omega) | omega)), by simp only [evs]; exact gr.trans g2, hlt, hnext fun _ => hp'⟩ (by omega)
  | some pi =>
   have hpd : primD tx' = I (pi : Nat) := by unfold primD; rw [hp']
   rw [hpd]
   have hst2 := (hNL.grow hbL g2).str i hlt
   rw [htx] at hst2
   (repeat (first | (apply G.h; constructor <;> (first | exact Zc | apply gI | ((repeat' (first | exact Y0 | apply Y1 | ((first | apply Y4 | apply Y5); simp only [evs, Nat.reduceEqDiff, reduceIte, qn, qd, q0, q3, q4] <;> rfl))); done) | (apply Y6; (try simp only [evs, qn, qd, q0, q3, q4]); first | exact hst2)))))
   ((first | apply g_run | apply g_run0) <;> (first | ((repeat' (first | exact Y0 | apply Y1 | exact Y2 | apply Y3 | ((first | apply Y4 | apply Y5); simp only [evs, Nat.reduceEqDiff, reduceIte, qn, qd, q0, q3, q4] <;> rfl))); done) | exact Rn.mk (prim17 tx _) | apply Cn.mk))
   rintro v m3 ⟨rfl, g3⟩
   simp only [evs] at g3
   cases hp : primI tx with
   | none =>
    rw [show primD tx = I (-1) by unfold primD; rw [hp]]
    (repeat (first | (apply G.h; constructor <;> (first | exact Zc | apply gI | ((repeat' (first | exact Y0 | apply Y1 | ((first | apply Y4 | apply Y5); simp only [evs, Nat.reduceEqDiff, reduceIte, qn, qd, q0, q3, q4] <;> rfl))); done) | (apply Y6; (try simp only [evs, qn, qd, q0, q3, q4]); first | rfl)))))
    ((first | apply g_run | apply g_run0) <;> (first | ((repeat' (first | exact Y0 | apply Y1 | exact Y2 | apply Y3 | ((first | apply Y4 | apply Y5); simp only [evs, Nat.reduceEqDiff, reduceIte, qn, qd, q0, q3, q4] <;> rfl))); done) | exact Rn.mk (live10 _) | apply Cn.mk))
    rintro v m4 ⟨rfl, rfl⟩
    (repeat (first | (apply G.h; constructor <;> (first | exact Zc | apply gI | ((repeat' (first | exact Y0 | apply Y1 | ((first | apply Y4 | apply Y5); simp only [evs, Nat.reduceEqDiff, reduceIte, qn, qd, q0, q3, q4] <;> rfl))); done) | (apply Y6; (try simp only [evs, qn, qd, q0, q3, q4]); first | rfl)))))
    (refine g_fin (by repeat' first | exact Rs.nil | apply Rs.cons | (apply Y4; simp only [evs, Nat.reduceEqDiff, reduceIte, qn, qd, q0, q3, q4] <;> rfl)) (by (simp only [evs, Nat.reduceEqDiff, reduceIte, qn, qd, q0, q3, q4] <;> first | rfl | (congr 1; omega) | omega)) ?_)
    rfl
   | some pj =>
    rw [show primD tx = I (pj : Nat) by unfold primD; rw [hp]]
    (repeat (first | (apply G.h; constructor <;> (first | exact Zc | apply gI | ((repeat' (first | exact Y0 | apply Y1 | ((first | apply Y4 | apply Y5); simp only [evs, Nat.reduceEqDiff, reduceIte, qn, qd, q0, q3, q4] <;> rfl))); done) | (apply Y6; (try simp only [evs, qn, qd, q0, q3, q4]); first | rfl)))))
    refine ih (i + 1) _ ⟨(by refine ⟨?_, ?_, ?_, ?_, ?_⟩ <;> (simp only [evs, Nat.reduceEqDiff, reduceIte, qn, qd, q0, q3, q4] <;> first | rfl | (congr 1; omega) | omega)), by simp only [evs]; exact (gr.trans g2).trans g3, hlt, hnext fun h => by rw [hp] at h; cases h⟩ (by omega)
 ·obtain rfl : i = l.length := by omega
  have hq : ∀ x ∈ l, primI x.text = none → primI (rnd ren x).text = none := fun x hx => by
   obtain ⟨j, hjl, rfl⟩ := List.getElem_of_mem hx
   exact hj j hjl hjl
  clear hj ih
  have h0L : 0 < a.m.next := Nat.lt_of_lt_of_le h0 kL.1
  have hNmL : Names a.m := hNm.stay (X := fun c => c < m.next) h0 h0 kL
  have hR := resolve12 b off cap l hok1 hl hne a.m hNL hNmL hbL h0L
  (repeat (first | (apply G.h; constructor <;> (first | exact Zc | apply gI | ((repeat' (first | exact Y0 | apply Y1 | ((first | apply Y4 | apply Y5); simp only [evs, Nat.reduceEqDiff, reduceIte, qn, qd, q0, q3, q4] <;> rfl))); done) | (apply Y6; (try simp only [evs, qn, qd, q0, q3, q4]); first | rfl)))))
  ((first | apply g_run | apply g_run0) <;> (first | ((repeat' (first | exact Y0 | apply Y1 | exact Y2 | apply Y3 | ((first | apply Y4 | apply Y5); simp only [evs, Nat.reduceEqDiff, reduceIte, qn, qd, q0, q3, q4] <;> rfl))); done) | exact Rn.mk ((by simp only [evs]; exact hR)) | apply Cn.mk))
  rintro v m2 ⟨k2, hres⟩
  clear hR
  obtain ⟨a1, a2, a3, e, p, fs, us, gs, cvs, rfl, F, hF⟩ := res_form hres
  clear hres
  obtain ⟨sb1, sc1, rfl⟩ := Sl.form2 F.1 (by decide) (encFns_len cvs fs F.2.1.1)
  obtain ⟨sb2, sc2, rfl⟩ := Sl.form2 F.2.2.1 (by decide) (encPs_len us)
  obtain ⟨sb3, sc3, rfl⟩ := Sl.form2 F.2.2.2 (n := gs.length) (by decide) (by simp)
  have hz := row_new m2 [nilS, nilS, nilS] 31 0
  (repeat (first | (apply G.h; constructor <;> (first | exact Zc | apply gI | ((repeat' (first | exact Y0 | apply Y1 | ((first | apply Y4 | apply Y5); simp only [evs, Nat.reduceEqDiff, reduceIte, qn, qd, q0, q3, q4] <;> rfl))); done) | (apply Y6; (try simp only [evs, qn, qd, q0, q3, q4]); first | rfl)))))
  (apply g_stR <;> (first | exact Zc | apply gI | ((repeat' (first | exact Y0 | apply Y1 | exact Y2 | apply Y3 | ((first | apply Y4 | apply Y5); simp only [evs, Nat.reduceEqDiff, reduceIte, qn, qd, q0, q3, q4] <;> rfl))); done) | (apply Hy.mk; (try simp only [evs, qn, qd, q0, q3, q4]); first | exact hz | assumption) | (apply Om.mk; first | exact hz) | (apply Y6; (try simp only [evs, qn, qd, q0, q3, q4]); first | rfl) | apply Cn.mk))
  intro m3 r3 o3 n3; simp only [evs, qn, qd, q0, q3, q4] at r3 o3 n3
  replace r3 : Row m3 m2.next [.slice sb1 fs.length sc1, .slice sb2 us.length sc2, .slice sb3 gs.length sc3] 31 0 := r3
  have gr3 : Grow m2 m3 := ((Grow.refl m2).new _).wrote (Nat.le_refl _) o3 n3
  have hm23 : m2.next < m3.next := by rw [n3]; exact Nat.lt_succ_self _
  have c23 : Keep (fun c => c < a.m.next) TT a.m m3 := k2.trans (Keep.grow gr3)
  have hN3 : Nodes m3 b off l := hNL.stay (X := fun c => c < a.m.next) hbL hbL c23
  have hN3' : Nodes m3 nb 0 (l.map (rnd ren)) := hNL'.stay (X := fun c => c < a.m.next) hnbL hnbL c23
  have hNm3 : Names m3 := hNmL.stay (X := fun c => c < a.m.next) h0L h0L c23
  have hb3 := Nat.lt_of_lt_of_le hbL c23.1
  have hnb3 := Nat.lt_of_lt_of_le hnbL c23.1
  have h03 := Nat.lt_of_lt_of_le h0L c23.1
  have hok' : ∀ x ∈ l.map (rnd ren), x.ok ∧ x.text.length ≤ 9223372036854775807 := fun x hx => by
   obtain ⟨y, hy, rfl⟩ := List.mem_map.1 hx
   exact rnd_ok (hok y hy)
  have hR := resolve12 nb 0 cap' (l.map (rnd ren)) hok' (by rw [List.length_map]; exact hl) (fun h => hne (List.map_eq_nil_iff.1 h)) m3 hN3' hNm3 hnb3 h03
  rw [List.length_map] at hR
  (repeat (first | (apply G.h; constructor <;> (first | exact Zc | apply gI | ((repeat' (first | exact Y0 | apply Y1 | ((first | apply Y4 | apply Y5); simp only [evs, Nat.reduceEqDiff, reduceIte, qn, qd, q0, q3, q4] <;> rfl))); done) | (apply Y6; (try simp only [evs, qn, qd, q0, q3, q4]); first | rfl)))))
  ((first | apply g_run | apply g_run0) <;> (first | ((repeat' (first | exact Y0 | apply Y1 | exact Y2 | apply Y3 | ((first | apply Y4 | apply Y5); simp only [evs, Nat.reduceEqDiff, reduceIte, qn, qd, q0, q3, q4] <;> rfl))); done) | exact Rn.mk ((by simp only [evs]; exact hR)) | apply Cn.mk))
  rintro v m4 ⟨k4, hres⟩
  clear hR
  obtain ⟨a1', a2', a3', e', p', fs', us', gs', cvs', rfl, F', hF'⟩ := res_form hres
  clear hres
  obtain ⟨sb1', sc1', rfl⟩ := Sl.form2 F'.1 (by decide) (encFns_len cvs' fs' F'.2.1.1)
  obtain ⟨sb2', sc2', rfl⟩ := Sl.form2 F'.2.2.1 (by decide) (encPs_len us')
  obtain ⟨sb3', ng, sc3', rfl, hng⟩ := Sl.form F'.2.2.2 (by decide)
  have hz' := row_new m4 [nilS, nilS, nilS] 31 0
  (repeat (first | (apply G.h; constructor <;> (first | exact Zc | apply gI | ((repeat' (first | exact Y0 | apply Y1 | ((first | apply Y4 | apply Y5); simp only [evs, Nat.reduceEqDiff, reduceIte, qn, qd, q0, q3, q4] <;> rfl))); done) | (apply Y6; (try simp only [evs, qn, qd, q0, q3, q4]); first | rfl)))))
  (apply g_stR <;> (first | exact Zc | apply gI | ((repeat' (first | exact Y0 | apply Y1 | exact Y2 | apply Y3 | ((first | apply Y4 | apply Y5); simp only [evs, Nat.reduceEqDiff, reduceIte, qn, qd, q0, q3, q4] <;> rfl))); done) | (apply Hy.mk; (try simp only [evs, qn, qd, q0, q3, q4]); first | exact hz' | assumption) | (apply Om.mk; first | exact hz') | (apply Y6; (try simp only [evs, qn, qd, q0, q3, q4]); first | rfl) | apply Cn.mk))
  intro m5 r5 o5 n5; simp only [evs, qn, qd, q0, q3, q4] at r5 o5 n5
  replace r5 : Row m5 m4.next [.slice sb1' fs'.length sc1', .slice sb2' us'.length sc2', .slice sb3' ng sc3'] 31 0 := r5
  have gr5 : Grow m4 m5 := ((Grow.refl m4).new _).wrote (Nat.le_refl _) o5 n5
  have c45 : Keep (fun c => c < m3.next) TT m3 m5 := k4.trans (Keep.grow gr5)
  have hN5 : Nodes m5 b off l := hN3.stay (X := fun c => c < m3.next) hb3 hb3 c45
  have hN5' : Nodes m5 nb 0 (l.map (rnd ren)) := hN3'.stay (X := fun c => c < m3.next) hnb3 hnb3 c45
  have hb5 := Nat.lt_of_lt_of_le hb3 c45.1
  have hnb5 := Nat.lt_of_lt_of_le hnb3 c45.1
  have r35 := r3.stay c45 (.inl hm23)
  have FA := (F.grow gr3).held c45
  have hs' : ∀ x, x < m4.next → ¬ x < m3.next → ¬ x < a.m.next := fun x _ h1 h2 => h1 (Nat.lt_of_lt_of_le h2 c23.1)
  have FB := (F'.sub hs').grow gr5
  have hm24 : m4.next ≠ m2.next := by have := k4.1; omega
  have hx2 : ¬ m2.next < a.m.next := by have := k2.1; omega
  have hx4 : ¬ m4.next < a.m.next := by have := c23.1; have := k4.1; omega
  clear F F' k2 k4 hz hz' o3 n3 o5 n5 hNL hNL' hNmL hN3 hN3' hNm3 gr3 gr5
  have hK := check16 b off cap l hok1 (by omega) m5 hN5 hb5 hne
  (repeat (first | (apply G.h; constructor <;> (first | exact Zc | apply gI | ((repeat' (first | exact Y0 | apply Y1 | ((first | apply Y4 | apply Y5); simp only [evs, Nat.reduceEqDiff, reduceIte, qn, qd, q0, q3, q4] <;> rfl))); done) | (apply Y6; (try simp only [evs, qn, qd, q0, q3, q4]); first | rfl)))))
  ((first | apply g_run | apply g_run0) <;> (first | ((repeat' (first | exact Y0 | apply Y1 | exact Y2 | apply Y3 | ((first | apply Y4 | apply Y5); simp only [evs, Nat.reduceEqDiff, reduceIte, qn, qd, q0, q3, q4] <;> rfl))); done) | exact Rn.mk ((by simp only [evs]; exact hK)) | apply Cn.mk))
  rintro v m6 ⟨g6, p1, e1, rfl, he1⟩
  clear hK
  have hK := check16 nb 0 cap' (l.map (rnd ren)) hok' (by rw [List.length_map]; omega) m6 (hN5'.grow hnb5 g6) (Nat.lt_of_lt_of_le hnb5 g6.1) (fun h => hne (List.map_eq_nil_iff.1 h))
  rw [List.length_map] at hK
  (repeat (first | (apply G.h; constructor <;> (first | exact Zc | apply gI | ((repeat' (first | exact Y0 | apply Y1 | ((first | apply Y4 | apply Y5); simp only [evs, Nat.reduceEqDiff, reduceIte, qn, qd, q0, q3, q4] <;> rfl))); done) | (apply Y6; (try simp only [evs, qn, qd, q0, q3, q4]); first | rfl)))))
  ((first | apply g_run | apply g_run0) <;> (first | ((repeat' (first | exact Y0 | apply Y1 | exact Y2 | apply Y3 | ((first | apply Y4 | apply Y5); simp only [evs, Nat.reduceEqDiff, reduceIte, qn, qd, q0, q3, q4] <;> rfl))); done) | exact Rn.mk ((by simp only [evs]; exact hK)) | apply Cn.mk))
  rintro v m7 ⟨g7, p2, e2, rfl, he2⟩
  clear hK
  have r37 := r35.grow (g6.trans g7)
  have r57 := r5.grow (g6.trans g7)
  have FA7 := FA.grow (g6.trans g7)
  have FB7 := FB.grow (g6.trans g7)
  clear FA FB r35 r5
  by_cases hg : e1 = 0
  ·by_cases hg2 : e2 = 0
   ·obtain ⟨rfl, rfl, rfl, rfl, rfl, hgb, d1, d2, d3, d4⟩ := both_form hl hpos hT hq (he1.1 hg) (hF (he1.1 hg)) (hF' (he2.1 hg2))
    obtain rfl : ng = gs.length := by simp at hng; omega
    subst hg; subst hg2
    clear hF hF' he1 he2 hng
    (repeat (first | (apply G.h; constructor <;> (first | exact Zc | apply gI | ((repeat' (first | exact Y0 | apply Y1 | ((first | apply Y4 | apply Y5); simp only [evs, Nat.reduceEqDiff, reduceIte, qn, qd, q0, q3, q4] <;> rfl))); done) | (apply Y6; (try simp only [evs, qn, qd, q0, q3, q4]); first | rfl)))))
    ((first | apply g_run | apply g_run0) <;> (first | ((repeat' (first | exact Y0 | apply Y1 | exact Y2 | apply Y3 | ((first | apply Y4 | apply Y5); simp only [evs, Nat.reduceEqDiff, reduceIte, qn, qd, q0, q3, q4] <;> rfl))); done) | exact Rn.mk (num15 _ _) | apply Cn.mk))
    rintro v m8 ⟨rfl, rfl⟩
    (repeat (first | (apply G.h; constructor <;> (first | exact Zc | apply gI | ((repeat' (first | exact Y0 | apply Y1 | ((first | apply Y4 | apply Y5); simp only [evs, Nat.reduceEqDiff, reduceIte, qn, qd, q0, q3, q4] <;> rfl))); done) | (apply Y6; (try simp only [evs, qn, qd, q0, q3, q4]); first | rfl)))))
    ((first | apply g_run | apply g_run0) <;> (first | ((repeat' (first | exact Y0 | apply Y1 | exact Y2 | apply Y3 | ((first | apply Y4 | apply Y5); simp only [evs, Nat.reduceEqDiff, reduceIte, qn, qd, q0, q3, q4] <;> rfl))); done) | exact Rn.mk (num15 _ _) | apply Cn.mk))
    rintro v m8 ⟨rfl, rfl⟩
    (repeat (first | (apply G.h; constructor <;> (first | exact Zc | apply gI | ((repeat' (first | exact Y0 | apply Y1 | ((first | apply Y4 | apply Y5); simp only [evs, Nat.reduceEqDiff, reduceIte, qn, qd, q0, q3, q4] <;> rfl))); done) | (apply Y6; (try simp only [evs, qn, qd, q0, q3, q4]); first | exact r37.load1 rfl rfl rfl | exact r57.load1 rfl rfl rfl)))))
    refine ewp_loop (ι := Nat) (fun i a' => (a'.n = 120 ∧ a'.defers = [] ∧ a'.tmp 5 = ptr m2.next ∧ a'.tmp 8 = ptr m4.next ∧ a'.tmp 15 = I i) ∧ a'.m = m7 ∧ i ≤ gs.length) (fun i => gs.length - i) 0 ?_ ?_
    ·exact ⟨(by refine ⟨?_, ?_, ?_, ?_, ?_⟩ <;> (simp only [evs, Nat.reduceEqDiff, reduceIte, qn, qd, q0, q3, q4] <;> first | rfl | (congr 1; omega) | omega)), by (simp only [evs, Nat.reduceEqDiff, reduceIte] <;> first | rfl | (congr 1; omega) | omega), Nat.zero_le _⟩
    clear qn qd q0 q3 q4
    rintro i a' ⟨⟨yn, yd, y5, y8, y15⟩, ym, hi⟩ ih
    rcases Nat.lt_or_ge i gs.length with hlt | hge
    ·obtain ⟨w1, w2, f3, l3⟩ := Sl.str FA7.2.2.2 hlt
     obtain ⟨w1', w2', f3', l3'⟩ := Sl.str (i := i) FB7.2.2.2 (by simpa using hlt)
     rw [List.getElem_map, show q9 = [95, 113, 57] from rfl] at l3'
     rw [List.length_map] at f3'
     have hcat : gs[i].length + q9.length ≤ 4611686018427387904 := Nat.le_trans (Nat.add_le_add_right (hgb _ (List.getElem_mem hlt)) _) (by decide)
     generalize gs[i] = s at l3 l3' hcat
     cases f3; cases f3'
     (repeat (first | (apply G.h; constructor <;> (first | exact Zc | apply gI | ((repeat' (first | exact Y0 | apply Y1 | ((first | apply Y4 | apply Y5); simp only [evs, Nat.reduceEqDiff, reduceIte, yn, yd, y5, y8, y15, ym] <;> rfl))); done) | (apply Y6; (try simp only [evs, yn, yd, y5, y8, y15, ym]); first | exact r37.load1 rfl rfl rfl | exact r57.load1 rfl rfl rfl | exact l3 | exact l3')))))
     refine ih (i + 1) _ ⟨(by refine ⟨?_, ?_, ?_, ?_, ?_⟩ <;> (simp only [evs, Nat.reduceEqDiff, reduceIte, yn, yd, y5, y8, y15] <;> first | rfl | (congr 1; omega) | omega)), by (simp only [evs, Nat.reduceEqDiff, reduceIte, ym] <;> first | rfl | (congr 1; omega) | omega), hlt⟩ (by omega)
    ·obtain rfl : i = gs.length := by omega
     (repeat (first | (apply G.h; constructor <;> (first | exact Zc | apply gI | ((repeat' (first | exact Y0 | apply Y1 | ((first | apply Y4 | apply Y5); simp only [evs, Nat.reduceEqDiff, reduceIte, yn, yd, y5, y8, y15, ym] <;> rfl))); done) | (apply Y6; (try simp only [evs, yn, yd, y5, y8, y15, ym]); first | exact r37.load1 rfl rfl rfl)))))
     (apply g_stR <;> (first | exact Zc | apply gI | ((repeat' (first | exact Y0 | apply Y1 | exact Y2 | apply Y3 | ((first | apply Y4 | apply Y5); simp only [evs, Nat.reduceEqDiff, reduceIte, yn, yd, y5, y8, y15, ym] <;> rfl))); done) | (apply Hy.mk; (try simp only [evs, yn, yd, y5, y8, y15, ym]); first | exact r37 | assumption) | (apply Om.mk; first | exact r37) | (apply Y6; (try simp only [evs, yn, yd, y5, y8, y15, ym]); first | rfl) | apply Cn.mk))
     intro m8 r8 o8 n8; simp only [evs, yn, yd, y5, y8, y15, ym] at r8 o8 n8
     have r58 := r57.keep (m' := m8) (by rw [n8]; exact Nat.le_refl _) (o8 _ hm24)
     (repeat (first | (apply G.h; constructor <;> (first | exact Zc | apply gI | ((repeat' (first | exact Y0 | apply Y1 | ((first | apply Y4 | apply Y5); simp only [evs, Nat.reduceEqDiff, reduceIte, yn, yd, y5, y8, y15] <;> rfl))); done) | (apply Y6; (try simp only [evs, yn, yd, y5, y8, y15]); first | rfl)))))
     (apply g_stR <;> (first | exact Zc | apply gI | ((repeat' (first | exact Y0 | apply Y1 | exact Y2 | apply Y3 | ((first | apply Y4 | apply Y5); simp only [evs, Nat.reduceEqDiff, reduceIte, yn, yd, y5, y8, y15] <;> rfl))); done) | (apply Hy.mk; (try simp only [evs, yn, yd, y5, y8, y15]); first | exact r58 | assumption) | (apply Om.mk; first | exact r58) | (apply Y6; (try simp only [evs, yn, yd, y5, y8, y15]); first | rfl) | apply Cn.mk))
     intro m9 r9 o9 n9; simp only [evs, yn, yd, y5, y8, y15] at r9 o9 n9
     replace r8 : Row m8 m2.next [.slice sb1 fs'.length sc1, .slice sb2 us'.length sc2, nilS] 31 0 := r8
     replace r9 : Row m9 m4.next [.slice sb1' fs'.length sc1', .slice sb2' us'.length sc2', nilS] 31 0 := r9
     have r89 := r8.keep (m' := m9) (by rw [n9]; exact Nat.le_refl _) (o9 _ hm24.symm)
     have k8 : Keep (fun c => c < a.m.next) [31] m7 m8 := Keep.row r37 hx2 (by simp) o8 n8
     have k9 : Keep (fun c => c < a.m.next) [31] m8 m9 := Keep.row r58 hx4 (by simp) o9 n9
     have FA9 := FA7.stay (k8.trans k9)
     have FB9 := FB7.stay (k8.trans k9)
     have hS := same14 _ _ _ _ _ cvs cvs' _ m9 FA9.1 FA9.2.1 FA9.2.2.1 FB9.1 FB9.2.1 FB9.2.2.1 (by omega) (by omega) d4
     (repeat (first | (apply G.h; constructor <;> (first | exact Zc | apply gI | ((repeat' (first | exact Y0 | apply Y1 | ((first | apply Y4 | apply Y5); simp only [evs, Nat.reduceEqDiff, reduceIte, yn, yd, y5, y8, y15] <;> rfl))); done) | (apply Y6; (try simp only [evs, yn, yd, y5, y8, y15]); first | exact r89.loadA rfl rfl rfl (Nat.le_refl 3) rfl | exact r9.loadA rfl rfl rfl (Nat.le_refl 3) rfl)))))
     ((first | apply g_run | apply g_run0) <;> (first | ((repeat' (first | exact Y0 | apply Y1 | exact Y2 | apply Y3 | ((first | apply Y4 | apply Y5); simp only [evs, Nat.reduceEqDiff, reduceIte, yn, yd, y5, y8, y15] <;> rfl))); done) | exact Rn.mk ((by simp only [evs]; exact hS)) | apply Cn.mk))
     rintro v m10 rfl
     (repeat (first | (apply G.h; constructor <;> (first | exact Zc | apply gI | ((repeat' (first | exact Y0 | apply Y1 | ((first | apply Y4 | apply Y5); simp only [evs, Nat.reduceEqDiff, reduceIte, yn, yd, y5, y8, y15] <;> rfl))); done) | (apply Y6; (try simp only [evs, yn, yd, y5, y8, y15]); first | rfl)))))
     ((first | apply g_run | apply g_run0) <;> (first | ((repeat' (first | exact Y0 | apply Y1 | exact Y2 | apply Y3 | ((first | apply Y4 | apply Y5); simp only [evs, Nat.reduceEqDiff, reduceIte, yn, yd, y5, y8, y15] <;> rfl))); done) | exact Rn.mk (live10 _) | apply Cn.mk))
     rintro v m11 ⟨rfl, rfl⟩
     (repeat (first | (apply G.h; constructor <;> (first | exact Zc | apply gI | ((repeat' (first | exact Y0 | apply Y1 | ((first | apply Y4 | apply Y5); simp only [evs, Nat.reduceEqDiff, reduceIte, yn, yd, y5, y8, y15] <;> rfl))); done) | (apply Y6; (try simp only [evs, yn, yd, y5, y8, y15]); first | rfl)))))
     (refine g_fin (by repeat' first | exact Rs.nil | apply Rs.cons | (apply Y4; simp only [evs, Nat.reduceEqDiff, reduceIte, yn, yd, y5, y8, y15] <;> rfl)) (by (simp only [evs, Nat.reduceEqDiff, reduceIte, yn, yd, y5, y8, y15] <;> first | rfl | (congr 1; omega) | omega)) ?_)
     rfl
   ·(repeat (first | (apply G.h; constructor <;> (first | exact Zc | apply gI | ((repeat' (first | exact Y0 | apply Y1 | ((first | apply Y4 | apply Y5); simp only [evs, Nat.reduceEqDiff, reduceIte, qn, qd, q0, q3, q4] <;> rfl))); done) | (apply Y6; (try simp only [evs, qn, qd, q0, q3, q4]); first | rfl)))))
    ((first | apply g_run | apply g_run0) <;> (first | ((repeat' (first | exact Y0 | apply Y1 | exact Y2 | apply Y3 | ((first | apply Y4 | apply Y5); simp only [evs, Nat.reduceEqDiff, reduceIte, qn, qd, q0, q3, q4] <;> rfl))); done) | exact Rn.mk (live10 _) | apply Cn.mk))
    rintro v m8 ⟨rfl, rfl⟩
    (repeat (first | (apply G.h; constructor <;> (first | exact Zc | apply gI | ((repeat' (first | exact Y0 | apply Y1 | ((first | apply Y4 | apply Y5); simp only [evs, Nat.reduceEqDiff, reduceIte, qn, qd, q0, q3, q4] <;> rfl))); done) | (apply Y6; (try simp only [evs, qn, qd, q0, q3, q4]); first | rfl)))))
    (refine g_fin (by repeat' first | exact Rs.nil | apply Rs.cons | (apply Y4; simp only [evs, Nat.reduceEqDiff, reduceIte, qn, qd, q0, q3, q4] <;> rfl)) (by (simp only [evs, Nat.reduceEqDiff, reduceIte, qn, qd, q0, q3, q4] <;> first | rfl | (congr 1; omega) | omega)) ?_)
    rfl
  ·(repeat (first | (apply G.h; constructor <;> (first | exact Zc | apply gI | ((repeat' (first | exact Y0 | apply Y1 | ((first | apply Y4 | apply Y5); simp only [evs, Nat.reduceEqDiff, reduceIte, qn, qd, q0, q3, q4] <;> rfl))); done) | (apply Y6; (try simp only [evs, qn, qd, q0, q3, q4]); first | rfl)))))
   ((first | apply g_run | apply g_run0) <;> (first | ((repeat' (first | exact Y0 | apply Y1 | exact Y2 | apply Y3 | ((first | apply Y4 | apply Y5); simp only [evs, Nat.reduceEqDiff, reduceIte, qn, qd, q0, q3, q4] <;> rfl))); done) | exact Rn.mk (live10 _) | apply Cn.mk))
   rintro v m8 ⟨rfl, rfl⟩
   (repeat (first | (apply G.h; constructor <;> (first | exact Zc | apply gI | ((repeat' (first | exact Y0 | apply Y1 | ((first | apply Y4 | apply Y5); simp only [evs, Nat.reduceEqDiff, reduceIte, qn, qd, q0, q3, q4] <;> rfl))); done) | (apply Y6; (try simp only [evs, qn, qd, q0, q3, q4]); first | rfl)))))
   (refine g_fin (by repeat' first | exact Rs.nil | apply Rs.cons | (apply Y4; simp only [evs, Nat.reduceEqDiff, reduceIte, qn, qd, q0, q3, q4] <;> rfl)) (by (simp only [evs, Nat.reduceEqDiff, reduceIte, qn, qd, q0, q3, q4] <;> first | rfl | (congr 1; omega) | omega)) ?_)
   rfl
end Go.Proofs.YtihokakelnfdgaaDoor
