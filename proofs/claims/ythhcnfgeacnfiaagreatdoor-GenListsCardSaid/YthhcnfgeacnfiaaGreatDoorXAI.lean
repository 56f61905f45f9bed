/- Part of a verified evaluator of the model's programs and of runs by it: NC ND JM. -/
import Derived.Test.YthhcnfgeacnfiaaGreatDoorXAH
import Derived.Test.YthhcnfgeacnfiaaGreatDoorXAG
namespace Go.Proofs.YthhcnfgeacnfiaaGreatDoor
open Go Go.Ev
set_option maxRecDepth 100000
set_option linter.unusedVariables false
set_option linter.unusedSimpArgs false
set_option pp.maxSteps 1500
theorem listK_head {n : Nat} : (listK n)[3]? = some ⟨5, [91], 0, 8⟩ := rfl
/-- the token at which an entry, or the end, is looked for. -/
def headI (j : Nat) : Nat := if j = 0 then 4 else 3 + 2 * j
attribute [local irreducible] quiet allocs effect wp ret wpO Runs Act.tmp Act.eval fin results Tree.set binOp loadAt storeAt target wanted cellsFrom

set_option maxHeartbeats 4000000 in
/-- the entries. -/
theorem several97 {m : Mem} {rb tb tc o n : Nat} (hn0 : 0 < n) (hn : n ≤ 500) (ho : o ≤ 50) (hR : Rd m rb tb tc (listK n) 3 o) :
  Runs evEnv 118 [ptr rb, .agg ⟨[I 0, I 0, encS [], I 0, I 8]⟩, encS [91], encS [93]] m (Gives m rb tb tc (listK n) (4 + 2 * n) o (⟨20, n, [], 0, 8⟩ :: zeros 0 n)) := by
 have hk : (listK n).length ≤ 100000 := by rw [listK_len hn0]; omega
 have t0 := listK_head (n := n)
 have hrb := hR.ne
 have hw91 : ¬ ([91] : List UInt8) = [123] := by decide
 have z1 := row_new m [I 0, I 0, encS [], I 0, I 8] 58 0
 refine runs_start rfl rfl rfl rfl ?_
 (repeat (first | apply wpN_cons | apply g_next | (apply G.h; constructor <;> (first | exact Zc | apply gI | ((repeat' (first | exact Y0 | apply Y1 | ((first | apply Y4 | apply Y5); simp only [evs, Nat.reduceEqDiff, reduceIte] <;> rfl))); done) | (apply Y6; (try simp only [evs]); first | rfl)))))
 (apply g_stR <;> (first | exact Zc | apply gI | ((repeat' (first | exact Y0 | apply Y1 | exact Y2 | apply Y3 | ((first | apply Y4 | apply Y5); simp only [evs, Nat.reduceEqDiff, reduceIte] <;> rfl))); done) | (apply Hy.mk; (try simp only [evs]); first | exact z1 | assumption) | (apply Om.mk; first | exact z1) | (apply Y6; (try simp only [evs]); first | rfl) | apply Cn.mk))
 intro m1 r1 o1 n1; simp only [evs] at r1 o1 n1
 replace r1 : Row m1 m.next [I 20, I 0, encS [], I 0, I 8] 58 0 := r1
 have g1 : Grow m m1 := ((Grow.refl m).new _).wrote (Nat.le_refl _) o1 n1
 have h1 := hR.grow g1
 (repeat (first | apply wpN_cons | apply g_next | (apply G.h; constructor <;> (first | exact Zc | apply gI | ((repeat' (first | exact Y0 | apply Y1 | ((first | apply Y4 | apply Y5); simp only [evs, Nat.reduceEqDiff, reduceIte] <;> rfl))); done) | (apply Y6; (try simp only [evs]); first | rfl)))))
 ((first | apply g_run | apply g_run0) <;> (first | ((repeat' (first | exact Y0 | apply Y1 | exact Y2 | apply Y3 | ((first | apply Y4 | apply Y5); simp only [evs, Nat.reduceEqDiff, reduceIte] <;> rfl))); done) | exact Rn.mk ((by simp only [evs]; exact enter68 h1 t0 hk (by omega) [91] rfl)) | apply Cn.mk))
 rintro v m2 ⟨k2, h2⟩
 try simp only [evs] at k2
 have r2 := r1.stay k2 (.inr (by decide))
 (repeat (first | apply wpN_cons | apply g_next | (apply G.h; constructor <;> (first | exact Zc | apply gI | ((repeat' (first | exact Y0 | apply Y1 | ((first | apply Y4 | apply Y5); simp only [evs, Nat.reduceEqDiff, reduceIte] <;> rfl))); done) | (apply Y6; (try simp only [evs]); first | rfl)))))
 refine ewp_loop (ι := Nat) (fun j a => (a.n = 76 ∧ a.defers = [] ∧ a.tmp 0 = ptr rb ∧ a.tmp 2 = encS [91] ∧ a.tmp 3 = encS [93] ∧ a.tmp 5 = ptr m.next ∧ a.tmp 10 = I j) ∧ j ≤ n ∧ KL m.next rb m a.m ∧ m.next < a.m.next ∧ Rd a.m rb tb tc (listK n) (headI j) (o + 1) ∧ Row a.m m.next [I 20, I 0, encS [], I 0, I 8] 58 0 ∧ ∃ lv, a.tmp 9 = lv ∧ Sl (fun c => c < m.next + 1) a.m lv 58 5 (nflat (zeros 0 j))) (fun j => n - j) 0 ?_ ?_
 ·refine ⟨(by refine ⟨?_, ?_, ?_, ?_, ?_, ?_, ?_⟩ <;> (simp only [evs, Nat.reduceEqDiff, reduceIte] <;> first | rfl | (congr 1; omega) | omega)), Nat.zero_le _, by simp only [evs]; exact (Keep.grow g1).trans k2.kl, by simp only [evs]; exact r2.1, by simp only [evs]; exact h2, by simp only [evs]; exact r2, .slice none 0 0, by (simp only [evs, Nat.reduceEqDiff, reduceIte] <;> first | rfl | (congr 1; omega) | omega), .inl ⟨rfl, rfl⟩⟩
 clear k2 h2 r2 r1 g1 h1 o1 n1 z1
 rintro j a ⟨⟨qn, qd, q0, q2, q3, q5, q10⟩, hj, qk, qx, hr, rr, lv, q9, sl⟩ ih
 have hw := hr.row
 rcases Nat.lt_or_ge j n with hlt | hge
 ·have dI := listK_int hlt
  obtain ⟨c, p, hc, hend⟩ : ∃ c p, EndC c ∧ (listK n)[4 + 2 * j + 1]? = some ⟨5, [c], 0, p⟩ := by
   rcases Nat.lt_or_ge (j + 1) n with h | h
   ·exact ⟨44, _, .inl rfl, by rw [show 4 + 2 * j + 1 = 5 + 2 * j by omega]; exact listK_comma h⟩
   ·exact ⟨93, _, .inr (.inr rfl), by rw [show 4 + 2 * j + 1 = 3 + 2 * n by omega]; exact listK_close hn0⟩
  have hX : ∀ m', KL m.next rb m m' → m.next < m'.next → ∀ c, c < m.next + 1 → c < m'.next := fun m' _ h c hc => by omega
  have hll : (nflat (zeros 0 j)).length = j * 5 := by rw [nflat_len, zeros_len]
  rcases Nat.eq_zero_or_pos j with hj0 | hjp
  case' inl =>
   have hr0 : Rd a.m rb tb tc (listK n) (4 + 2 * j) (o + 1) := by rw [hj0] at hr ⊢; exact hr
   (repeat (first | apply wpN_cons | apply g_next | (apply G.h; constructor <;> (first | exact Zc | apply gI | ((repeat' (first | exact Y0 | apply Y1 | ((first | apply Y4 | apply Y5); simp only [evs, Nat.reduceEqDiff, reduceIte, qn, qd, q0, q2, q3, q5, q10] <;> rfl))); done) | (apply Y6; (try simp only [evs, qn, qd, q0, q2, q3, q5, q10]); first | exact hw.load1 rfl rfl rfl)))))
   ((first | apply g_run | apply g_run0) <;> (first | ((repeat' (first | exact Y0 | apply Y1 | exact Y2 | apply Y3 | ((first | apply Y4 | apply Y5); simp only [evs, Nat.reduceEqDiff, reduceIte, qn, qd, q0, q2, q3, q5, q10] <;> rfl))); done) | exact Rn.mk ((by simp only [evs, qn, qd, q0, q2, q3, q5, q10]; exact is44 hr0 dI [93])) | apply Cn.mk))
   rintro v m3 ⟨rfl, g3⟩
   try simp only [evs] at g3
   have h4 := hr0.grow g3
   have k34 : KR rb a.m m3 := Keep.grow g3
   rw [show isT ⟨3, [], 0, 9 + 3 * j⟩ [93] = false from rfl]
   (repeat (first | apply wpN_cons | apply g_next | (apply G.h; constructor <;> (first | exact Zc | apply gI | ((repeat' (first | exact Y0 | apply Y1 | ((first | apply Y4 | apply Y5); simp only [evs, Nat.reduceEqDiff, reduceIte, qn, qd, q0, q2, q3, q5, q10] <;> rfl))); done) | (apply Y6; (try simp only [evs, qn, qd, q0, q2, q3, q5, q10]); first | rfl)))))
  case' inr =>
   have hhd : headI j = 5 + 2 * (j - 1) := by unfold headI; rw [if_neg (by omega)]; omega
   have dC := listK_comma (n := n) (j := j - 1) (by omega)
   rw [hhd] at hr
   (repeat (first | apply wpN_cons | apply g_next | (apply G.h; constructor <;> (first | exact Zc | apply gI | ((repeat' (first | exact Y0 | apply Y1 | ((first | apply Y4 | apply Y5); simp only [evs, Nat.reduceEqDiff, reduceIte, qn, qd, q0, q2, q3, q5, q10] <;> rfl))); done) | (apply Y6; (try simp only [evs, qn, qd, q0, q2, q3, q5, q10]); first | exact hw.load1 rfl rfl rfl)))))
   ((first | apply g_run | apply g_run0) <;> (first | ((repeat' (first | exact Y0 | apply Y1 | exact Y2 | apply Y3 | ((first | apply Y4 | apply Y5); simp only [evs, Nat.reduceEqDiff, reduceIte, qn, qd, q0, q2, q3, q5, q10] <;> rfl))); done) | exact Rn.mk ((by simp only [evs, qn, qd, q0, q2, q3, q5, q10]; exact is44 hr dC [93])) | apply Cn.mk))
   rintro v m2 ⟨rfl, g2⟩
   try simp only [evs] at g2
   have h2 := hr.grow g2
   rw [show isT ⟨5, [44], 0, 10 + 3 * (j - 1)⟩ [93] = false from rfl]
   (repeat (first | apply wpN_cons | apply g_next | (apply G.h; constructor <;> (first | exact Zc | apply gI | ((repeat' (first | exact Y0 | apply Y1 | ((first | apply Y4 | apply Y5); simp only [evs, Nat.reduceEqDiff, reduceIte, qn, qd, q0, q2, q3, q5, q10] <;> rfl))); done) | (apply Y6; (try simp only [evs, qn, qd, q0, q2, q3, q5, q10]); first | rfl)))))
   ((first | apply g_run | apply g_run0) <;> (first | ((repeat' (first | exact Y0 | apply Y1 | exact Y2 | apply Y3 | ((first | apply Y4 | apply Y5); simp only [evs, Nat.reduceEqDiff, reduceIte, qn, qd, q0, q2, q3, q5, q10] <;> rfl))); done) | exact Rn.mk ((by simp only [evs, qn, qd, q0, q2, q3, q5, q10]; exact want50 h2 dC hk [44] rfl)) | apply Cn.mk))
   rintro v m3 ⟨k3, h3⟩
   try simp only [evs] at k3
   have h4 : Rd m3 rb tb tc (listK n) (4 + 2 * j) (o + 1) := by
    rw [show 4 + 2 * j = 5 + 2 * (j - 1) + 1 by omega]; exact h3
   have k34 : KR rb a.m m3 := (Keep.grow g2).trans k3
   (repeat (first | apply wpN_cons | apply g_next | (apply G.h; constructor <;> (first | exact Zc | apply gI | ((repeat' (first | exact Y0 | apply Y1 | ((first | apply Y4 | apply Y5); simp only [evs, Nat.reduceEqDiff, reduceIte, qn, qd, q0, q2, q3, q5, q10] <;> rfl))); done) | (apply Y6; (try simp only [evs, qn, qd, q0, q2, q3, q5, q10]); first | rfl)))))
  all_goals
   ((first | apply g_run | apply g_run0) <;> (first | ((repeat' (first | exact Y0 | apply Y1 | exact Y2 | apply Y3 | ((first | apply Y4 | apply Y5); simp only [evs, Nat.reduceEqDiff, reduceIte, qn, qd, q0, q2, q3, q5, q10] <;> rfl))); done) | exact Rn.mk ((by simp only [evs, qn, qd, q0, q2, q3, q5, q10]; exact exprInt h4 dI hk rfl hc hend)) | apply Cn.mk))
   rintro sv m5 ⟨k5, h5, s5⟩
   try simp only [evs] at k5 s5
   have sl4 := (sl.any k34 (by decide)).over k5 h4.row (by decide)
   have rr4 := (rr.stay k34 (.inr (by decide))).over k5 h4.row (by decide)
   have hin := s5.cells (by decide) (n := 1) rfl
   have hn5 : a.m.next ≤ m5.next := Nat.le_trans k34.1 k5.1
   have hX5 : ∀ c, c < m.next + 1 → c < m5.next := fun c hc => by omega
   apply g_app (X := fun c => c < m.next + 1) (l0 := nflat (zeros 0 j)) (new := nflat [⟨14, 0, [], 0, (9 + 3 * j : Nat)⟩]) (kk := 1)
   focus exact Rf.mk
   focus exact Rf.mk
   focus exact Rf.mk
   focus exact Rf.mk
   focus exact Rf.mk
   focus exact Rf.mk
   focus (apply Ev.mk; (simp only [evs, Nat.reduceEqDiff, reduceIte, qn, qd, q0, q2, q3, q5, q10, q9] <;> rfl))
   focus (apply Ev.mk; (simp only [evs, Nat.reduceEqDiff, reduceIte, qn, qd, q0, q2, q3, q5, q10] <;> rfl))
   focus (apply Dn.mk; (simp only [evs, Nat.reduceEqDiff, reduceIte, qn, qd, q0, q2, q3, q5, q10] <;> rfl))
   focus exact Hy.mk (by simp only [evs]; exact hin)
   focus exact Hy.mk (by simp only [evs]; exact sl4)
   focus exact Hy.mk (by simp only [evs]; exact hX5)
   focus exact Rf.mk
   focus exact Rf.mk
   focus exact Rf.mk
   focus exact Rf.mk
   focus exact Om.mk (by rw [hll]; omega)
   focus exact Rf.mk
   focus exact Rf.mk
   refine Cn.mk ?_
   intro lv' m6 s6 k6 o6 b6 f6
   simp only [evs] at s6 k6
   (repeat (first | apply wpN_cons | apply g_next | (apply G.h; constructor <;> (first | exact Zc | apply gI | ((repeat' (first | exact Y0 | apply Y1 | ((first | apply Y4 | apply Y5); simp only [evs, Nat.reduceEqDiff, reduceIte, qn, qd, q0, q2, q3, q5, q10] <;> rfl))); done) | (apply Y6; (try simp only [evs, qn, qd, q0, q2, q3, q5, q10]); first | rfl)))))
   have k6' : KL m.next rb m5 m6 := (Keep.sub k6 fun c hc => Nat.lt_succ_of_lt hc.1).mono (by simp)
   have h6 : Rd m6 rb tb tc (listK n) (4 + 2 * j + 1) (o + 1) := ⟨h5.row.stay k6 (.inr (by decide)), h5.tk.any k6 (by decide)⟩
   have hhd' : headI (j + 1) = 4 + 2 * j + 1 := by unfold headI; rw [if_neg (by omega)]; omega
   have k34n := k34.1
   refine ih (j + 1) _ ⟨(by refine ⟨?_, ?_, ?_, ?_, ?_, ?_, ?_⟩ <;> (simp only [evs, Nat.reduceEqDiff, reduceIte, qn, qd, q0, q2, q3, q5, q10] <;> first | rfl | (congr 1; omega) | omega)), hlt, ?_, ?_, ?_, ?_, lv', by (simp only [evs, Nat.reduceEqDiff, reduceIte, qn, qd, q0, q2, q3, q5, q10] <;> first | rfl | (congr 1; omega) | omega), ?_⟩ (by omega)
   ·simp only [evs]
    exact qk.trans (k34.kl.trans ((k5.up (by omega)).trans k6'))
   ·simp only [evs]; have := k6.1; omega
   ·simp only [evs]; rw [hhd']; exact h6
   ·simp only [evs]; exact rr4.stay k6 (.inl (Nat.lt_succ_self _))
   ·simp only [evs]; rw [zeros_snoc, nflat_app, Nat.zero_add]; exact s6
 ·obtain rfl : j = n := by omega
  have hlv : (zeros 0 j).length = j := zeros_len j 0
  have hhd : headI j = 3 + 2 * j := by unfold headI; rw [if_neg (by omega)]
  rw [hhd] at hr
  have te := listK_close hn0
  (repeat (first | apply wpN_cons | apply g_next | (apply G.h; constructor <;> (first | exact Zc | apply gI | ((repeat' (first | exact Y0 | apply Y1 | ((first | apply Y4 | apply Y5); simp only [evs, Nat.reduceEqDiff, reduceIte, qn, qd, q0, q2, q3, q5, q10] <;> rfl))); done) | (apply Y6; (try simp only [evs, qn, qd, q0, q2, q3, q5, q10]); first | exact hw.load1 rfl rfl rfl)))))
  ((first | apply g_run | apply g_run0) <;> (first | ((repeat' (first | exact Y0 | apply Y1 | exact Y2 | apply Y3 | ((first | apply Y4 | apply Y5); simp only [evs, Nat.reduceEqDiff, reduceIte, qn, qd, q0, q2, q3, q5, q10] <;> rfl))); done) | exact Rn.mk ((by simp only [evs, qn, qd, q0, q2, q3, q5, q10]; exact is44 hr te [93])) | apply Cn.mk))
  rintro v m3 ⟨rfl, g3⟩
  try simp only [evs] at g3
  have h3 := hr.grow g3
  rw [show isT ⟨5, [93], 0, 7 + 3 * j⟩ [93] = true from rfl]
  (repeat (first | apply wpN_cons | apply g_next | (apply G.h; constructor <;> (first | exact Zc | apply gI | ((repeat' (first | exact Y0 | apply Y1 | ((first | apply Y4 | apply Y5); simp only [evs, Nat.reduceEqDiff, reduceIte, qn, qd, q0, q2, q3, q5, q10] <;> rfl))); done) | (apply Y6; (try simp only [evs, qn, qd, q0, q2, q3, q5, q10]); first | rfl)))))
  ((first | apply g_run | apply g_run0) <;> (first | ((repeat' (first | exact Y0 | apply Y1 | exact Y2 | apply Y3 | ((first | apply Y4 | apply Y5); simp only [evs, Nat.reduceEqDiff, reduceIte, qn, qd, q0, q2, q3, q5, q10] <;> rfl))); done) | exact Rn.mk ((by simp only [evs, qn, qd, q0, q2, q3, q5, q10]; exact want50 h3 te hk [93] rfl)) | apply Cn.mk))
  rintro v m4 ⟨k4, h4⟩
  try simp only [evs] at k4
  have h4w := h4.row
  (repeat (first | apply wpN_cons | apply g_next | (apply G.h; constructor <;> (first | exact Zc | apply gI | ((repeat' (first | exact Y0 | apply Y1 | ((first | apply Y4 | apply Y5); simp only [evs, Nat.reduceEqDiff, reduceIte, qn, qd, q0, q2, q3, q5, q10] <;> rfl))); done) | (apply Y6; (try simp only [evs, qn, qd, q0, q2, q3, q5, q10]); first | exact h4w.load1 rfl rfl rfl)))))
  (apply g_stR <;> (first | exact Zc | apply gI | ((repeat' (first | exact Y0 | apply Y1 | exact Y2 | apply Y3 | ((first | apply Y4 | apply Y5); simp only [evs, Nat.reduceEqDiff, reduceIte, qn, qd, q0, q2, q3, q5, q10] <;> rfl))); done) | (apply Hy.mk; (try simp only [evs, qn, qd, q0, q2, q3, q5, q10]); first | exact h4w | assumption) | (apply Om.mk; first | exact h4w) | (apply Y6; (try simp only [evs, qn, qd, q0, q2, q3, q5, q10]); first | rfl) | apply Cn.mk))
  intro m5 r5 o5 n5; simp only [evs, qn, qd, q0, q2, q3, q5, q10] at r5 o5 n5
  have k35 : KR rb m3 m5 := k4.trans (Keep.row h4w (fun hh => hh rfl) (by decide) o5 n5)
  obtain ⟨h5, -⟩ := h4.next (i' := 4 + 2 * j) (o' := o) (by rw [show 4 + 2 * j = 3 + 2 * j + 1 by omega]; exact r5) o5 n5
  have rr5 := (rr.grow g3).stay k35 (.inr (by decide))
  have sl5 := (sl.grow g3).any k35 (by decide)
  (repeat (first | apply wpN_cons | apply g_next | (apply G.h; constructor <;> (first | exact Zc | apply gI | ((repeat' (first | exact Y0 | apply Y1 | ((first | apply Y4 | apply Y5); simp only [evs, Nat.reduceEqDiff, reduceIte, qn, qd, q0, q2, q3, q5, q10, q9] <;> rfl))); done) | (apply Y6; (try simp only [evs, qn, qd, q0, q2, q3, q5, q10, q9]); first | exact rr5.loadA (k := 5) rfl rfl rfl (Nat.le_refl 5) rfl)))))
  ((first | apply g_run | apply g_run0) <;> (first | ((repeat' (first | exact Y0 | apply Y1 | exact Y2 | apply Y3 | ((first | apply Y4 | apply Y5); simp only [evs, Nat.reduceEqDiff, reduceIte, qn, qd, q0, q2, q3, q5, q10] <;> rfl))); done) | exact Rn.mk ((by simp only [evs, qn, qd, q0, q2, q3, q5, q10]; exact join26 ⟨20, 0, [], 0, 8⟩ j (zeros 0 j) (by omega) (by omega) sl5)) | apply Cn.mk))
  rintro v3 m6 ⟨k6, s6⟩
  try simp only [evs] at k6 s6
  (repeat (first | apply wpN_cons | apply g_next | (apply G.h; constructor <;> (first | exact Zc | apply gI | ((repeat' (first | exact Y0 | apply Y1 | ((first | apply Y4 | apply Y5); simp only [evs, Nat.reduceEqDiff, reduceIte, qn, qd, q0, q2, q3, q5, q10] <;> rfl))); done) | (apply Y6; (try simp only [evs, qn, qd, q0, q2, q3, q5, q10]); first | rfl)))))
  (refine g_fin (by repeat' first | exact Rs.nil | apply Rs.cons | (apply Y4; simp only [evs, Nat.reduceEqDiff, reduceIte, qn, qd, q0, q2, q3, q5, q10] <;> rfl)) (by (simp only [evs, Nat.reduceEqDiff, reduceIte, qn, qd, q0, q2, q3, q5, q10] <;> first | rfl | (congr 1; omega) | omega)) ?_)
  have n3' := g3.1
  have n35' := k35.1
  refine ⟨?_, ?_, ?_⟩
  ·simp only [evs]
   exact qk.trans ((Keep.grow g3).trans (k35.kl.trans k6.all))
  ·simp only [evs]
   exact ⟨h5.row.stay (k6.all (X' := fun _ => True) (T' := [])) (.inl trivial), h5.tk.any (k6.all (X' := fun _ => True) (T' := [])) (by decide)⟩
  ·simp only [evs]
   exact s6.sub fun b _ hn hb => hn (by omega)

set_option maxHeartbeats 4000000 in
theorem about96 {m : Mem} {rb tb tc o n : Nat} (hn0 : 0 < n) (hn : n ≤ 500) (ho : o ≤ 50) (hR : Rd m rb tb tc (listK n) 3 o) :
  Runs evEnv 114 [ptr rb, .agg ⟨[I 0, I 0, encS [], I 0, I 8]⟩] m (Gives m rb tb tc (listK n) (4 + 2 * n) o (⟨20, n, [], 0, 8⟩ :: zeros 0 n)) := by
 have t0 := listK_head (n := n)
 have hrb := hR.ne
 have z1 := row_new m [I 0, I 0, encS [], I 0, I 8] 58 0
 have g1 : Grow m (m.new (rowObj [I 0, I 0, encS [], I 0, I 8] 58 0)) := (Grow.refl m).new _
 have h1 := hR.grow g1
 refine runs_start rfl rfl rfl rfl ?_
 (repeat (first | apply wpN_cons | apply g_next | (apply G.h; constructor <;> (first | exact Zc | apply gI | ((repeat' (first | exact Y0 | apply Y1 | ((first | apply Y4 | apply Y5); simp only [evs, Nat.reduceEqDiff, reduceIte] <;> rfl))); done) | (apply Y6; (try simp only [evs]); first | rfl)))))
 ((first | apply g_run | apply g_run0) <;> (first | ((repeat' (first | exact Y0 | apply Y1 | exact Y2 | apply Y3 | ((first | apply Y4 | apply Y5); simp only [evs, Nat.reduceEqDiff, reduceIte] <;> rfl))); done) | exact Rn.mk ((by simp only [evs]; exact eatF h1 t0 [116, 114, 117, 101] rfl)) | apply Cn.mk))
 rintro v m2 ⟨rfl, g2⟩
 try simp only [evs] at g2
 have h2 := h1.grow g2
 (repeat (first | apply wpN_cons | apply g_next | (apply G.h; constructor <;> (first | exact Zc | apply gI | ((repeat' (first | exact Y0 | apply Y1 | ((first | apply Y4 | apply Y5); simp only [evs, Nat.reduceEqDiff, reduceIte] <;> rfl))); done) | (apply Y6; (try simp only [evs]); first | rfl)))))
 ((first | apply g_run | apply g_run0) <;> (first | ((repeat' (first | exact Y0 | apply Y1 | exact Y2 | apply Y3 | ((first | apply Y4 | apply Y5); simp only [evs, Nat.reduceEqDiff, reduceIte] <;> rfl))); done) | exact Rn.mk ((by simp only [evs]; exact eatF h2 t0 [102, 97, 108, 115, 101] rfl)) | apply Cn.mk))
 rintro v m3 ⟨rfl, g3⟩
 try simp only [evs] at g3
 have h3 := h2.grow g3
 (repeat (first | apply wpN_cons | apply g_next | (apply G.h; constructor <;> (first | exact Zc | apply gI | ((repeat' (first | exact Y0 | apply Y1 | ((first | apply Y4 | apply Y5); simp only [evs, Nat.reduceEqDiff, reduceIte] <;> rfl))); done) | (apply Y6; (try simp only [evs]); first | rfl)))))
 ((first | apply g_run | apply g_run0) <;> (first | ((repeat' (first | exact Y0 | apply Y1 | exact Y2 | apply Y3 | ((first | apply Y4 | apply Y5); simp only [evs, Nat.reduceEqDiff, reduceIte] <;> rfl))); done) | exact Rn.mk ((by simp only [evs]; exact eatF h3 t0 [110, 105, 108] rfl)) | apply Cn.mk))
 rintro v m4 ⟨rfl, g4⟩
 try simp only [evs] at g4
 have h4 := h3.grow g4
 (repeat (first | apply wpN_cons | apply g_next | (apply G.h; constructor <;> (first | exact Zc | apply gI | ((repeat' (first | exact Y0 | apply Y1 | ((first | apply Y4 | apply Y5); simp only [evs, Nat.reduceEqDiff, reduceIte] <;> rfl))); done) | (apply Y6; (try simp only [evs]); first | rfl)))))
 ((first | apply g_run | apply g_run0) <;> (first | ((repeat' (first | exact Y0 | apply Y1 | exact Y2 | apply Y3 | ((first | apply Y4 | apply Y5); simp only [evs, Nat.reduceEqDiff, reduceIte] <;> rfl))); done) | exact Rn.mk ((by simp only [evs]; exact eatF h4 t0 [102, 110] rfl)) | apply Cn.mk))
 rintro v m5 ⟨rfl, g5⟩
 try simp only [evs] at g5
 have h5 := h4.grow g5
 (repeat (first | apply wpN_cons | apply g_next | (apply G.h; constructor <;> (first | exact Zc | apply gI | ((repeat' (first | exact Y0 | apply Y1 | ((first | apply Y4 | apply Y5); simp only [evs, Nat.reduceEqDiff, reduceIte] <;> rfl))); done) | (apply Y6; (try simp only [evs]); first | rfl)))))
 ((first | apply g_run | apply g_run0) <;> (first | ((repeat' (first | exact Y0 | apply Y1 | exact Y2 | apply Y3 | ((first | apply Y4 | apply Y5); simp only [evs, Nat.reduceEqDiff, reduceIte] <;> rfl))); done) | exact Rn.mk ((by simp only [evs]; exact is44 h5 t0 [40])) | apply Cn.mk))
 rintro v m6 ⟨rfl, g6⟩
 try simp only [evs] at g6
 have h6 := h5.grow g6
 rw [show isT ⟨5, [91], 0, 8⟩ [40] = false from rfl]
 (repeat (first | apply wpN_cons | apply g_next | (apply G.h; constructor <;> (first | exact Zc | apply gI | ((repeat' (first | exact Y0 | apply Y1 | ((first | apply Y4 | apply Y5); simp only [evs, Nat.reduceEqDiff, reduceIte] <;> rfl))); done) | (apply Y6; (try simp only [evs]); first | rfl)))))
 ((first | apply g_run | apply g_run0) <;> (first | ((repeat' (first | exact Y0 | apply Y1 | exact Y2 | apply Y3 | ((first | apply Y4 | apply Y5); simp only [evs, Nat.reduceEqDiff, reduceIte] <;> rfl))); done) | exact Rn.mk ((by simp only [evs]; exact is44 h6 t0 [91])) | apply Cn.mk))
 rintro v m7 ⟨rfl, g7⟩
 try simp only [evs] at g7
 have h7 := h6.grow g7
 rw [show isT ⟨5, [91], 0, 8⟩ [91] = true from rfl]
 have g27 := g2.trans (g3.trans (g4.trans (g5.trans (g6.trans g7))))
 have z7 := z1.grow g27
 (repeat (first | apply wpN_cons | apply g_next | (apply G.h; constructor <;> (first | exact Zc | apply gI | ((repeat' (first | exact Y0 | apply Y1 | ((first | apply Y4 | apply Y5); simp only [evs, Nat.reduceEqDiff, reduceIte] <;> rfl))); done) | (apply Y6; (try simp only [evs]); first | exact z7.loadA (k := 5) rfl rfl rfl (Nat.le_refl 5) rfl)))))
 ((first | apply g_run | apply g_run0) <;> (first | ((repeat' (first | exact Y0 | apply Y1 | exact Y2 | apply Y3 | ((first | apply Y4 | apply Y5); simp only [evs, Nat.reduceEqDiff, reduceIte] <;> rfl))); done) | exact Rn.mk ((by simp only [evs]; exact several97 hn0 hn ho h7)) | apply Cn.mk))
 rintro sv m8 h8
 try simp only [evs] at h8
 (repeat (first | apply wpN_cons | apply g_next | (apply G.h; constructor <;> (first | exact Zc | apply gI | ((repeat' (first | exact Y0 | apply Y1 | ((first | apply Y4 | apply Y5); simp only [evs, Nat.reduceEqDiff, reduceIte] <;> rfl))); done) | (apply Y6; (try simp only [evs]); first | rfl)))))
 (refine g_fin (by repeat' first | exact Rs.nil | apply Rs.cons | (apply Y4; simp only [evs, Nat.reduceEqDiff, reduceIte] <;> rfl)) (by (simp only [evs, Nat.reduceEqDiff, reduceIte] <;> first | rfl | (congr 1; omega) | omega)) ?_)
 simp only [evs]
 exact h8.from (g1.trans g27)

set_option maxHeartbeats 4000000 in
theorem list85 {m : Mem} {rb tb tc o n : Nat} (hn0 : 0 < n) (hn : n ≤ 500) (ho : o ≤ 50) (hR : Rd m rb tb tc (listK n) 3 o) : Runs evEnv 99 [ptr rb] m (Gives m rb tb tc (listK n) (4 + 2 * n) o (⟨20, n, [], 0, 8⟩ :: zeros 0 n)) := by
 have t0 := listK_head (n := n)
 have hi := (List.getElem?_eq_some_iff.1 t0).1
 have hrb := hR.ne
 have z := row_new m [I 0, encS [], I 0, I 0] 87 0
 have g1 : Grow m (m.new (rowObj [I 0, encS [], I 0, I 0] 87 0)) := (Grow.refl m).new _
 have h1' := hR.grow g1
 have hl := h1'.agg t0
 have h1w := h1'.row
 refine runs_start rfl rfl rfl rfl ?_
 (repeat (first | apply wpN_cons | apply g_next | (apply G.h; constructor <;> (first | exact Zc | apply gI | ((repeat' (first | exact Y0 | apply Y1 | ((first | apply Y4 | apply Y5); simp only [evs, Nat.reduceEqDiff, reduceIte] <;> rfl))); done) | (apply Y6; (try simp only [evs]); first | rfl)))))
 (apply g_regionN [10, 0, 1, 2, 3, 4, 5, 6, 7, 8, 9, 11] []; (focus exact Kr.mk (by kernel_rfl)); (focus exact Rf.mk))
 (repeat (first | apply wpN_cons | apply g_next | (apply G.h; constructor <;> (first | exact Zc | apply gI | ((repeat' (first | exact Y0 | apply Y1 | ((first | apply Y4 | apply Y5); simp only [evs, Nat.reduceEqDiff, reduceIte] <;> rfl))); done) | (apply Y6; (try simp only [evs]); first | exact h1w.load1 rfl rfl rfl | exact hl)))))
 (apply g_stR <;> (first | exact Zc | apply gI | ((repeat' (first | exact Y0 | apply Y1 | exact Y2 | apply Y3 | ((first | apply Y4 | apply Y5); simp only [evs, Nat.reduceEqDiff, reduceIte] <;> rfl))); done) | (apply Hy.mk; (try simp only [evs]); first | exact z | assumption) | (apply Om.mk; first | exact z) | (apply Y6; (try simp only [evs]); first | rfl) | apply Cn.mk))
 intro m3 r3 o3 n3; simp only [evs] at r3 o3 n3
 replace r3 : Row m3 m.next [I 5, encS [91], I 0, I 8] 87 0 := r3
 have g3 : Grow m m3 := g1.wrote (Nat.le_refl _) o3 n3
 (repeat (first | apply wpN_cons | apply g_next | (apply G.h; constructor <;> (first | exact Zc | apply gI | ((repeat' (first | exact Y0 | apply Y1 | ((first | apply Y4 | apply Y5); simp only [evs, Nat.reduceEqDiff, reduceIte] <;> rfl))); done) | (apply Y6; (try simp only [evs]); first | rfl)))))
 refine g_last (.mk ?_) ?_
 focus exact trivial
 have r3n := r3.keep_new (rowObj [I 0, I 0, encS [], I 0, I 0] 58 0)
 have z4 := row_new m3 [I 0, I 0, encS [], I 0, I 0] 58 0
 (repeat (first | apply wpN_cons | apply g_next | (apply G.h; constructor <;> (first | exact Zc | apply gI | ((repeat' (first | exact Y0 | apply Y1 | ((first | apply Y4 | apply Y5); simp only [evs, Nat.reduceEqDiff, reduceIte] <;> rfl))); done) | (apply Y6; (try simp only [evs]); first | exact r3n.load1 rfl rfl rfl | exact r3.load1 rfl rfl rfl)))))
 (apply g_stR <;> (first | exact Zc | apply gI | ((repeat' (first | exact Y0 | apply Y1 | exact Y2 | apply Y3 | ((first | apply Y4 | apply Y5); simp only [evs, Nat.reduceEqDiff, reduceIte] <;> rfl))); done) | (apply Hy.mk; (try simp only [evs]); first | exact z4 | assumption) | (apply Om.mk; first | exact z4) | (apply Y6; (try simp only [evs]); first | rfl) | apply Cn.mk))
 intro m4 r4 o4 n4; simp only [evs] at r4 o4 n4
 replace r4 : Row m4 m3.next [I 0, I 0, encS [], I 0, I 8] 58 0 := r4
 have g4 : Grow m m4 := (g3.new _).wrote g3.1 o4 n4
 have gg4 : Grow m3 m4 := ((Grow.refl m3).new _).wrote (Nat.le_refl _) o4 n4
 have r34 := r3.grow gg4
 (repeat (first | apply wpN_cons | apply g_next | (apply G.h; constructor <;> (first | exact Zc | apply gI | ((repeat' (first | exact Y0 | apply Y1 | ((first | apply Y4 | apply Y5); simp only [evs, Nat.reduceEqDiff, reduceIte] <;> rfl))); done) | (apply Y6; (try simp only [evs]); first | exact r34.load1 rfl rfl rfl | exact r4.loadA (k := 5) rfl rfl rfl (Nat.le_refl 5) rfl)))))
 ((first | apply g_run | apply g_run0) <;> (first | ((repeat' (first | exact Y0 | apply Y1 | exact Y2 | apply Y3 | ((first | apply Y4 | apply Y5); simp only [evs, Nat.reduceEqDiff, reduceIte] <;> rfl))); done) | exact Rn.mk ((by simp only [evs]; exact about96 hn0 hn ho (hR.grow g4))) | apply Cn.mk))
 rintro sv m5 h5
 try simp only [evs] at h5
 (repeat (first | apply wpN_cons | apply g_next | (apply G.h; constructor <;> (first | exact Zc | apply gI | ((repeat' (first | exact Y0 | apply Y1 | ((first | apply Y4 | apply Y5); simp only [evs, Nat.reduceEqDiff, reduceIte] <;> rfl))); done) | (apply Y6; (try simp only [evs]); first | rfl)))))
 (refine g_fin (by repeat' first | exact Rs.nil | apply Rs.cons | (apply Y4; simp only [evs, Nat.reduceEqDiff, reduceIte] <;> rfl)) (by (simp only [evs, Nat.reduceEqDiff, reduceIte] <;> first | rfl | (congr 1; omega) | omega)) ?_)
 simp only [evs]
 exact h5.from g4
theorem exprList {m : Mem} {rb tb tc o n : Nat} (hn0 : 0 < n) (hn : n ≤ 500) (ho : o ≤ 50) (hR : Rd m rb tb tc (listK n) 3 o) : Runs evEnv 58 [ptr rb, I 0] m (Gives m rb tb tc (listK n) (4 + 2 * n) o (⟨20, n, [], 0, 8⟩ :: zeros 0 n)) :=
 expr51g hR listK_head rfl rfl (.inr (.inl rfl)) (listK_semi hn0) fun m hm => thing71g hm (list85 hn0 hn ho hm) (by simp) (.inr (.inl rfl)) (listK_semi hn0)
end Go.Proofs.YthhcnfgeacnfiaaGreatDoor

namespace Go.Proofs.YthhcnfgeacnfiaaGreatDoor
open Go Go.Ev
set_option maxRecDepth 100000
set_option linter.unusedVariables false
set_option linter.unusedSimpArgs false
set_option pp.maxSteps 1500

attribute [local irreducible] quiet allocs effect wp ret wpO Runs Act.tmp Act.eval fin results Tree.set binOp loadAt storeAt target wanted cellsFrom

set_option maxHeartbeats 4000000 in
/-- the declaration. -/
theorem stat25l {m : Mem} {rb tb tc o n : Nat} (hn0 : 0 < n) (hn : n ≤ 500) (ho : o ≤ 50) (hR : Rd m rb tb tc (listK n) 0 o) :
  Runs evEnv 26 [ptr rb] m (Gives m rb tb tc (listK n) (5 + 2 * n) o (⟨3, 1, [120], 0, 0⟩ :: ⟨20, n, [], 0, 8⟩ :: zeros 0 n)) := by
 have hkl := listK_len hn0
 have hk : (listK n).length ≤ 100000 := by omega
 have t0 : (listK n)[0]? = some ⟨2, [118, 97, 114], 0, 0⟩ := rfl
 have t1 : (listK n)[1]? = some ⟨1, [120], 0, 4⟩ := rfl
 have t2 : (listK n)[2]? = some ⟨5, [61], 0, 6⟩ := rfl
 have t4 := listK_semi hn0
 have hrb := hR.ne
 have z1 := row_new m [I 0, I 0, encS [], I 0, I 0] 58 0
 refine runs_start rfl rfl rfl rfl ?_
 (repeat (first | (apply G.h; constructor <;> (first | exact Zc | apply gI | ((repeat' (first | exact Y0 | apply Y1 | ((first | apply Y4 | apply Y5); simp only [evs, Nat.reduceEqDiff, reduceIte] <;> rfl))); done) | (apply Y6; (try simp only [evs]); first | rfl)))))
 ((first | apply g_run | apply g_run0) <;> (first | ((repeat' (first | exact Y0 | apply Y1 | exact Y2 | apply Y3 | ((first | apply Y4 | apply Y5); simp only [evs, Nat.reduceEqDiff, reduceIte] <;> rfl))); done) | exact Rn.mk ((by simp only [evs]; exact at43 hR t0)) | apply Cn.mk))
 rintro v m0 ⟨rfl, e0⟩
 try simp only [evs] at e0
 replace e0 := e0.symm
 subst e0
 (repeat (first | (apply G.h; constructor <;> (first | exact Zc | apply gI | ((repeat' (first | exact Y0 | apply Y1 | ((first | apply Y4 | apply Y5); simp only [evs, Nat.reduceEqDiff, reduceIte] <;> rfl))); done) | (apply Y6; (try simp only [evs]); first | rfl)))))
 (apply g_stR <;> (first | exact Zc | apply gI | ((repeat' (first | exact Y0 | apply Y1 | exact Y2 | apply Y3 | ((first | apply Y4 | apply Y5); simp only [evs, Nat.reduceEqDiff, reduceIte] <;> rfl))); done) | (apply Hy.mk; (try simp only [evs]); first | exact z1 | assumption) | (apply Om.mk; first | exact z1) | (apply Y6; (try simp only [evs]); first | rfl) | apply Cn.mk))
 intro m1 r1 o1 n1; simp only [evs] at r1 o1 n1
 replace r1 : Row m1 m.next [I 0, I 0, encS [], I 0, I 0] 58 0 := r1
 have g1 : Grow m m1 := ((Grow.refl m).new _).wrote (Nat.le_refl _) o1 n1
 have h1 := hR.grow g1
 (repeat (first | (apply G.h; constructor <;> (first | exact Zc | apply gI | ((repeat' (first | exact Y0 | apply Y1 | ((first | apply Y4 | apply Y5); simp only [evs, Nat.reduceEqDiff, reduceIte] <;> rfl))); done) | (apply Y6; (try simp only [evs]); first | rfl)))))
 ((first | apply g_run | apply g_run0) <;> (first | ((repeat' (first | exact Y0 | apply Y1 | exact Y2 | apply Y3 | ((first | apply Y4 | apply Y5); simp only [evs, Nat.reduceEqDiff, reduceIte] <;> rfl))); done) | exact Rn.mk ((by simp only [evs]; exact is44 h1 t0 [123])) | apply Cn.mk))
 rintro v m2 ⟨rfl, g2⟩
 try simp only [evs] at g2
 have h2 := h1.grow g2
 rw [show isT ⟨2, [118, 97, 114], 0, 0⟩ [123] = false from rfl]
 (repeat (first | (apply G.h; constructor <;> (first | exact Zc | apply gI | ((repeat' (first | exact Y0 | apply Y1 | ((first | apply Y4 | apply Y5); simp only [evs, Nat.reduceEqDiff, reduceIte] <;> rfl))); done) | (apply Y6; (try simp only [evs]); first | rfl)))))
 ((first | apply g_run | apply g_run0) <;> (first | ((repeat' (first | exact Y0 | apply Y1 | exact Y2 | apply Y3 | ((first | apply Y4 | apply Y5); simp only [evs, Nat.reduceEqDiff, reduceIte] <;> rfl))); done) | exact Rn.mk ((by simp only [evs]; exact is44 h2 t0 [105, 102])) | apply Cn.mk))
 rintro v m3 ⟨rfl, g3⟩
 try simp only [evs] at g3
 have h3 := h2.grow g3
 rw [show isT ⟨2, [118, 97, 114], 0, 0⟩ [105, 102] = false from rfl]
 (repeat (first | (apply G.h; constructor <;> (first | exact Zc | apply gI | ((repeat' (first | exact Y0 | apply Y1 | ((first | apply Y4 | apply Y5); simp only [evs, Nat.reduceEqDiff, reduceIte] <;> rfl))); done) | (apply Y6; (try simp only [evs]); first | rfl)))))
 ((first | apply g_run | apply g_run0) <;> (first | ((repeat' (first | exact Y0 | apply Y1 | exact Y2 | apply Y3 | ((first | apply Y4 | apply Y5); simp only [evs, Nat.reduceEqDiff, reduceIte] <;> rfl))); done) | exact Rn.mk ((by simp only [evs]; exact is44 h3 t0 [102, 110])) | apply Cn.mk))
 rintro v m4 ⟨rfl, g4⟩
 try simp only [evs] at g4
 have h4 := h3.grow g4
 rw [show isT ⟨2, [118, 97, 114], 0, 0⟩ [102, 110] = false from rfl]
 (repeat (first | (apply G.h; constructor <;> (first | exact Zc | apply gI | ((repeat' (first | exact Y0 | apply Y1 | ((first | apply Y4 | apply Y5); simp only [evs, Nat.reduceEqDiff, reduceIte] <;> rfl))); done) | (apply Y6; (try simp only [evs]); first | rfl)))))
 ((first | apply g_run | apply g_run0) <;> (first | ((repeat' (first | exact Y0 | apply Y1 | exact Y2 | apply Y3 | ((first | apply Y4 | apply Y5); simp only [evs, Nat.reduceEqDiff, reduceIte] <;> rfl))); done) | exact Rn.mk ((by simp only [evs]; exact eatT h4 t0 hk [118, 97, 114] rfl)) | apply Cn.mk))
 rintro v m5 ⟨rfl, k5, h5⟩
 try simp only [evs] at k5
 (repeat (first | (apply G.h; constructor <;> (first | exact Zc | apply gI | ((repeat' (first | exact Y0 | apply Y1 | ((first | apply Y4 | apply Y5); simp only [evs, Nat.reduceEqDiff, reduceIte] <;> rfl))); done) | (apply Y6; (try simp only [evs]); first | rfl)))))
 ((first | apply g_run | apply g_run0) <;> (first | ((repeat' (first | exact Y0 | apply Y1 | exact Y2 | apply Y3 | ((first | apply Y4 | apply Y5); simp only [evs, Nat.reduceEqDiff, reduceIte] <;> rfl))); done) | exact Rn.mk ((by simp only [evs]; exact name47 h5 t1 hk rfl)) | apply Cn.mk))
 rintro v m6 ⟨rfl, k6, h6⟩
 try simp only [evs] at k6
 have g14 : Grow m1 m4 := g2.trans (g3.trans g4)
 have k16 : KR rb m1 m6 := (Keep.grow g14).trans (k5.trans k6)
 have r6 := r1.stay k16 (.inr (by decide))
 (repeat (first | (apply G.h; constructor <;> (first | exact Zc | apply gI | ((repeat' (first | exact Y0 | apply Y1 | ((first | apply Y4 | apply Y5); simp only [evs, Nat.reduceEqDiff, reduceIte] <;> rfl))); done) | (apply Y6; (try simp only [evs]); first | rfl)))))
 (apply g_stR <;> (first | exact Zc | apply gI | ((repeat' (first | exact Y0 | apply Y1 | exact Y2 | apply Y3 | ((first | apply Y4 | apply Y5); simp only [evs, Nat.reduceEqDiff, reduceIte] <;> rfl))); done) | (apply Hy.mk; (try simp only [evs]); first | exact r6 | assumption) | (apply Om.mk; first | exact r6) | (apply Y6; (try simp only [evs]); first | rfl) | apply Cn.mk))
 intro m7 r7 o7 n7; simp only [evs] at r7 o7 n7
 replace r7 : Row m7 m.next [I 3, I 0, encS [], I 0, I 0] 58 0 := r7
 (repeat (first | (apply G.h; constructor <;> (first | exact Zc | apply gI | ((repeat' (first | exact Y0 | apply Y1 | ((first | apply Y4 | apply Y5); simp only [evs, Nat.reduceEqDiff, reduceIte] <;> rfl))); done) | (apply Y6; (try simp only [evs]); first | rfl)))))
 (apply g_stR <;> (first | exact Zc | apply gI | ((repeat' (first | exact Y0 | apply Y1 | exact Y2 | apply Y3 | ((first | apply Y4 | apply Y5); simp only [evs, Nat.reduceEqDiff, reduceIte] <;> rfl))); done) | (apply Hy.mk; (try simp only [evs]); first | exact r7 | assumption) | (apply Om.mk; first | exact r7) | (apply Y6; (try simp only [evs]); first | rfl) | apply Cn.mk))
 intro m8 r8 o8 n8; simp only [evs] at r8 o8 n8
 replace r8 : Row m8 m.next [I 3, I 0, encS [120], I 0, I 0] 58 0 := r8
 have k78 : KL m.next rb m6 m8 := (Keep.row r6 (fun hh => Nat.lt_irrefl _ hh.1) (by decide) o7 n7).trans (Keep.row r7 (fun hh => Nat.lt_irrefl _ hh.1) (by decide) o8 n8)
 have k8 : KL m.next rb m m8 := (Keep.grow g1).trans (k16.kl.trans k78)
 have h8 : Rd m8 rb tb tc (listK n) 2 o := by
  have w := h6.row
  have w7 : Row m7 rb _ 85 0 := w.keep (Nat.le_of_eq n7.symm) (o7 _ (by omega))
  exact ⟨w7.keep (Nat.le_of_eq n8.symm) (o8 _ (by omega)), h6.tk.any k78 (by decide)⟩
 (repeat (first | (apply G.h; constructor <;> (first | exact Zc | apply gI | ((repeat' (first | exact Y0 | apply Y1 | ((first | apply Y4 | apply Y5); simp only [evs, Nat.reduceEqDiff, reduceIte] <;> rfl))); done) | (apply Y6; (try simp only [evs]); first | rfl)))))
 ((first | apply g_run | apply g_run0) <;> (first | ((repeat' (first | exact Y0 | apply Y1 | exact Y2 | apply Y3 | ((first | apply Y4 | apply Y5); simp only [evs, Nat.reduceEqDiff, reduceIte] <;> rfl))); done) | exact Rn.mk ((by simp only [evs]; exact want50 h8 t2 hk [61] rfl)) | apply Cn.mk))
 rintro v m9 ⟨k9, h9⟩
 try simp only [evs] at k9
 have r9 := r8.stay k9 (.inr (by decide))
 (repeat (first | (apply G.h; constructor <;> (first | exact Zc | apply gI | ((repeat' (first | exact Y0 | apply Y1 | ((first | apply Y4 | apply Y5); simp only [evs, Nat.reduceEqDiff, reduceIte] <;> rfl))); done) | (apply Y6; (try simp only [evs]); first | rfl)))))
 ((first | apply g_run | apply g_run0) <;> (first | ((repeat' (first | exact Y0 | apply Y1 | exact Y2 | apply Y3 | ((first | apply Y4 | apply Y5); simp only [evs, Nat.reduceEqDiff, reduceIte] <;> rfl))); done) | exact Rn.mk ((by simp only [evs]; exact exprList hn0 hn ho h9)) | apply Cn.mk))
 rintro v m10 ⟨k10, h10, s10⟩
 try simp only [evs] at k10 s10
 have r10 := r9.over k10 h9.row (by decide)
 (repeat (first | (apply G.h; constructor <;> (first | exact Zc | apply gI | ((repeat' (first | exact Y0 | apply Y1 | ((first | apply Y4 | apply Y5); simp only [evs, Nat.reduceEqDiff, reduceIte] <;> rfl))); done) | (apply Y6; (try simp only [evs]); first | rfl)))))
 ((first | apply g_run | apply g_run0) <;> (first | ((repeat' (first | exact Y0 | apply Y1 | exact Y2 | apply Y3 | ((first | apply Y4 | apply Y5); simp only [evs, Nat.reduceEqDiff, reduceIte] <;> rfl))); done) | exact Rn.mk ((by simp only [evs]; exact want50 h10 t4 hk [59] rfl)) | apply Cn.mk))
 rintro v2 m11 ⟨k11, h11⟩
 try simp only [evs] at k11
 have r11 := r10.stay k11 (.inr (by decide))
 have s11 := s10.any k11 (by decide)
 (repeat (first | (apply G.h; constructor <;> (first | exact Zc | apply gI | ((repeat' (first | exact Y0 | apply Y1 | ((first | apply Y4 | apply Y5); simp only [evs, Nat.reduceEqDiff, reduceIte] <;> rfl))); done) | (apply Y6; (try simp only [evs]); first | exact r11.loadA (k := 5) rfl rfl rfl (Nat.le_refl 5) rfl)))))
 ((first | apply g_run | apply g_run0) <;> (first | ((repeat' (first | exact Y0 | apply Y1 | exact Y2 | apply Y3 | ((first | apply Y4 | apply Y5); simp only [evs, Nat.reduceEqDiff, reduceIte] <;> rfl))); done) | exact Rn.mk ((by simp only [evs]; exact join26 ⟨3, 0, [120], 0, 0⟩ 1 (⟨20, n, [], 0, 8⟩ :: zeros 0 n) (by simp) (by rw [List.length_cons, zeros_len]; omega) s11)) | apply Cn.mk))
 rintro v3 m12 ⟨k12, s12⟩
 try simp only [evs] at k12 s12
 (repeat (first | (apply G.h; constructor <;> (first | exact Zc | apply gI | ((repeat' (first | exact Y0 | apply Y1 | ((first | apply Y4 | apply Y5); simp only [evs, Nat.reduceEqDiff, reduceIte] <;> rfl))); done) | (apply Y6; (try simp only [evs]); first | rfl)))))
 (refine g_fin (by repeat' first | exact Rs.nil | apply Rs.cons | (apply Y4; simp only [evs, Nat.reduceEqDiff, reduceIte] <;> rfl)) (by (simp only [evs, Nat.reduceEqDiff, reduceIte] <;> first | rfl | (congr 1; omega) | omega)) ?_)
 have n8' := k8.1
 have n9' := k9.1
 have n10' := k10.1
 have n11' := k11.1
 have k8b : KL m.next rb m m11 := k8.trans (k9.kl.trans ((k10.up (Nat.le_trans n8' n9')).trans k11.kl))
 refine ⟨by simp only [evs]; exact k8b.trans k12.all, ?_, ?_⟩
 ·simp only [evs]
  rw [show 5 + 2 * n = 4 + 2 * n + 1 by omega]
  exact ⟨h11.row.stay (k12.all (X' := fun _ => True) (T' := [])) (.inl trivial), h11.tk.any (k12.all (X' := fun _ => True) (T' := [])) (by decide)⟩
 ·simp only [evs]
  exact s12.sub fun b _ hn hb => hn (Nat.lt_of_lt_of_le hb (by omega))

set_option maxHeartbeats 4000000 in
/-- the text's program. -/
theorem parse11l {m : Mem} {b off cap n : Nat} (hn0 : 0 < n) (hn : n ≤ 500) (hcap : (listT n).length ≤ cap) (hB : Bts m b off (listT n)) :
  Runs evEnv 13 [.slice (some ⟨b, off, none⟩) (listT n).length cap] m fun v m' => Keep (fun c => c < m.next) [58] m m' ∧ ∃ lv, v = .tuple ⟨[lv, I 0, I (listT n).length]⟩ ∧ Sl (fun c => c < m.next) m' lv 58 5 (nflat (listN n)) := by
 have hsl := listT_len hn0
 have hkl := listK_len hn0
 have hk : (listK n).length ≤ 100000 := by omega
 have t0 : (listK n)[0]? = some ⟨2, [118, 97, 114], 0, 0⟩ := rfl
 have tz := listK_eof hn0
 refine runs_start rfl rfl rfl rfl ?_
 (repeat (first | (apply G.h; constructor <;> (first | exact Zc | apply gI | ((repeat' (first | exact Y0 | apply Y1 | ((first | apply Y4 | apply Y5); simp only [evs, Nat.reduceEqDiff, reduceIte] <;> rfl))); done) | (apply Y6; (try simp only [evs]); first | rfl)))))
 ((first | apply g_run | apply g_run0) <;> (first | ((repeat' (first | exact Y0 | apply Y1 | exact Y2 | apply Y3 | ((first | apply Y4 | apply Y5); simp only [evs, Nat.reduceEqDiff, reduceIte] <;> rfl))); done) | exact Rn.mk ((by simp only [evs]; exact lex24 b off cap (listT n) (by omega) hcap (listK n) (lex_list hn0) _ hB)) | apply Cn.mk))
 rintro v m1 ⟨k1, ov, rfl, s1⟩
 try simp only [evs] at k1 s1
 obtain ⟨tb, tcap, tr, tn, rfl, y2, y3, y4, y5, y6, -⟩ := s1.at (i := 0) (by rw [encT_len]; omega)
 have hN : tn = (listK n).length := by
  have := congrArg List.length y6
  rw [List.length_take, encT_len] at this
  omega
 subst hN
 have r2 := row_new m1 [.slice (some ⟨tb, 0, none⟩) (listK n).length tcap, I 0, I 0, I 0, I 0] 85 0
 have g2 : Grow m1 (m1.new (rowObj [.slice (some ⟨tb, 0, none⟩) (listK n).length tcap, I 0, I 0, I 0, I 0] 85 0)) := (Grow.refl _).new _
 have h2 : Rd (m1.new (rowObj [.slice (some ⟨tb, 0, none⟩) (listK n).length tcap, I 0, I 0, I 0, I 0] 85 0)) m1.next tb tcap (listK n) 0 0 := ⟨r2, (s1.sub fun _ _ _ hb => hb).grow g2⟩
 have hmn : m.next ≤ m1.next := k1.1
 have k12 : Keep (fun c => c < m.next) [58] m (m1.new (rowObj [.slice (some ⟨tb, 0, none⟩) (listK n).length tcap, I 0, I 0, I 0, I 0] 85 0)) := k1.all.trans (Keep.grow g2)
 (repeat (first | (apply G.h; constructor <;> (first | exact Zc | apply gI | ((repeat' (first | exact Y0 | apply Y1 | ((first | apply Y4 | apply Y5); simp only [evs, Nat.reduceEqDiff, reduceIte] <;> rfl))); done) | (apply Y6; (try simp only [evs]); first | rfl)))))
 refine ewp_loop (ι := Bool) (fun s a => (a.n = 68 ∧ a.defers = [] ∧ a.tmp 0 = .slice (some ⟨b, off, none⟩) (listT n).length cap ∧ a.tmp 8 = ptr m1.next ∧ a.tmp 10 = I (if s then 0 else 1 : Nat)) ∧ Keep (fun c => c < m.next) [58, 85] m a.m ∧ m.next ≤ a.m.next ∧ (if s then a.m = (m1.new (rowObj [.slice (some ⟨tb, 0, none⟩) (listK n).length tcap, I 0, I 0, I 0, I 0] 85 0)) ∧ a.tmp 9 = .slice none 0 0 else Rd a.m m1.next tb tcap (listK n) (5 + 2 * n) 0 ∧ ∃ lv, a.tmp 9 = lv ∧ Sl (fun c => c < m.next) a.m lv 58 5 (nflat (⟨3, 1, [120], 0, 0⟩ :: ⟨20, n, [], 0, 8⟩ :: zeros 0 n)))) (fun s => if s then 1 else 0) true ?_ ?_
 ·refine ⟨(by refine ⟨?_, ?_, ?_, ?_, ?_⟩ <;> (simp only [evs, Nat.reduceEqDiff, reduceIte] <;> first | rfl | (congr 1; omega) | omega)), by simp only [evs]; exact k12.mono (by simp), by simp only [evs]; exact Nat.le_trans hmn (Nat.le_succ _), ?_⟩
  rw [if_pos rfl]
  exact (by refine ⟨?_, ?_⟩ <;> (simp only [evs, Nat.reduceEqDiff, reduceIte] <;> first | rfl | (congr 1; omega) | omega))
 rintro s a ⟨⟨wn, wd, w0, w8, w10⟩, wk, wx, hs⟩ ih
 cases s with
 | true =>
  rw [if_pos rfl] at hs w10
  obtain ⟨wm, w9⟩ := hs
  have h2w := h2.row
  have hk0 := h2.kind t0
  (repeat (first | (apply G.h; constructor <;> (first | exact Zc | apply gI | ((repeat' (first | exact Y0 | apply Y1 | ((first | apply Y4 | apply Y5); simp only [evs, Nat.reduceEqDiff, reduceIte, wn, wd, w0, w8, w10, wm, w9] <;> rfl))); done) | (apply Y6; (try simp only [evs, wn, wd, w0, w8, w10, wm, w9]); first | exact h2w.load1 rfl rfl rfl | exact hk0)))))
  ((first | apply g_run | apply g_run0) <;> (first | ((repeat' (first | exact Y0 | apply Y1 | exact Y2 | apply Y3 | ((first | apply Y4 | apply Y5); simp only [evs, Nat.reduceEqDiff, reduceIte, wn, wd, w0, w8, w10, wm] <;> rfl))); done) | exact Rn.mk ((by simp only [evs, wn, wd, w0, w8, w10, wm]; exact stat25l hn0 hn (by decide) h2)) | apply Cn.mk))
  rintro sv m3 ⟨k3, h3, s3⟩
  try simp only [evs] at k3 s3
  generalize hL : (⟨3, 1, [120], 0, 0⟩ :: ⟨20, n, [], 0, 8⟩ :: zeros 0 n : List Nd) = L at s3 ih
  have hLl : L.length = 2 + n := by rw [← hL, List.length_cons, List.length_cons, zeros_len]; omega
  have hfl := nflat_len L
  have hf1 := nflat_one L
  have hblt : Nat.blt 0 L.length = true := by rw [Nat.blt_eq]; omega
  have hin := s3.cells (by decide) (n := L.length) hfl
  have hX : ∀ c, c < m.next → c < m3.next := fun c hc => by have := k3.1; have := k12.1; omega
  have s0 : Sl (fun c => c < m.next) m3 (.slice none 0 0) 58 5 [] := .inl ⟨rfl, rfl⟩
  (repeat (first | (apply G.h; constructor <;> (first | exact Zc | apply gI | ((repeat' (first | exact Y0 | apply Y1 | ((first | apply Y4 | apply Y5); simp only [evs, Nat.reduceEqDiff, reduceIte, wn, wd, w0, w8, w10, w9] <;> rfl))); done) | (apply Y6; (try simp only [evs, wn, wd, w0, w8, w10, w9]); first | rfl)))))
  apply g_app (X := fun c => c < m.next) (l0 := []) (new := nflat L) (kk := L.length)
  focus exact Rf.mk
  focus exact Rf.mk
  focus exact Rf.mk
  focus exact Rf.mk
  focus exact Rf.mk
  focus exact Rf.mk
  focus (apply Ev.mk; (simp only [evs, Nat.reduceEqDiff, reduceIte, wn, wd, w0, w8, w10, w9] <;> rfl))
  focus (apply Ev.mk; (simp only [evs, Nat.reduceEqDiff, reduceIte, wn, wd, w0, w8, w10, w9] <;> rfl))
  focus (apply Dn.mk; (simp only [evs, Nat.reduceEqDiff, reduceIte, wn, wd, w0, w8, w10, w9] <;> rfl))
  focus exact Hy.mk (by simp only [evs]; exact hin)
  focus exact Hy.mk (by simp only [evs]; exact s0)
  focus exact Hy.mk (by simp only [evs]; exact hX)
  focus exact Rf.mk
  focus (rw [hblt]; exact Rf.mk)
  focus (rw [hfl]; exact Rf.mk)
  focus (rw [hf1]; exact Rf.mk)
  focus exact Om.mk (by show 0 + _ ≤ _; omega)
  focus exact Rf.mk
  focus exact Rf.mk
  refine Cn.mk ?_
  intro lv' m4 s4 k4 o4 b4 f4
  simp only [evs, List.nil_append] at s4 k4
  (repeat (first | (apply G.h; constructor <;> (first | exact Zc | apply gI | ((repeat' (first | exact Y0 | apply Y1 | ((first | apply Y4 | apply Y5); simp only [evs, Nat.reduceEqDiff, reduceIte, wn, wd, w0, w8, w10] <;> rfl))); done) | (apply Y6; (try simp only [evs, wn, wd, w0, w8, w10]); first | rfl)))))
  have hm12 : m1.next < ((m1.new (rowObj [.slice (some ⟨tb, 0, none⟩) (listK n).length tcap, I 0, I 0, I 0, I 0] 85 0))).next := r2.1
  have k24 : Keep (fun c => c < m.next) [58, 85] (m1.new (rowObj [.slice (some ⟨tb, 0, none⟩) (listK n).length tcap, I 0, I 0, I 0, I 0] 85 0)) m4 := ((k3.mono (by simp)).sub fun c hc => ⟨Nat.lt_of_lt_of_le hc k12.1, by omega⟩).trans (k4.mono (by simp))
  have h4 : Rd m4 m1.next tb tcap (listK n) (5 + 2 * n) 0 := ⟨h3.row.stay k4 (.inr (by decide)), h3.tk.any k4 (by decide)⟩
  refine ih false _ ⟨(by refine ⟨?_, ?_, ?_, ?_, ?_⟩ <;> (simp only [evs, Nat.reduceEqDiff, reduceIte, wn, wd, w0, w8, w10] <;> first | rfl | (congr 1; omega) | omega)), by simp only [evs]; exact (k12.mono (by simp)).trans k24, by simp only [evs]; exact Nat.le_trans k12.1 k24.1, ?_⟩ (by decide)
  rw [if_neg (by decide)]
  exact ⟨by simp only [evs]; exact h4, lv', by (simp only [evs, Nat.reduceEqDiff, reduceIte, wn, wd, w0, w8, w10] <;> first | rfl | (congr 1; omega) | omega), by simp only [evs]; exact s4⟩
 | false =>
  clear ih
  rw [if_neg (by decide)] at hs w10
  obtain ⟨h3, lv, w9, s3⟩ := hs
  have h3w := h3.row
  have hkz := h3.kind tz
  generalize hL : (⟨3, 1, [120], 0, 0⟩ :: ⟨20, n, [], 0, 8⟩ :: zeros 0 n : List Nd) = L at s3
  have hLl : L.length = 2 + n := by rw [← hL, List.length_cons, List.length_cons, zeros_len]; omega
  (repeat (first | (apply G.h; constructor <;> (first | exact Zc | apply gI | ((repeat' (first | exact Y0 | apply Y1 | ((first | apply Y4 | apply Y5); simp only [evs, Nat.reduceEqDiff, reduceIte, wn, wd, w0, w8, w10, w9] <;> rfl))); done) | (apply Y6; (try simp only [evs, wn, wd, w0, w8, w10, w9]); first | exact h3w.load1 rfl rfl rfl | exact hkz)))))
  ((first | apply g_run | apply g_run0) <;> (first | ((repeat' (first | exact Y0 | apply Y1 | exact Y2 | apply Y3 | ((first | apply Y4 | apply Y5); simp only [evs, Nat.reduceEqDiff, reduceIte, wn, wd, w0, w8, w10, w9] <;> rfl))); done) | exact Rn.mk ((by simp only [evs, wn, wd, w0, w8, w10, w9]; exact join26 ⟨1, 0, [], 0, 0⟩ 1 L (by omega) (by omega) s3)) | apply Cn.mk))
  rintro v3 m6 ⟨k6, s6⟩
  try simp only [evs] at k6 s6
  (repeat (first | (apply G.h; constructor <;> (first | exact Zc | apply gI | ((repeat' (first | exact Y0 | apply Y1 | ((first | apply Y4 | apply Y5); simp only [evs, Nat.reduceEqDiff, reduceIte, wn, wd, w0, w8, w10, w9] <;> rfl))); done) | (apply Y6; (try simp only [evs, wn, wd, w0, w8, w10, w9]); first | rfl)))))
  (refine g_fin (by repeat' first | exact Rs.nil | apply Rs.cons | (apply Y4; simp only [evs, Nat.reduceEqDiff, reduceIte, wn, wd, w0, w8, w10, w9] <;> rfl)) (by (simp only [evs, Nat.reduceEqDiff, reduceIte, wn, wd, w0, w8, w10, w9] <;> first | rfl | (congr 1; omega) | omega)) ?_)
  refine ⟨?_, v3, rfl, ?_⟩
  ·simp only [evs]
   exact (wk.trans k6.all).all
  ·simp only [evs]
   have s7 : Sl (fun c => c < m.next) m6 v3 58 5 (nflat (⟨1, 1, [], 0, 0⟩ :: L)) := s6.sub fun b _ hn hb => hn (Nat.lt_of_lt_of_le hb wx)
   rw [← hL] at s7
   exact s7
end Go.Proofs.YthhcnfgeacnfiaaGreatDoor

namespace Go.Proofs.YthhcnfgeacnfiaaGreatDoor
open Go Go.Ev
set_option maxRecDepth 100000
set_option linter.unusedVariables false
set_option linter.unusedSimpArgs false
set_option pp.maxSteps 1500

/-! How the law makes these texts. -/
def c3T : List UInt8 := [44, 32, 48]
def preL : Nat → List UInt8
 | 0 => [118, 97, 114, 32, 120, 32, 61, 32, 91, 48]
 | j + 1 => preL j ++ c3T
theorem preL_len : ∀ j, (preL j).length = 10 + 3 * j
 | 0 => rfl
 | j + 1 => by rw [preL, List.length_append, preL_len j]; show 10 + 3 * j + 3 = _; omega
theorem preL_more : ∀ (k j : Nat), preL j ++ moreT k = preL (j + k) ++ [93, 59]
 | 0, j => rfl
 | k + 1, j => by
  rw [show j + (k + 1) = j + 1 + k by omega, ← preL_more k (j + 1), preL, List.append_assoc]; rfl
theorem preL_src (n : Nat) : preL (n - 1) ++ [93, 59] = listT n := by
 have := preL_more (n - 1) 0
 rw [Nat.zero_add] at this
 exact this.symm
theorem cells_bytes : ∀ (r : List UInt8), (cellsOfBytes r).length = r.length ∧ ∀ (i : Nat) (x : UInt8), r[i]? = some x → (cellsOfBytes r)[i]? = some (Value.int .u8 (x.toNat : Nat))
 | [] => ⟨rfl, fun i x h => by simp at h⟩
 | b :: l => ⟨by rw [cellsOfBytes, List.length_cons, List.length_cons, (cells_bytes l).1], fun i x h => by
  cases i with
  | zero => simp at h; subst h; rfl
  | succ i => rw [cellsOfBytes, List.getElem?_cons_succ]; exact (cells_bytes l).2 i x (by simpa using h)⟩
theorem bts_new (m : Mem) (r : List UInt8) : Bts (m.new (.cells (cellsOfBytes r).length (ofListFrom .leaf 0 (cellsOfBytes r)) 5 2)) m.next 0 r := by
 obtain ⟨h1, c, h2, h3⟩ := row_new m (cellsOfBytes r) 5 2
 refine ⟨h1, _, _, _, _, mget_new _ _, by rw [(cells_bytes r).1]; omega, fun i x hx => ?_⟩
 have hi := (List.getElem?_eq_some_iff.1 hx).1
 rw [get_ofList, if_pos ⟨Nat.zero_le _, by rw [(cells_bytes r).1]; omega⟩, show 0 + i - 0 = i by omega]
 exact (cells_bytes r).2 i x hx
/-- a function's code, as Compile answers it. -/
theorem ck_of {X : Nat → Prop} {m : Mem} {n : Nat} {cv : Value} (h : Sl X m cv 46 3 (codeL n)) : ∃ cb cc, cv = .slice (some ⟨cb, 0, none⟩) (n + 4) cc ∧ Ck m cb n := by
 have hl := codeL_len n
 obtain ⟨cb, cc, r, k, rfl, y2, y3, y4, y5, y6, -⟩ := h.at (i := 0) (by omega)
 have hk : k = n + 4 := by
  have := congrArg List.length y6
  rw [List.length_take] at this
  omega
 subst hk
 refine ⟨cb, cc, rfl, r, y3, by omega, fun i q hi hq => ?_⟩
 rw [← codeL_at hi hq, y6, List.getElem?_take_of_lt (by omega)]
theorem live6 (m : Mem) : Runs evEnv 6 [] m fun v m' => v = .bool true ∧ m' = m := ⟨1, .bool true, m, rfl, rfl, rfl⟩
attribute [local irreducible] quiet allocs effect wp ret wpO Runs Act.tmp Act.eval fin results Tree.set binOp loadAt storeAt target wanted cellsFrom
theorem num9 (e : Int) (m : Mem) : Runs evEnv 9 [I e] m fun v m' => v = I e ∧ m' = m := by
 refine runs_start rfl rfl rfl rfl ?_
 (repeat (first | (apply G.h; constructor <;> (first | exact Zc | apply gI | ((repeat' (first | exact Y0 | apply Y1 | ((first | apply Y4 | apply Y5); simp only [evs, Nat.reduceEqDiff, reduceIte] <;> rfl))); done) | (apply Y6; (try simp only [evs]); first | rfl)))))
 (refine g_fin (by repeat' first | exact Rs.nil | apply Rs.cons | (apply Y4; simp only [evs, Nat.reduceEqDiff, reduceIte] <;> rfl)) (by (simp only [evs, Nat.reduceEqDiff, reduceIte] <;> first | rfl | (congr 1; omega) | omega)) ?_)
 exact ⟨rfl, by (simp only [evs, Nat.reduceEqDiff, reduceIte] <;> first | rfl | (congr 1; omega) | omega)⟩
theorem lists5_out (i : Int) (h : i < 1 ∨ 300 < i) (m : Mem) : Runs evEnv 5 [I i] m fun v _ => v = .bool true := by
 refine runs_start rfl rfl rfl rfl ?_
 rcases h with h | h
 case' inl =>
  (repeat (first | (apply G.h; constructor <;> (first | exact Zc | apply gI | ((repeat' (first | exact Y0 | apply Y1 | ((first | apply Y4 | apply Y5); simp only [evs, Nat.reduceEqDiff, reduceIte] <;> rfl))); done) | (apply Y6; (try simp only [evs]); first | rfl)))))
 case' inr =>
  have h' : ¬ i < 1 := by omega
  (repeat (first | (apply G.h; constructor <;> (first | exact Zc | apply gI | ((repeat' (first | exact Y0 | apply Y1 | ((first | apply Y4 | apply Y5); simp only [evs, Nat.reduceEqDiff, reduceIte] <;> rfl))); done) | (apply Y6; (try simp only [evs]); first | rfl)))))
 all_goals
  ((first | apply g_run | apply g_run0) <;> (first | ((repeat' (first | exact Y0 | apply Y1 | exact Y2 | apply Y3 | ((first | apply Y4 | apply Y5); simp only [evs, Nat.reduceEqDiff, reduceIte] <;> rfl))); done) | exact Rn.mk (live6 _) | apply Cn.mk))
  rintro v m5 ⟨rfl, rfl⟩
  (repeat (first | (apply G.h; constructor <;> (first | exact Zc | apply gI | ((repeat' (first | exact Y0 | apply Y1 | ((first | apply Y4 | apply Y5); simp only [evs, Nat.reduceEqDiff, reduceIte] <;> rfl))); done) | (apply Y6; (try simp only [evs]); first | rfl)))))
  (refine g_fin (by repeat' first | exact Rs.nil | apply Rs.cons | (apply Y4; simp only [evs, Nat.reduceEqDiff, reduceIte] <;> rfl)) (by (simp only [evs, Nat.reduceEqDiff, reduceIte] <;> first | rfl | (congr 1; omega) | omega)) ?_)
  rfl
set_option maxHeartbeats 4000000 in
theorem lists5 (n : Nat) (h1 : 1 ≤ n) (h2 : n ≤ 300) (m : Mem) (hNm : Names m) (h0 : 0 < m.next) : Runs evEnv 5 [I n] m fun v _ => v = .bool true := by
 refine runs_start rfl rfl rfl rfl ?_
 (repeat (first | (apply G.h; constructor <;> (first | exact Zc | apply gI | ((repeat' (first | exact Y0 | apply Y1 | ((first | apply Y4 | apply Y5); simp only [evs, Nat.reduceEqDiff, reduceIte] <;> rfl))); done) | (apply Y6; (try simp only [evs]); first | rfl)))))
 refine ewp_loop (ι := Nat) (fun j a => (a.n = 96 ∧ a.defers = [] ∧ a.tmp 0 = I n ∧ a.tmp 3 = encS (preL j) ∧ a.tmp 4 = I (j + 1 : Nat)) ∧ j + 1 ≤ n ∧ a.m = m) (fun j => n - j) 0 ?_ ?_
 ·exact ⟨(by refine ⟨?_, ?_, ?_, ?_, ?_⟩ <;> (simp only [evs, Nat.reduceEqDiff, reduceIte] <;> first | rfl | (congr 1; omega) | omega)), h1, by (simp only [evs, Nat.reduceEqDiff, reduceIte] <;> first | rfl | (congr 1; omega) | omega)⟩
 rintro j a ⟨⟨qn, qd, q0, q3, q4⟩, hj, qm⟩ ih
 have hpl := preL_len j
 rcases Nat.lt_or_ge (j + 1) n with hlt | hge
 ·have c1 : (preL j).length + c3T.length ≤ 4611686018427387904 := by show (preL j).length + 3 ≤ _; omega
  (repeat (first | (apply G.h; constructor <;> (first | exact Zc | apply gI | ((repeat' (first | exact Y0 | apply Y1 | ((first | apply Y4 | apply Y5); simp only [evs, Nat.reduceEqDiff, reduceIte, qn, qd, q0, q3, q4, qm] <;> rfl))); done) | (apply Y6; (try simp only [evs, qn, qd, q0, q3, q4, qm]); first | rfl)))))
  exact ih (j + 1) _ ⟨(by refine ⟨?_, ?_, ?_, ?_, ?_⟩ <;> (simp only [evs, Nat.reduceEqDiff, reduceIte, qn, qd, q0, q3, q4] <;> first | rfl | (congr 1; omega) | omega)), hlt, by (simp only [evs, Nat.reduceEqDiff, reduceIte, qm] <;> first | rfl | (congr 1; omega) | omega)⟩ (by omega)
 ·obtain rfl : n = j + 1 := by omega
  clear ih
  have c4 : (preL j).length + ([93, 59] : List UInt8).length ≤ 4611686018427387904 := by show (preL j).length + 2 ≤ _; omega
  have hcl := (cells_bytes (listT (j + 1))).1
  have hsl := listT_len (n := j + 1) (by omega)
  (repeat (first | (apply G.h; constructor <;> (first | exact Zc | apply gI | ((repeat' (first | exact Y0 | apply Y1 | ((first | apply Y4 | apply Y5); simp only [evs, Nat.reduceEqDiff, reduceIte, qn, qd, q0, q3, q4] <;> rfl))); done) | (apply Y6; (try simp only [evs, qn, qd, q0, q3, q4]); first | rfl)))))
  apply g_strBytes (r := listT (j + 1))
  focus exact Rf.mk
  focus exact Rf.mk
  focus exact Rf.mk
  focus exact Rf.mk
  focus (apply Ev.mk; (simp only [evs, Nat.reduceEqDiff, reduceIte, qn, qd, q0, q3, q4]); exact congrArg (fun r => Value.string ⟨⟨r⟩⟩) (preL_src (j + 1)))
  focus exact Hy.mk rfl
  focus exact Om.mk (by omega)
  focus (apply Dn.mk; (simp only [evs, Nat.reduceEqDiff, reduceIte, qn, qd, q0, q3, q4] <;> rfl))
  refine Cn.mk ?_
  have hB := bts_new m (listT (j + 1))
  (repeat (first | (apply G.h; constructor <;> (first | exact Zc | apply gI | ((repeat' (first | exact Y0 | apply Y1 | ((first | apply Y4 | apply Y5); simp only [evs, Nat.reduceEqDiff, reduceIte, qn, qd, q0, q3, q4, qm] <;> rfl))); done) | (apply Y6; (try simp only [evs, qn, qd, q0, q3, q4, qm]); first | rfl)))))
  ((first | apply g_run | apply g_run0) <;> (first | ((repeat' (first | exact Y0 | apply Y1 | exact Y2 | apply Y3 | ((first | apply Y4 | apply Y5); simp only [evs, Nat.reduceEqDiff, reduceIte, qn, qd, q0, q3, q4] <;> rfl))); done) | exact Rn.mk ((by simp only [evs, qn, qd, q0, q3, q4, qm]; exact parse11l (by omega) (by omega) (Nat.le_refl _) hB)) | apply Cn.mk))
  rintro v m3 ⟨k3, lv, rfl, s3⟩
  try simp only [evs, qm] at k3 s3
  have hlen := listN_len (j + 1)
  have hfl := nflat_len (listN (j + 1))
  obtain ⟨nb, cap, rr, nn, rfl, y2, y3, y4, y5, y6, -⟩ := s3.at (i := 0) (by omega)
  have hnn : nn = 3 + (j + 1) := by
   have := congrArg List.length y6
   rw [List.length_take] at this
   omega
  subst hnn
  have k03 : Keep (fun c => c < m.next) [] m m3 := (Keep.new _).trans k3.all
  have hNm3 := hNm.stay (X := fun c => c < m.next) h0 h0 k03
  (repeat (first | (apply G.h; constructor <;> (first | exact Zc | apply gI | ((repeat' (first | exact Y0 | apply Y1 | ((first | apply Y4 | apply Y5); simp only [evs, Nat.reduceEqDiff, reduceIte, qn, qd, q0, q3, q4] <;> rfl))); done) | (apply Y6; (try simp only [evs, qn, qd, q0, q3, q4]); first | rfl)))))
  ((first | apply g_run | apply g_run0) <;> (first | ((repeat' (first | exact Y0 | apply Y1 | exact Y2 | apply Y3 | ((first | apply Y4 | apply Y5); simp only [evs, Nat.reduceEqDiff, reduceIte, qn, qd, q0, q3, q4] <;> rfl))); done) | exact Rn.mk ((by simp only [evs, qn, qd, q0, q3, q4]; exact compile10 nb 0 cap (j + 1) (by omega) (by omega) _ (sl_nodes s3) hNm3 y3.1 (Nat.lt_of_lt_of_le h0 k03.1))) | apply Cn.mk))
  rintro v m4 ⟨k4, hres⟩
  try simp only [evs] at k4 hres
  have z5 := row_new m4 [nilS, nilS, nilS, I 0] 35 0
  rcases hres with ⟨hle, fv, cv, rfl, sf, sc⟩ | ⟨hgt, rfl⟩
  ·obtain ⟨cb, cc, rfl, hck⟩ := ck_of sc
   obtain ⟨xb, xc, xr, xn, rfl, x2, x3, x4, x5, x6, -⟩ := sf.at (i := 0) (by show 0 < 6; decide)
   have hxn : xn = 1 := by
    have := congrArg List.length x6
    rw [List.length_take] at this
    have h1 : [I 0, I 0, nilS, nilS, Value.slice (some ⟨cb, 0, none⟩) (j + 1 + 4) cc, nilS].length = 6 := rfl
    omega
   subst hxn
   (repeat (first | (apply G.h; constructor <;> (first | exact Zc | apply gI | ((repeat' (first | exact Y0 | apply Y1 | ((first | apply Y4 | apply Y5); simp only [evs, Nat.reduceEqDiff, reduceIte, qn, qd, q0, q3, q4] <;> rfl))); done) | (apply Y6; (try simp only [evs, qn, qd, q0, q3, q4]); first | rfl)))))
   (apply g_stR <;> (first | exact Zc | apply gI | ((repeat' (first | exact Y0 | apply Y1 | exact Y2 | apply Y3 | ((first | apply Y4 | apply Y5); simp only [evs, Nat.reduceEqDiff, reduceIte, qn, qd, q0, q3, q4] <;> rfl))); done) | (apply Hy.mk; (try simp only [evs, qn, qd, q0, q3, q4]); first | exact z5 | assumption) | (apply Om.mk; first | exact z5) | (apply Y6; (try simp only [evs, qn, qd, q0, q3, q4]); first | rfl) | apply Cn.mk))
   intro m5 r5 o5 n5; simp only [evs, qn, qd, q0, q3, q4] at r5 o5 n5
   replace r5 : Row m5 m4.next (imgV (some ⟨xb, 0, none⟩) 1 xc) 35 0 := r5
   have g5 : Grow m4 m5 := ((Grow.refl m4).new _).wrote (Nat.le_refl _) o5 n5
   (repeat (first | (apply G.h; constructor <;> (first | exact Zc | apply gI | ((repeat' (first | exact Y0 | apply Y1 | ((first | apply Y4 | apply Y5); simp only [evs, Nat.reduceEqDiff, reduceIte, qn, qd, q0, q3, q4] <;> rfl))); done) | (apply Y6; (try simp only [evs, qn, qd, q0, q3, q4]); first | exact r5.loadA (k := 4) rfl rfl rfl (Nat.le_refl 4) rfl)))))
   ((first | apply g_run | apply g_run0) <;> (first | ((repeat' (first | exact Y0 | apply Y1 | exact Y2 | apply Y3 | ((first | apply Y4 | apply Y5); simp only [evs, Nat.reduceEqDiff, reduceIte, qn, qd, q0, q3, q4] <;> rfl))); done) | exact Rn.mk ((by simp only [evs, qn, qd, q0, q3, q4]; exact check12 (n := j + 1) hle (hck.grow g5) (x3.grow g5) (by rw [List.drop_zero]; exact x6.symm) (by omega))) | apply Cn.mk))
   rintro v m6 ⟨rfl, g6⟩
   try simp only [evs] at g6
   (repeat (first | (apply G.h; constructor <;> (first | exact Zc | apply gI | ((repeat' (first | exact Y0 | apply Y1 | ((first | apply Y4 | apply Y5); simp only [evs, Nat.reduceEqDiff, reduceIte, qn, qd, q0, q3, q4] <;> rfl))); done) | (apply Y6; (try simp only [evs, qn, qd, q0, q3, q4]); first | rfl)))))
   ((first | apply g_run | apply g_run0) <;> (first | ((repeat' (first | exact Y0 | apply Y1 | exact Y2 | apply Y3 | ((first | apply Y4 | apply Y5); simp only [evs, Nat.reduceEqDiff, reduceIte, qn, qd, q0, q3, q4] <;> rfl))); done) | exact Rn.mk (num9 0 _) | apply Cn.mk))
   rintro v m7 ⟨rfl, rfl⟩
   (repeat (first | (apply G.h; constructor <;> (first | exact Zc | apply gI | ((repeat' (first | exact Y0 | apply Y1 | ((first | apply Y4 | apply Y5); simp only [evs, Nat.reduceEqDiff, reduceIte, qn, qd, q0, q3, q4] <;> rfl))); done) | (apply Y6; (try simp only [evs, qn, qd, q0, q3, q4]); first | rfl)))))
   ((first | apply g_run | apply g_run0) <;> (first | ((repeat' (first | exact Y0 | apply Y1 | exact Y2 | apply Y3 | ((first | apply Y4 | apply Y5); simp only [evs, Nat.reduceEqDiff, reduceIte, qn, qd, q0, q3, q4] <;> rfl))); done) | exact Rn.mk (live6 _) | apply Cn.mk))
   rintro v m8 ⟨rfl, rfl⟩
   (repeat (first | (apply G.h; constructor <;> (first | exact Zc | apply gI | ((repeat' (first | exact Y0 | apply Y1 | ((first | apply Y4 | apply Y5); simp only [evs, Nat.reduceEqDiff, reduceIte, qn, qd, q0, q3, q4] <;> rfl))); done) | (apply Y6; (try simp only [evs, qn, qd, q0, q3, q4]); first | rfl)))))
   (refine g_fin (by repeat' first | exact Rs.nil | apply Rs.cons | (apply Y4; simp only [evs, Nat.reduceEqDiff, reduceIte, qn, qd, q0, q3, q4] <;> rfl)) (by (simp only [evs, Nat.reduceEqDiff, reduceIte, qn, qd, q0, q3, q4] <;> first | rfl | (congr 1; omega) | omega)) ?_)
   rfl
  ·by_cases h256 : 256 < j + 1
   case' pos => rw [if_pos h256]
   case' neg => rw [if_neg h256]
   all_goals
    (repeat (first | (apply G.h; constructor <;> (first | exact Zc | apply gI | ((repeat' (first | exact Y0 | apply Y1 | ((first | apply Y4 | apply Y5); simp only [evs, Nat.reduceEqDiff, reduceIte, qn, qd, q0, q3, q4] <;> rfl))); done) | (apply Y6; (try simp only [evs, qn, qd, q0, q3, q4]); first | rfl)))))
    (apply g_stR <;> (first | exact Zc | apply gI | ((repeat' (first | exact Y0 | apply Y1 | exact Y2 | apply Y3 | ((first | apply Y4 | apply Y5); simp only [evs, Nat.reduceEqDiff, reduceIte, qn, qd, q0, q3, q4] <;> rfl))); done) | (apply Hy.mk; (try simp only [evs, qn, qd, q0, q3, q4]); first | exact z5 | assumption) | (apply Om.mk; first | exact z5) | (apply Y6; (try simp only [evs, qn, qd, q0, q3, q4]); first | rfl) | apply Cn.mk))
    intro m5 r5 o5 n5; simp only [evs, qn, qd, q0, q3, q4] at r5 o5 n5
    replace r5 : Row m5 m4.next [nilS, nilS, nilS, I 0] 35 0 := r5
    (repeat (first | (apply G.h; constructor <;> (first | exact Zc | apply gI | ((repeat' (first | exact Y0 | apply Y1 | ((first | apply Y4 | apply Y5); simp only [evs, Nat.reduceEqDiff, reduceIte, qn, qd, q0, q3, q4] <;> rfl))); done) | (apply Y6; (try simp only [evs, qn, qd, q0, q3, q4]); first | exact r5.load1 rfl rfl rfl)))))
    ((first | apply g_run | apply g_run0) <;> (first | ((repeat' (first | exact Y0 | apply Y1 | exact Y2 | apply Y3 | ((first | apply Y4 | apply Y5); simp only [evs, Nat.reduceEqDiff, reduceIte, qn, qd, q0, q3, q4] <;> rfl))); done) | exact Rn.mk (num9 3 _) | apply Cn.mk))
    rintro v m7 ⟨rfl, rfl⟩
    (repeat (first | (apply G.h; constructor <;> (first | exact Zc | apply gI | ((repeat' (first | exact Y0 | apply Y1 | ((first | apply Y4 | apply Y5); simp only [evs, Nat.reduceEqDiff, reduceIte, qn, qd, q0, q3, q4] <;> rfl))); done) | (apply Y6; (try simp only [evs, qn, qd, q0, q3, q4]); first | exact r5.load1 rfl rfl rfl)))))
    ((first | apply g_run | apply g_run0) <;> (first | ((repeat' (first | exact Y0 | apply Y1 | exact Y2 | apply Y3 | ((first | apply Y4 | apply Y5); simp only [evs, Nat.reduceEqDiff, reduceIte, qn, qd, q0, q3, q4] <;> rfl))); done) | exact Rn.mk (live6 _) | apply Cn.mk))
    rintro v m8 ⟨rfl, rfl⟩
    (repeat (first | (apply G.h; constructor <;> (first | exact Zc | apply gI | ((repeat' (first | exact Y0 | apply Y1 | ((first | apply Y4 | apply Y5); simp only [evs, Nat.reduceEqDiff, reduceIte, qn, qd, q0, q3, q4] <;> rfl))); done) | (apply Y6; (try simp only [evs, qn, qd, q0, q3, q4]); first | rfl)))))
    (refine g_fin (by repeat' first | exact Rs.nil | apply Rs.cons | (apply Y4; simp only [evs, Nat.reduceEqDiff, reduceIte, qn, qd, q0, q3, q4] <;> rfl)) (by (simp only [evs, Nat.reduceEqDiff, reduceIte, qn, qd, q0, q3, q4] <;> first | rfl | (congr 1; omega) | omega)) ?_)
    rfl
end Go.Proofs.YthhcnfgeacnfiaaGreatDoor
