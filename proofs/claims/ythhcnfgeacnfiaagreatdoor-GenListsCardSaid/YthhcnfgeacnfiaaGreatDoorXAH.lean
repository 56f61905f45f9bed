/- Part of a verified evaluator of the model's programs and of runs by it: JI JK JL PD2 NB. -/
import Derived.Test.YthhcnfgeacnfiaaGreatDoorXAG
import Derived.Test.YthhcnfgeacnfiaaGreatDoorXAD
namespace Go.Proofs.YthhcnfgeacnfiaaGreatDoor
open Go Go.Ev
set_option maxRecDepth 100000
set_option linter.unusedVariables false
set_option linter.unusedSimpArgs false
set_option pp.maxSteps 1500
/-- the height ahead of an instruction. -/
def hA (n i : Nat) : Nat := if i ≤ n then i else if i = n + 2 then 0 else 1
attribute [local irreducible] quiet allocs effect wp ret wpO Runs Act.tmp Act.eval fin results Tree.set binOp loadAt storeAt target wanted cellsFrom

section
variable {m : Mem} {cb cc n : Nat} {fa : Option Addr} {fn fc : Nat}
set_option maxHeartbeats 8000000 in
/-- where an instruction leads: on, with that height. -/
theorem leads42 {i op a pops puts : Nat} (hn : n ≤ 255) (hi : i < n + 3) (h : Ck m cb n) (e : opA n i = (op, a)) (hop : op = 0 ∨ op = 14 ∨ op = 13 ∨ op = 1)
  (he : (op = 0 ∧ pops = 0 ∧ puts = 1) ∨ (op = 14 ∧ a ≤ 255 ∧ pops = a ∧ puts = 1) ∨ (op = 13 ∧ pops = 1 ∧ puts = 0) ∨ (op = 1 ∧ pops = 0 ∧ puts = 1) ∨ (op = 27 ∧ pops = 1 ∧ puts = 0)) (ht : Nat) (hh : pops ≤ ht) (hh2 : ht ≤ 255) (hp1 : puts ≤ 1) :
  Runs evEnv 42 [.agg ⟨imgV fa fn fc⟩, .agg ⟨clV cb n cc⟩, I i, I ht] m fun v m' => Grow m m' ∧ ∃ lb lc, v = .tuple ⟨[.slice (some ⟨lb, 0, none⟩) 1 lc, .bool true]⟩ ∧ ∃ r, Row m' lb r 129 0 ∧ r[0]? = some (I (i + 1 : Nat)) ∧ r[1]? = some (I (ht - pops + puts : Nat)) := by
 have z1 := row_new m (imgV fa fn fc) 35 0
 have z2 : Row ((m.new (rowObj (imgV fa fn fc) 35 0)).new (rowObj (clV cb n cc) 44 0)) (m.next + 1) (clV cb n cc) 44 0 := row_new (m.new (rowObj (imgV fa fn fc) 35 0)) (clV cb n cc) 44 0
 have z12 := z1.keep_new (rowObj (clV cb n cc) 44 0)
 have g2 : Grow m ((m.new (rowObj (imgV fa fn fc) 35 0)).new (rowObj (clV cb n cc) 44 0)) := ((Grow.refl m).new _).new _
 have h2 := h.grow g2
 have hld := h2.ins (by omega) e
 have zb := row_new ((m.new (rowObj (imgV fa fn fc) 35 0)).new (rowObj (clV cb n cc) 44 0)) [I 0, I 0, I 0] 46 0
 refine runs_start rfl rfl rfl rfl ?_
 (repeat (first | (apply G.h; constructor <;> (first | exact Zc | apply gI | ((repeat' (first | exact Y0 | apply Y1 | ((first | apply Y4 | apply Y5); simp only [evs, Nat.reduceEqDiff, reduceIte] <;> rfl))); done) | (apply Y6; (try simp only [evs]); first | exact z2.load1 rfl rfl rfl | exact hld)))))
 (apply g_stR <;> (first | exact Zc | apply gI | ((repeat' (first | exact Y0 | apply Y1 | exact Y2 | apply Y3 | ((first | apply Y4 | apply Y5); simp only [evs, Nat.reduceEqDiff, reduceIte] <;> rfl))); done) | (apply Hy.mk; (try simp only [evs]); first | exact zb | assumption) | (apply Om.mk; first | exact zb) | (apply Y6; (try simp only [evs]); first | rfl) | apply Cn.mk))
 intro m3 r3 o3 n3; simp only [evs] at r3 o3 n3
 replace r3 : Row m3 (((m.new (rowObj (imgV fa fn fc) 35 0)).new (rowObj (clV cb n cc) 44 0))).next [I op, I a, I 0] 46 0 := r3
 have g3 : Grow ((m.new (rowObj (imgV fa fn fc) 35 0)).new (rowObj (clV cb n cc) 44 0)) m3 := ((Grow.refl _).new _).wrote (Nat.le_refl _) o3 n3
 have z13 := z12.grow g3
 (repeat (first | (apply G.h; constructor <;> (first | exact Zc | apply gI | ((repeat' (first | exact Y0 | apply Y1 | ((first | apply Y4 | apply Y5); simp only [evs, Nat.reduceEqDiff, reduceIte] <;> rfl))); done) | (apply Y6; (try simp only [evs]); first | exact z13.loadA (k := 4) rfl rfl rfl (Nat.le_refl 4) rfl | exact r3.loadA (k := 3) rfl rfl rfl (Nat.le_refl 3) rfl)))))
 ((first | apply g_run | apply g_run0) <;> (first | ((repeat' (first | exact Y0 | apply Y1 | exact Y2 | apply Y3 | ((first | apply Y4 | apply Y5); simp only [evs, Nat.reduceEqDiff, reduceIte] <;> rfl))); done) | exact Rn.mk ((by simp only [evs]; exact effect70 fa fn fc he m3)) | apply Cn.mk))
 rintro v m4 ⟨rfl, g4⟩
 try simp only [evs] at g4
 have r34 := r3.grow g4
 have z24 := (z2.grow g3).grow g4
 have g04 := g2.trans (g3.trans g4)
 have hz0 : ht - pops + puts ≤ 256 := by omega
 have ez : (ht : Int) - (pops : Int) = ((ht - pops : Nat) : Int) := by omega
 rcases hop with rfl | rfl | rfl | rfl
 all_goals
  (repeat (first | (apply G.h; constructor <;> (first | exact Zc | apply gI | ((repeat' (first | exact Y0 | apply Y1 | ((first | apply Y4 | apply Y5); simp only [evs, Nat.reduceEqDiff, reduceIte] <;> rfl))); done) | (apply Y6; (try simp only [evs]); first | exact r34.load1 rfl rfl rfl | exact z24.load1 rfl rfl rfl)))))
  have hin : effect.cellsIn (m4.new (rowObj [I (i + 1 : Nat), I (ht - pops + puts : Nat)] 129 0)) 2 (.slice (some ⟨m4.next, 0, none⟩) 1 1) = some (1, [I (i + 1 : Nat), I (ht - pops + puts : Nat)]) := cellsIn_row (kc := 1) (new := [I (i + 1 : Nat), I (ht - pops + puts : Nat)]) (row_new m4 [I (i + 1 : Nat), I (ht - pops + puts : Nat)] 129 0) (Nat.le_refl 2) rfl
  have s0 : Sl (fun c => c < m4.next) (m4.new (rowObj [I (i + 1 : Nat), I (ht - pops + puts : Nat)] 129 0)) (.slice none 0 0) 129 2 [] := .inl ⟨rfl, rfl⟩
  have hX : ∀ c, c < m4.next → c < (m4.new (rowObj [I (i + 1 : Nat), I (ht - pops + puts : Nat)] 129 0)).next := fun c hc => Nat.lt_succ_of_lt hc
  (apply g_app <;> (first | exact Zc | apply gI | ((repeat' (first | exact Y0 | apply Y1 | exact Y2 | apply Y3 | ((first | apply Y4 | apply Y5); simp only [evs, Nat.reduceEqDiff, reduceIte] <;> rfl))); done) | (apply Hy.mk; (try simp only [evs]); first | exact hin | exact s0 | exact hX | assumption) | (apply Om.mk; first | exact hin | exact s0 | exact hX) | (apply Y6; (try simp only [evs]); first | rfl) | apply Cn.mk))
  intro v' m5 s5 k5 o5 b5 f5
  simp only [evs] at o5 k5
  replace s5 : Sl (fun c => c < m4.next) m5 v' 129 2 [I (i + 1 : Nat), I (ht - pops + puts : Nat)] := s5
  replace k5 : Keep (fun c => c < m4.next) [129] (m4.new (rowObj [I (i + 1 : Nat), I (ht - pops + puts : Nat)] 129 0)) m5 := k5
  have g5 : Grow m4 m5 := ⟨Nat.le_trans (Nat.le_succ _) k5.1, fun b hb => (o5 b (Nat.lt_succ_of_lt hb) (fun n c hh => by cases hh)).trans (mget_new' _ _ hb)⟩
  obtain ⟨lb, lc, lr, ln, rfl, y2, y3, y4, y5, y6, y7⟩ := s5.at (i := 0) (by show 0 < 2; decide)
  have hln : ln = 1 := by
   have := congrArg List.length y6
   rw [List.length_take] at this
   have h1 : [I ((i + 1 : Nat) : Int), I (ht - pops + puts : Nat)].length = 2 := rfl
   omega
  subst hln
  have y8 : lr[1]? = some (I (ht - pops + puts : Nat)) := by
   have : ([I (i + 1 : Nat), I (ht - pops + puts : Nat)] : List Value)[1]? = some (I (ht - pops + puts : Nat)) := rfl
   rw [y6, List.getElem?_take_of_lt (by omega)] at this
   exact this
  have r35 := r34.grow g5
  have z25 := z24.grow g5
  (repeat (first | (apply G.h; constructor <;> (first | exact Zc | apply gI | ((repeat' (first | exact Y0 | apply Y1 | ((first | apply Y4 | apply Y5); simp only [evs, Nat.reduceEqDiff, reduceIte] <;> rfl))); done) | (apply Y6; (try simp only [evs]); first | exact r35.load1 rfl rfl rfl)))))
  refine ewp_loop (ι := Unit) (fun _ a => (a.n = 138 ∧ a.defers = [] ∧ a.tmp 5 = ptr (m.next + 1) ∧ a.tmp 14 = .slice (some ⟨lb, 0, none⟩) 1 lc ∧ a.tmp 16 = I 0) ∧ a.m = m5) (fun _ => 0) () ?_ ?_
  ·exact ⟨(by refine ⟨?_, ?_, ?_, ?_, ?_⟩ <;> (simp only [evs, Nat.reduceEqDiff, reduceIte] <;> first | rfl | (congr 1; omega) | omega)), by (simp only [evs, Nat.reduceEqDiff, reduceIte] <;> first | rfl | (congr 1; omega) | omega)⟩
  rintro - a ⟨⟨un, ud, u5, u14, u16⟩, um⟩ -
  (repeat (first | (apply G.h; constructor <;> (first | exact Zc | apply gI | ((repeat' (first | exact Y0 | apply Y1 | ((first | apply Y4 | apply Y5); simp only [evs, Nat.reduceEqDiff, reduceIte, un, ud, u5, u14, u16, um] <;> rfl))); done) | (apply Y6; (try simp only [evs, un, ud, u5, u14, u16, um]); first | exact z25.load1 rfl rfl rfl)))))
  (refine g_fin (by repeat' first | exact Rs.nil | apply Rs.cons | (apply Y4; simp only [evs, Nat.reduceEqDiff, reduceIte, un, ud, u5, u14, u16, um] <;> rfl)) (by (simp only [evs, Nat.reduceEqDiff, reduceIte, un, ud, u5, u14, u16, um] <;> first | rfl | (congr 1; omega) | omega)) ?_)
  exact ⟨by simp only [evs, um]; exact g04.trans g5, lb, lc, rfl, lr, by simp only [evs, um]; exact y3, y7, y8⟩
set_option maxHeartbeats 4000000 in
/-- the last one leads nowhere. -/
theorem leads42e (hn : n ≤ 255) (h : Ck m cb n) : Runs evEnv 42 [.agg ⟨imgV fa fn fc⟩, .agg ⟨clV cb n cc⟩, I (n + 3 : Nat), I (1 : Nat)] m fun v m' => Grow m m' ∧ v = .tuple ⟨[.slice none 0 0, .bool true]⟩ := by
 have e : opA n (n + 3) = (27, 0) := by
  rcases opA_cases (n := n) (i := n + 3) (by omega) with ⟨h, -⟩ | ⟨h, -⟩ | ⟨h, -⟩ | ⟨h, -⟩ | ⟨-, e⟩
  ·omega
  ·omega
  ·omega
  ·omega
  ·exact e
 have z1 := row_new m (imgV fa fn fc) 35 0
 have z2 : Row ((m.new (rowObj (imgV fa fn fc) 35 0)).new (rowObj (clV cb n cc) 44 0)) (m.next + 1) (clV cb n cc) 44 0 := row_new (m.new (rowObj (imgV fa fn fc) 35 0)) (clV cb n cc) 44 0
 have z12 := z1.keep_new (rowObj (clV cb n cc) 44 0)
 have g2 : Grow m ((m.new (rowObj (imgV fa fn fc) 35 0)).new (rowObj (clV cb n cc) 44 0)) := ((Grow.refl m).new _).new _
 have h2 := h.grow g2
 have hld := h2.ins (by omega) e
 have zb := row_new ((m.new (rowObj (imgV fa fn fc) 35 0)).new (rowObj (clV cb n cc) 44 0)) [I 0, I 0, I 0] 46 0
 refine runs_start rfl rfl rfl rfl ?_
 (repeat (first | (apply G.h; constructor <;> (first | exact Zc | apply gI | ((repeat' (first | exact Y0 | apply Y1 | ((first | apply Y4 | apply Y5); simp only [evs, Nat.reduceEqDiff, reduceIte] <;> rfl))); done) | (apply Y6; (try simp only [evs]); first | exact z2.load1 rfl rfl rfl | exact hld)))))
 (apply g_stR <;> (first | exact Zc | apply gI | ((repeat' (first | exact Y0 | apply Y1 | exact Y2 | apply Y3 | ((first | apply Y4 | apply Y5); simp only [evs, Nat.reduceEqDiff, reduceIte] <;> rfl))); done) | (apply Hy.mk; (try simp only [evs]); first | exact zb | assumption) | (apply Om.mk; first | exact zb) | (apply Y6; (try simp only [evs]); first | rfl) | apply Cn.mk))
 intro m3 r3 o3 n3; simp only [evs] at r3 o3 n3
 replace r3 : Row m3 (((m.new (rowObj (imgV fa fn fc) 35 0)).new (rowObj (clV cb n cc) 44 0))).next [I 27, I 0, I 0] 46 0 := r3
 have g3 : Grow ((m.new (rowObj (imgV fa fn fc) 35 0)).new (rowObj (clV cb n cc) 44 0)) m3 := ((Grow.refl _).new _).wrote (Nat.le_refl _) o3 n3
 have z13 := z12.grow g3
 (repeat (first | (apply G.h; constructor <;> (first | exact Zc | apply gI | ((repeat' (first | exact Y0 | apply Y1 | ((first | apply Y4 | apply Y5); simp only [evs, Nat.reduceEqDiff, reduceIte] <;> rfl))); done) | (apply Y6; (try simp only [evs]); first | exact z13.loadA (k := 4) rfl rfl rfl (Nat.le_refl 4) rfl | exact r3.loadA (k := 3) rfl rfl rfl (Nat.le_refl 3) rfl)))))
 ((first | apply g_run | apply g_run0) <;> (first | ((repeat' (first | exact Y0 | apply Y1 | exact Y2 | apply Y3 | ((first | apply Y4 | apply Y5); simp only [evs, Nat.reduceEqDiff, reduceIte] <;> rfl))); done) | exact Rn.mk ((by simp only [evs]; exact effect70 (op := 27) (a := 0) (pops := 1) (puts := 0) fa fn fc (.inr (.inr (.inr (.inr ⟨rfl, rfl, rfl⟩)))) m3)) | apply Cn.mk))
 rintro v m4 ⟨rfl, g4⟩
 try simp only [evs] at g4
 have r34 := r3.grow g4
 have z24 := (z2.grow g3).grow g4
 have g04 := g2.trans (g3.trans g4)
 (repeat (first | (apply G.h; constructor <;> (first | exact Zc | apply gI | ((repeat' (first | exact Y0 | apply Y1 | ((first | apply Y4 | apply Y5); simp only [evs, Nat.reduceEqDiff, reduceIte] <;> rfl))); done) | (apply Y6; (try simp only [evs]); first | exact r34.load1 rfl rfl rfl | exact z24.load1 rfl rfl rfl)))))
 refine ewp_loop (ι := Unit) (fun _ a => (a.n = 138 ∧ a.defers = [] ∧ a.tmp 5 = ptr (m.next + 1) ∧ a.tmp 14 = .slice none 0 0 ∧ a.tmp 16 = I 0) ∧ a.m = m4) (fun _ => 0) () ?_ ?_
 ·exact ⟨(by refine ⟨?_, ?_, ?_, ?_, ?_⟩ <;> (simp only [evs, Nat.reduceEqDiff, reduceIte] <;> first | rfl | (congr 1; omega) | omega)), by (simp only [evs, Nat.reduceEqDiff, reduceIte] <;> first | rfl | (congr 1; omega) | omega)⟩
 rintro - a ⟨⟨un, ud, u5, u14, u16⟩, um⟩ -
 (repeat (first | (apply G.h; constructor <;> (first | exact Zc | apply gI | ((repeat' (first | exact Y0 | apply Y1 | ((first | apply Y4 | apply Y5); simp only [evs, Nat.reduceEqDiff, reduceIte, un, ud, u5, u14, u16, um] <;> rfl))); done) | (apply Y6; (try simp only [evs, un, ud, u5, u14, u16, um]); first | exact z24.load1 rfl rfl rfl)))))
 (refine g_fin (by repeat' first | exact Rs.nil | apply Rs.cons | (apply Y4; simp only [evs, Nat.reduceEqDiff, reduceIte, un, ud, u5, u14, u16, um] <;> rfl)) (by (simp only [evs, Nat.reduceEqDiff, reduceIte, un, ud, u5, u14, u16, um] <;> first | rfl | (congr 1; omega) | omega)) ?_)
 exact ⟨by simp only [evs, um]; exact g04, rfl⟩
end
end Go.Proofs.YthhcnfgeacnfiaaGreatDoor

namespace Go.Proofs.YthhcnfgeacnfiaaGreatDoor
open Go Go.Ev
set_option maxRecDepth 100000
set_option linter.unusedVariables false
set_option linter.unusedSimpArgs false
set_option pp.maxSteps 1500
/-- where it leads, by its place. -/
theorem leadsOn {m : Mem} {cb cc n i : Nat} {fa : Option Addr} {fn fc : Nat} (hn : n ≤ 255) (hi : i < n + 3) (h : Ck m cb n) :
  Runs evEnv 42 [.agg ⟨imgV fa fn fc⟩, .agg ⟨clV cb n cc⟩, I i, I (hA n i)] m fun v m' => Grow m m' ∧ ∃ lb lc, v = .tuple ⟨[.slice (some ⟨lb, 0, none⟩) 1 lc, .bool true]⟩ ∧ ∃ r, Row m' lb r 129 0 ∧ r[0]? = some (I (i + 1 : Nat)) ∧ r[1]? = some (I (hA n (i + 1))) := by
 rcases opA_cases (n := n) (i := i) (by omega) with ⟨h1, e⟩ | ⟨h1, e⟩ | ⟨h1, e⟩ | ⟨h1, e⟩ | ⟨h1, e⟩
 ·have e1 : hA n i = i := by unfold hA; rw [if_pos (by omega)]
  have e2 : hA n (i + 1) = i - 0 + 1 := by unfold hA; rw [if_pos (by omega)]; omega
  rw [e1, e2]
  exact leads42 (pops := 0) (puts := 1) hn hi h e (.inl rfl) (.inl ⟨rfl, rfl, rfl⟩) i (by omega) (by omega) (by omega)
 ·have e1 : hA n i = i := by unfold hA; rw [if_pos (by omega)]
  have e2 : hA n (i + 1) = i - n + 1 := by unfold hA; rw [if_neg (by omega), if_neg (by omega)]; omega
  rw [e1, e2]
  exact leads42 (pops := n) (puts := 1) hn hi h e (.inr (.inl rfl)) (.inr (.inl ⟨rfl, hn, rfl, rfl⟩)) i (by omega) (by omega) (by omega)
 ·have e1 : hA n i = 1 := by unfold hA; rw [if_neg (by omega), if_neg (by omega)]
  have e2 : hA n (i + 1) = 1 - 1 + 0 := by unfold hA; rw [if_neg (by omega), if_pos (by omega)]
  rw [e1, e2]
  exact leads42 (pops := 1) (puts := 0) hn hi h e (.inr (.inr (.inl rfl))) (.inr (.inr (.inl ⟨rfl, rfl, rfl⟩))) 1 (by omega) (by omega) (by omega)
 ·have e1 : hA n i = 0 := by unfold hA; rw [if_neg (by omega), if_pos (by omega)]
  have e2 : hA n (i + 1) = 0 - 0 + 1 := by unfold hA; rw [if_neg (by omega), if_neg (by omega)]
  rw [e1, e2]
  exact leads42 (pops := 0) (puts := 1) hn hi h e (.inr (.inr (.inr rfl))) (.inr (.inr (.inr (.inl ⟨rfl, rfl, rfl⟩)))) 0 (by omega) (by omega) (by omega)
 ·omega
/-- the heights so far: those up to a place are told, the rest are not. -/
def Hs (r : List Value) (n k : Nat) : Prop := r.length = n + 4 ∧ ∀ i, i < n + 4 → r[i]? = some (if i ≤ k then I (hA n i) else I (-1))
/-- the places that were reached. -/
def Ps (r : List Value) (k : Nat) : Prop := ∀ i, i ≤ k → r[i]? = some (I i)
attribute [local irreducible] quiet allocs effect wp ret wpO Runs Act.tmp Act.eval fin results Tree.set binOp loadAt storeAt target wanted cellsFrom

section
variable {m : Mem} {cb cc n : Nat} {fa : Option Addr} {fn fc : Nat}
set_option maxHeartbeats 8000000 in
theorem flow24 (hn : n ≤ 255) (h : Ck m cb n) : Runs evEnv 24 [.agg ⟨imgV fa fn fc⟩, .agg ⟨clV cb n cc⟩] m fun v m' => Grow m m' ∧ ∃ hv, v = .tuple ⟨[hv, I 0, .bool true]⟩ := by
 have z1 := row_new m (imgV fa fn fc) 35 0
 have z2 : Row ((m.new (rowObj (imgV fa fn fc) 35 0)).new (rowObj (clV cb n cc) 44 0)) (m.next + 1) (clV cb n cc) 44 0 := row_new (m.new (rowObj (imgV fa fn fc) 35 0)) (clV cb n cc) 44 0
 have z12 := z1.keep_new (rowObj (clV cb n cc) 44 0)
 have g2 : Grow m ((m.new (rowObj (imgV fa fn fc) 35 0)).new (rowObj (clV cb n cc) 44 0)) := ((Grow.refl m).new _).new _
 have h2 := h.grow g2
 have hrl : (repeatList [I 0] (n + 4)).length = n + 4 := by rw [repeat_len2]; simp
 have hh0 := row_new ((m.new (rowObj (imgV fa fn fc) 35 0)).new (rowObj (clV cb n cc) 44 0)) (repeatList [I 0] (n + 4)) 3 0
 refine runs_start rfl rfl rfl rfl ?_
 (repeat (first | (apply G.h; constructor <;> (first | exact Zc | apply gI | ((repeat' (first | exact Y0 | apply Y1 | ((first | apply Y4 | apply Y5); simp only [evs, Nat.reduceEqDiff, reduceIte] <;> rfl))); done) | (apply Y6; (try simp only [evs]); first | exact z2.load1 rfl rfl rfl)))))
 (apply g_makeSlice <;> (first | exact Zc | apply gI | ((repeat' (first | exact Y0 | apply Y1 | exact Y2 | apply Y3 | ((first | apply Y4 | apply Y5); simp only [evs, Nat.reduceEqDiff, reduceIte] <;> rfl))); done) | (apply Hy.mk; (try simp only [evs]); first | fail | assumption) | (apply Om.mk; first | fail) | (apply Y6; (try simp only [evs]); first | rfl) | apply Cn.mk))
 (repeat (first | (apply G.h; constructor <;> (first | exact Zc | apply gI | ((repeat' (first | exact Y0 | apply Y1 | ((first | apply Y4 | apply Y5); simp only [evs, Nat.reduceEqDiff, reduceIte] <;> rfl))); done) | (apply Y6; (try simp only [evs]); first | rfl)))))
 -- all are not reached
 refine ewp_loop (ι := Nat) (fun j a => (a.n = 103 ∧ a.defers = [] ∧ a.tmp 2 = ptr m.next ∧ a.tmp 3 = ptr (m.next + 1) ∧ a.tmp 7 = .slice (some ⟨m.next + 2, 0, none⟩) (n + 4) (n + 4) ∧ a.tmp 8 = I j) ∧ 1 ≤ j ∧ j ≤ n + 4 ∧ Grow ((m.new (rowObj (imgV fa fn fc) 35 0)).new (rowObj (clV cb n cc) 44 0)) a.m ∧ ∃ r, Row a.m (m.next + 2) r 3 0 ∧ r.length = n + 4 ∧ ∀ i, i < n + 4 → r[i]? = some (if i = 0 then I 0 else if i < j then I (-1) else I 0)) (fun j => n + 4 - j) 1 ?_ ?_
 ·refine ⟨(by refine ⟨?_, ?_, ?_, ?_, ?_, ?_⟩ <;> (simp only [evs, Nat.reduceEqDiff, reduceIte] <;> first | rfl | (congr 1; omega) | omega)), Nat.le_refl _, by omega, by simp only [evs]; exact (Grow.refl _).new _, _, by simp only [evs]; exact hh0, hrl, fun i hi => ?_⟩
  rw [rep_at _ _ hi]
  rcases Nat.eq_zero_or_pos i with h0 | h0
  ·rw [if_pos h0]
  ·rw [if_neg (by omega), if_neg (by omega)]
 rintro j a ⟨⟨qn, qd, q2, q3, q7, q8⟩, hj1, hj, qg, r, hr, hrl2, hre⟩ ih
 rcases Nat.lt_or_ge j (n + 4) with hlt | hge
 ·have hjr : 0 + j * 1 + 1 ≤ r.length := by omega
  (repeat (first | (apply G.h; constructor <;> (first | exact Zc | apply gI | ((repeat' (first | exact Y0 | apply Y1 | ((first | apply Y4 | apply Y5); simp only [evs, Nat.reduceEqDiff, reduceIte, qn, qd, q2, q3, q7, q8] <;> rfl))); done) | (apply Y6; (try simp only [evs, qn, qd, q2, q3, q7, q8]); first | rfl)))))
  (apply g_stR <;> (first | exact Zc | apply gI | ((repeat' (first | exact Y0 | apply Y1 | exact Y2 | apply Y3 | ((first | apply Y4 | apply Y5); simp only [evs, Nat.reduceEqDiff, reduceIte, qn, qd, q2, q3, q7, q8] <;> rfl))); done) | (apply Hy.mk; (try simp only [evs, qn, qd, q2, q3, q7, q8]); first | exact hr | exact hjr | assumption) | (apply Om.mk; first | exact hr | exact hjr) | (apply Y6; (try simp only [evs, qn, qd, q2, q3, q7, q8]); first | rfl) | apply Cn.mk))
  intro m3 r3 o3 n3; simp only [evs, qn, qd, q2, q3, q7, q8] at r3 o3 n3
  (repeat (first | (apply G.h; constructor <;> (first | exact Zc | apply gI | ((repeat' (first | exact Y0 | apply Y1 | ((first | apply Y4 | apply Y5); simp only [evs, Nat.reduceEqDiff, reduceIte, qn, qd, q2, q3, q7, q8] <;> rfl))); done) | (apply Y6; (try simp only [evs, qn, qd, q2, q3, q7, q8]); first | rfl)))))
  have g3 : Grow ((m.new (rowObj (imgV fa fn fc) 35 0)).new (rowObj (clV cb n cc) 44 0)) m3 := qg.wrote (b := m.next + 2) (Nat.le_refl _) o3 n3
  refine ih (j + 1) _ ⟨(by refine ⟨?_, ?_, ?_, ?_, ?_, ?_⟩ <;> (simp only [evs, Nat.reduceEqDiff, reduceIte, qn, qd, q2, q3, q7, q8] <;> first | rfl | (congr 1; omega) | omega)), by omega, hlt, by simp only [evs]; exact g3, _, by simp only [evs]; exact r3, by rw [put_length]; exact hrl2, fun i hi => ?_⟩ (by omega)
  show (r.set (0 + j * 1) (I (-1)))[i]? = _
  rw [show 0 + j * 1 = j by omega, List.getElem?_set]
  by_cases hji : j = i
  ·subst hji; rw [if_pos rfl, if_pos (by omega), if_neg (by omega), if_pos (by omega)]
  ·rw [if_neg hji, hre i hi]
   by_cases h0 : i = 0
   ·rw [if_pos h0, if_pos h0]
   ·rw [if_neg h0, if_neg h0]
    by_cases h1 : i < j
    ·rw [if_pos h1, if_pos (by omega)]
    ·rw [if_neg h1, if_neg (by omega)]
 ·obtain rfl : j = n + 4 := by omega
  clear ih
  have hH0 : Hs r n 0 := ⟨hrl2, fun i hi => by
   rw [hre i hi]
   by_cases h0 : i = 0
   ·subst h0; rw [if_pos rfl, if_pos (Nat.le_refl _)]; rfl
   ·rw [if_neg h0, if_pos hi, if_neg (by omega)]⟩
  clear hre hrl2 hrl hh0
  have zp := row_new a.m [I 0] 3 0
  have nxa : m.next + 2 < a.m.next := hr.1
  (repeat (first | (apply G.h; constructor <;> (first | exact Zc | apply gI | ((repeat' (first | exact Y0 | apply Y1 | ((first | apply Y4 | apply Y5); simp only [evs, Nat.reduceEqDiff, reduceIte, qn, qd, q2, q3, q7, q8] <;> rfl))); done) | (apply Y6; (try simp only [evs, qn, qd, q2, q3, q7, q8]); first | rfl)))))
  refine ewp_loop (ι := Nat) (fun k a => (a.n = 103 ∧ a.defers = [] ∧ a.tmp 2 = ptr m.next ∧ a.tmp 3 = ptr (m.next + 1) ∧ a.tmp 7 = .slice (some ⟨m.next + 2, 0, none⟩) (n + 4) (n + 4) ∧ a.tmp 10 = I k) ∧ k ≤ n + 4 ∧ Grow ((m.new (rowObj (imgV fa fn fc) 35 0)).new (rowObj (clV cb n cc) 44 0)) a.m ∧ ∃ hr pv, Row a.m (m.next + 2) hr 3 0 ∧ Hs hr n (min k (n + 3)) ∧ a.tmp 9 = pv ∧ Sl (fun c => c < m.next + 3) a.m pv 3 1 ((List.range (min k (n + 3) + 1)).map fun (i : Nat) => I i)) (fun k => n + 4 - k) 0 ?_ ?_
  ·refine ⟨(by refine ⟨?_, ?_, ?_, ?_, ?_, ?_⟩ <;> (simp only [evs, Nat.reduceEqDiff, reduceIte, qn, qd, q2, q3, q7, q8] <;> first | rfl | (congr 1; omega) | omega)), Nat.zero_le _, by simp only [evs]; exact qg.new _, r, _, by simp only [evs]; exact hr.keep_new _, by rw [Nat.zero_min]; exact hH0, by (simp only [evs, Nat.reduceEqDiff, reduceIte, qn, qd, q2, q3, q7, q8] <;> first | rfl | (congr 1; omega) | omega), ?_⟩
   simp only [evs]
   refine .inr ⟨a.m.next, 1, [I 0], 1, rfl, by omega, zp, rfl, Nat.le_refl _, ?_⟩
   rw [Nat.zero_min]; rfl
  clear qn qd q2 q3 q7 q8 qg hr zp hH0 nxa r hj hj1 hge
  rintro k a ⟨⟨wn, wd, w2, w3, w7, w10⟩, hk, wg, r, pv, hr, hH, w9, hs⟩ ih
  have z2a := z2.grow wg
  have z1a := z12.grow wg
  have hca := h2.grow wg
  obtain ⟨pb, pc, pr, pn, rfl, p2, p3, p4, p5, p6, -⟩ := hs.at (i := 0) (by rw [List.length_map, List.length_range]; omega)
  have hpn : pn = min k (n + 3) + 1 := by
   have := congrArg List.length p6
   rw [List.length_map, List.length_range, List.length_take] at this
   omega
  have hpr : ∀ j, j < pn → pr[j]? = some (I j) := fun j hj => by
   have : ((List.range (min k (n + 3) + 1)).map fun (i : Nat) => I i)[j]? = some (I j) := by
    rw [List.getElem?_map, List.getElem?_range (by omega)]; rfl
   rw [p6, List.getElem?_take_of_lt (by omega)] at this
   exact this
  rcases Nat.lt_or_ge k (n + 4) with hlt | hge
  ·have hmk : min k (n + 3) = k := by omega
   rw [hmk] at hpn hH hs
   subst hpn
   have hpk : pr[0 + k * 1]? = some (I k) := by rw [show 0 + k * 1 = k by omega]; exact hpr k (by omega)
   have hhk : r[0 + k * 1]? = some (I (hA n k)) := by rw [show 0 + k * 1 = k by omega, hH.2 k hlt, if_pos (Nat.le_refl _)]
   rcases Nat.lt_or_ge k (n + 3) with hlt3 | hge3
   ·(repeat (first | (apply G.h; constructor <;> (first | exact Zc | apply gI | ((repeat' (first | exact Y0 | apply Y1 | ((first | apply Y4 | apply Y5); simp only [evs, Nat.reduceEqDiff, reduceIte, wn, wd, w2, w3, w7, w10, w9] <;> rfl))); done) | (apply Y6; (try simp only [evs, wn, wd, w2, w3, w7, w10, w9]); first | exact z1a.loadA (k := 4) rfl rfl rfl (Nat.le_refl 4) rfl | exact z2a.loadA (k := 6) rfl rfl rfl (Nat.le_refl 6) rfl | exact p3.load1 rfl rfl hpk | exact hr.load1 rfl rfl hhk)))))
    ((first | apply g_run | apply g_run0) <;> (first | ((repeat' (first | exact Y0 | apply Y1 | exact Y2 | apply Y3 | ((first | apply Y4 | apply Y5); simp only [evs, Nat.reduceEqDiff, reduceIte, wn, wd, w2, w3, w7, w10, w9] <;> rfl))); done) | exact Rn.mk ((by simp only [evs, wn, wd, w2, w3, w7, w10, w9]; exact leadsOn hn hlt3 hca)) | apply Cn.mk))
    rintro v m3 ⟨g3, lb, lc, rfl, lr, l1, l2, l3⟩
    try simp only [evs, wn, wd, w2, w3, w7, w10, w9] at g3
    have hr3 := hr.grow g3
    have hs3 := hs.grow g3
    have hb1 : r[0 + (k + 1) * 1]? = some (I (-1)) := by rw [show 0 + (k + 1) * 1 = k + 1 by omega, hH.2 (k + 1) (by omega), if_neg (by omega)]
    (repeat (first | (apply G.h; constructor <;> (first | exact Zc | apply gI | ((repeat' (first | exact Y0 | apply Y1 | ((first | apply Y4 | apply Y5); simp only [evs, Nat.reduceEqDiff, reduceIte, wn, wd, w2, w3, w7, w10, w9] <;> rfl))); done) | (apply Y6; (try simp only [evs, wn, wd, w2, w3, w7, w10, w9]); first | rfl)))))
    refine ewp_loop (ι := Bool) (fun s a' => (a'.n = 103 ∧ a'.defers = [] ∧ a'.tmp 2 = ptr m.next ∧ a'.tmp 3 = ptr (m.next + 1) ∧ a'.tmp 7 = .slice (some ⟨m.next + 2, 0, none⟩) (n + 4) (n + 4) ∧ a'.tmp 10 = I k ∧ a'.tmp 11 = .slice (some ⟨lb, 0, none⟩) 1 lc ∧ a'.tmp 13 = I (if s then 0 else 1 : Nat)) ∧ (if s then a'.m = m3 ∧ a'.tmp 9 = .slice (some ⟨pb, 0, none⟩) (k + 1) pc else Grow ((m.new (rowObj (imgV fa fn fc) 35 0)).new (rowObj (clV cb n cc) 44 0)) a'.m ∧ ∃ hr' pv', Row a'.m (m.next + 2) hr' 3 0 ∧ Hs hr' n (k + 1) ∧ a'.tmp 9 = pv' ∧ Sl (fun c => c < m.next + 3) a'.m pv' 3 1 ((List.range (k + 1 + 1)).map fun (i : Nat) => I i))) (fun s => if s then 1 else 0) true ?_ ?_
    ·exact ⟨(by refine ⟨?_, ?_, ?_, ?_, ?_, ?_, ?_, ?_⟩ <;> (simp only [evs, Nat.reduceEqDiff, reduceIte, wn, wd, w2, w3, w7, w10, w9] <;> first | rfl | (congr 1; omega) | omega)), by rw [if_pos rfl]; exact (by refine ⟨?_, ?_⟩ <;> (simp only [evs, Nat.reduceEqDiff, reduceIte, wn, wd, w2, w3, w7, w10, w9] <;> first | rfl | (congr 1; omega) | omega))⟩
    clear wn wd w2 w3 w7 w10 w9
    rintro s a' ⟨⟨vn, vd, v2, v3, v7, v10, v11, v13⟩, vs⟩ ih2
    cases s with
    | true =>
     rw [if_pos rfl] at vs v13
     obtain ⟨vm, v9⟩ := vs
     have hrb : 0 + (k + 1) * 1 + 1 ≤ r.length := by rw [hH.1]; omega
     have hk14 : k + 1 < n + 4 := by omega
     (repeat (first | (apply G.h; constructor <;> (first | exact Zc | apply gI | ((repeat' (first | exact Y0 | apply Y1 | ((first | apply Y4 | apply Y5); simp only [evs, Nat.reduceEqDiff, reduceIte, vn, vd, v2, v3, v7, v10, v11, v13, v9, vm] <;> rfl))); done) | (apply Y6; (try simp only [evs, vn, vd, v2, v3, v7, v10, v11, v13, v9, vm]); first | exact l1.load1 rfl rfl l2 | exact l1.load1 rfl rfl l3 | exact hr3.load1 rfl rfl hb1)))))
     (apply g_stR <;> (first | exact Zc | apply gI | ((repeat' (first | exact Y0 | apply Y1 | exact Y2 | apply Y3 | ((first | apply Y4 | apply Y5); simp only [evs, Nat.reduceEqDiff, reduceIte, vn, vd, v2, v3, v7, v10, v11, v13, v9, vm] <;> rfl))); done) | (apply Hy.mk; (try simp only [evs, vn, vd, v2, v3, v7, v10, v11, v13, v9, vm]); first | exact hr3 | exact hrb | assumption) | (apply Om.mk; first | exact hr3 | exact hrb) | (apply Y6; (try simp only [evs, vn, vd, v2, v3, v7, v10, v11, v13, v9, vm]); first | rfl) | apply Cn.mk))
     intro m4 r4 o4 n4; simp only [evs, vn, vd, v2, v3, v7, v10, v11, v13, v9, vm] at r4 o4 n4
     have hpx : pb ≠ m.next + 2 := fun hh => p2 (by rw [hh]; exact Nat.lt_succ_self _)
     have hs4 : Sl (fun c => c < m.next + 3) m4 (.slice (some ⟨pb, 0, none⟩) (k + 1) pc) 3 1 ((List.range (k + 1)).map fun (i : Nat) => I i) := hs3.keep (Nat.le_of_eq n4.symm) fun b n c hh => by cases hh; exact o4 _ hpx
     have hin : effect.cellsIn (m4.new (rowObj [I (k + 1 : Nat)] 3 0)) 1 (.slice (some ⟨m4.next, 0, none⟩) 1 1) = some (1, [I (k + 1 : Nat)]) := cellsIn_row (kc := 1) (new := [I (k + 1 : Nat)]) (row_new m4 [I (k + 1 : Nat)] 3 0) (Nat.le_refl 1) rfl
     have s5 := hs4.grow ((Grow.refl m4).new (rowObj [I (k + 1 : Nat)] 3 0))
     have nx3 : m.next + 2 < m4.next := r4.1
     have hX : ∀ c, c < m.next + 3 → c < (m4.new (rowObj [I (k + 1 : Nat)] 3 0)).next := fun c hc => by show c < m4.next + 1; omega
     have hll : ((List.range (k + 1)).map fun (i : Nat) => I i).length ≤ 1000 := by rw [List.length_map, List.length_range]; omega
     (repeat (first | (apply G.h; constructor <;> (first | exact Zc | apply gI | ((repeat' (first | exact Y0 | apply Y1 | ((first | apply Y4 | apply Y5); simp only [evs, Nat.reduceEqDiff, reduceIte, vn, vd, v2, v3, v7, v10, v11, v13, v9] <;> rfl))); done) | (apply Y6; (try simp only [evs, vn, vd, v2, v3, v7, v10, v11, v13, v9]); first | rfl)))))
     (apply g_app <;> (first | exact Zc | apply gI | ((repeat' (first | exact Y0 | apply Y1 | exact Y2 | apply Y3 | ((first | apply Y4 | apply Y5); simp only [evs, Nat.reduceEqDiff, reduceIte, vn, vd, v2, v3, v7, v10, v11, v13, v9] <;> rfl))); done) | (apply Hy.mk; (try simp only [evs, vn, vd, v2, v3, v7, v10, v11, v13, v9]); first | exact hin | exact s5 | exact hX | assumption) | (apply Om.mk; first | exact hin | exact s5 | exact hX) | (apply Y6; (try simp only [evs, vn, vd, v2, v3, v7, v10, v11, v13, v9]); first | rfl) | apply Cn.mk))
     intro v' m6 s6 k6 o6 b6 f6
     simp only [evs, vn, vd, v2, v3, v7, v10, v11, v13, v9] at s6 k6 o6
     (repeat (first | (apply G.h; constructor <;> (first | exact Zc | apply gI | ((repeat' (first | exact Y0 | apply Y1 | ((first | apply Y4 | apply Y5); simp only [evs, Nat.reduceEqDiff, reduceIte, vn, vd, v2, v3, v7, v10, v11, v13, v9] <;> rfl))); done) | (apply Y6; (try simp only [evs, vn, vd, v2, v3, v7, v10, v11, v13, v9]); first | rfl)))))
     have g34 : Grow ((m.new (rowObj (imgV fa fn fc) 35 0)).new (rowObj (clV cb n cc) 44 0)) m4 := (wg.trans g3).wrote (b := m.next + 2) (Nat.le_refl _) o4 n4
     have k6' : Keep (fun c => c < m.next + 3) [3] m4 m6 := (Keep.new _).trans k6
     have g36 : Grow ((m.new (rowObj (imgV fa fn fc) 35 0)).new (rowObj (clV cb n cc) 44 0)) m6 := by
      refine ⟨Nat.le_trans g34.1 k6'.1, fun c hc => ?_⟩
      have hc2 : c < m.next + 2 := hc
      refine (o6 c (by first | omega | (show c < m4.next + 1; omega)) (fun n' c' hh => ?_)).trans ((mget_new' _ _ (by omega)).trans (g34.2 c hc))
      cases hh
      exact p2 (by omega)
     refine ih2 false _ ⟨(by refine ⟨?_, ?_, ?_, ?_, ?_, ?_, ?_, ?_⟩ <;> (simp only [evs, Nat.reduceEqDiff, reduceIte, vn, vd, v2, v3, v7, v10, v11, v13, v9] <;> first | rfl | (congr 1; omega) | omega)), ?_⟩ (by decide)
     rw [if_neg (by decide)]
     refine ⟨by simp only [evs]; exact g36, _, v', by simp only [evs]; exact r4.stay k6' (.inl (Nat.lt_succ_self _)), ⟨by rw [put_length]; exact hH.1, fun i hi => ?_⟩, by (simp only [evs, Nat.reduceEqDiff, reduceIte, vn, vd, v2, v3, v7, v10, v11, v13, v9] <;> first | rfl | (congr 1; omega) | omega), ?_⟩
     ·show (r.set (0 + (k + 1) * 1) (I (hA n (k + 1))))[i]? = _
      rw [show 0 + (k + 1) * 1 = k + 1 by omega, List.getElem?_set]
      by_cases hki : k + 1 = i
      ·subst hki; rw [if_pos rfl, if_pos (by rw [hH.1]; omega), if_pos (Nat.le_refl _)]
      ·rw [if_neg hki, hH.2 i hi]
       by_cases h1 : i ≤ k
       ·rw [if_pos h1, if_pos (by omega)]
       ·rw [if_neg h1, if_neg (by omega)]
     ·simp only [evs]
      rw [rangeI_snoc (fun i => i)]; exact s6
    | false =>
     clear ih2
     rw [if_neg (by decide)] at vs v13
     obtain ⟨vg, hr', pv', e1, e2, e3, e4⟩ := vs
     (repeat (first | (apply G.h; constructor <;> (first | exact Zc | apply gI | ((repeat' (first | exact Y0 | apply Y1 | ((first | apply Y4 | apply Y5); simp only [evs, Nat.reduceEqDiff, reduceIte, vn, vd, v2, v3, v7, v10, v11, v13] <;> rfl))); done) | (apply Y6; (try simp only [evs, vn, vd, v2, v3, v7, v10, v11, v13]); first | rfl)))))
     refine ih (k + 1) _ ⟨(by refine ⟨?_, ?_, ?_, ?_, ?_, ?_⟩ <;> (simp only [evs, Nat.reduceEqDiff, reduceIte, vn, vd, v2, v3, v7, v10, v11, v13] <;> first | rfl | (congr 1; omega) | omega)), by omega, by simp only [evs]; exact vg, hr', pv', by simp only [evs]; exact e1, ?_, by (simp only [evs, Nat.reduceEqDiff, reduceIte, vn, vd, v2, v3, v7, v10, v11, v13, e3] <;> first | rfl | (congr 1; omega) | omega), ?_⟩ (by omega)
     ·rw [show min (k + 1) (n + 3) = k + 1 by omega]; exact e2
     ·simp only [evs]
      rw [show min (k + 1) (n + 3) = k + 1 by omega]; exact e4
   ·obtain rfl : k = n + 3 := by omega
    have hhe : r[0 + (n + 3) * 1]? = some (I (1 : Nat)) := by
     rw [hhk]; unfold hA; rw [if_neg (by omega), if_neg (by omega)]
    (repeat (first | (apply G.h; constructor <;> (first | exact Zc | apply gI | ((repeat' (first | exact Y0 | apply Y1 | ((first | apply Y4 | apply Y5); simp only [evs, Nat.reduceEqDiff, reduceIte, wn, wd, w2, w3, w7, w10, w9] <;> rfl))); done) | (apply Y6; (try simp only [evs, wn, wd, w2, w3, w7, w10, w9]); first | exact z1a.loadA (k := 4) rfl rfl rfl (Nat.le_refl 4) rfl | exact z2a.loadA (k := 6) rfl rfl rfl (Nat.le_refl 6) rfl | exact p3.load1 rfl rfl hpk | exact hr.load1 rfl rfl hhe)))))
    ((first | apply g_run | apply g_run0) <;> (first | ((repeat' (first | exact Y0 | apply Y1 | exact Y2 | apply Y3 | ((first | apply Y4 | apply Y5); simp only [evs, Nat.reduceEqDiff, reduceIte, wn, wd, w2, w3, w7, w10, w9] <;> rfl))); done) | exact Rn.mk ((by simp only [evs, wn, wd, w2, w3, w7, w10, w9]; exact leads42e hn hca)) | apply Cn.mk))
    rintro v m3 ⟨g3, rfl⟩
    try simp only [evs, wn, wd, w2, w3, w7, w10, w9] at g3
    have hr3 := hr.grow g3
    have hs3 := hs.grow g3
    (repeat (first | (apply G.h; constructor <;> (first | exact Zc | apply gI | ((repeat' (first | exact Y0 | apply Y1 | ((first | apply Y4 | apply Y5); simp only [evs, Nat.reduceEqDiff, reduceIte, wn, wd, w2, w3, w7, w10, w9] <;> rfl))); done) | (apply Y6; (try simp only [evs, wn, wd, w2, w3, w7, w10, w9]); first | rfl)))))
    refine ewp_loop (ι := Unit) (fun _ a' => (a'.n = 103 ∧ a'.defers = [] ∧ a'.tmp 2 = ptr m.next ∧ a'.tmp 3 = ptr (m.next + 1) ∧ a'.tmp 7 = .slice (some ⟨m.next + 2, 0, none⟩) (n + 4) (n + 4) ∧ a'.tmp 10 = I (n + 3 : Nat) ∧ a'.tmp 11 = .slice none 0 0 ∧ a'.tmp 13 = I 0 ∧ a'.tmp 9 = .slice (some ⟨pb, 0, none⟩) (n + 3 + 1) pc) ∧ a'.m = m3) (fun _ => 0) () ?_ ?_
    ·exact ⟨(by refine ⟨?_, ?_, ?_, ?_, ?_, ?_, ?_, ?_, ?_⟩ <;> (simp only [evs, Nat.reduceEqDiff, reduceIte, wn, wd, w2, w3, w7, w10, w9] <;> first | rfl | (congr 1; omega) | omega)), by (simp only [evs, Nat.reduceEqDiff, reduceIte, wn, wd, w2, w3, w7, w10, w9] <;> first | rfl | (congr 1; omega) | omega)⟩
    clear wn wd w2 w3 w7 w10 w9
    rintro - a' ⟨⟨vn, vd, v2, v3, v7, v10, v11, v13, v9⟩, vm⟩ -
    (repeat (first | (apply G.h; constructor <;> (first | exact Zc | apply gI | ((repeat' (first | exact Y0 | apply Y1 | ((first | apply Y4 | apply Y5); simp only [evs, Nat.reduceEqDiff, reduceIte, vn, vd, v2, v3, v7, v10, v11, v13, v9, vm] <;> rfl))); done) | (apply Y6; (try simp only [evs, vn, vd, v2, v3, v7, v10, v11, v13, v9, vm]); first | rfl)))))
    refine ih (n + 4) _ ⟨(by refine ⟨?_, ?_, ?_, ?_, ?_, ?_⟩ <;> (simp only [evs, Nat.reduceEqDiff, reduceIte, vn, vd, v2, v3, v7, v10, v11, v13, v9] <;> first | rfl | (congr 1; omega) | omega)), Nat.le_refl _, by simp only [evs, vm]; exact wg.trans g3, r, .slice (some ⟨pb, 0, none⟩) (n + 3 + 1) pc, by simp only [evs, vm]; exact hr3, ?_, by (simp only [evs, Nat.reduceEqDiff, reduceIte, vn, vd, v2, v3, v7, v10, v11, v13, v9] <;> first | rfl | (congr 1; omega) | omega), ?_⟩ (by omega)
    ·rw [show min (n + 4) (n + 3) = n + 3 by omega]; exact hH
    ·simp only [evs, vm]
     rw [show min (n + 4) (n + 3) = n + 3 by omega]; exact hs3
  ·obtain rfl : k = n + 4 := by omega
   clear ih
   rw [show min (n + 4) (n + 3) = n + 3 by omega] at hpn
   subst hpn
   (repeat (first | (apply G.h; constructor <;> (first | exact Zc | apply gI | ((repeat' (first | exact Y0 | apply Y1 | ((first | apply Y4 | apply Y5); simp only [evs, Nat.reduceEqDiff, reduceIte, wn, wd, w2, w3, w7, w10, w9] <;> rfl))); done) | (apply Y6; (try simp only [evs, wn, wd, w2, w3, w7, w10, w9]); first | rfl)))))
   (refine g_fin (by repeat' first | exact Rs.nil | apply Rs.cons | (apply Y4; simp only [evs, Nat.reduceEqDiff, reduceIte, wn, wd, w2, w3, w7, w10, w9] <;> rfl)) (by (simp only [evs, Nat.reduceEqDiff, reduceIte, wn, wd, w2, w3, w7, w10, w9] <;> first | rfl | (congr 1; omega) | omega)) ?_)
   exact ⟨by simp only [evs]; exact g2.trans wg, _, rfl⟩
end
end Go.Proofs.YthhcnfgeacnfiaaGreatDoor

namespace Go.Proofs.YthhcnfgeacnfiaaGreatDoor
open Go Go.Ev
set_option maxRecDepth 100000
set_option linter.unusedVariables false
set_option linter.unusedSimpArgs false
set_option pp.maxSteps 1500
attribute [local irreducible] quiet allocs effect wp ret wpO Runs Act.tmp Act.eval fin results Tree.set binOp loadAt storeAt target wanted cellsFrom

set_option maxHeartbeats 8000000 in
/-- these images are right. -/
theorem check12 {m : Mem} {xb xc cb cc n : Nat} {xr : List Value} (hn : n ≤ 255) (h : Ck m cb n) (hx : Row m xb xr 44 0) (hxr : (xr.drop 0).take 6 = clV cb n cc) (hxl : 6 ≤ xr.length) :
  Runs evEnv 12 [.agg ⟨(imgV (some ⟨xb, 0, none⟩) 1 xc)⟩] m fun v m' => v = .tuple ⟨[I 0, I 0, I 0]⟩ ∧ Grow m m' := by
 have z1 := row_new m (imgV (some ⟨xb, 0, none⟩) 1 xc) 35 0
 have g1 : Grow m (m.new (rowObj (imgV (some ⟨xb, 0, none⟩) 1 xc) 35 0)) := (Grow.refl m).new _
 refine runs_start rfl rfl rfl rfl ?_
 (repeat (first | (apply G.h; constructor <;> (first | exact Zc | apply gI | ((repeat' (first | exact Y0 | apply Y1 | ((first | apply Y4 | apply Y5); simp only [evs, Nat.reduceEqDiff, reduceIte] <;> rfl))); done) | (apply Y6; (try simp only [evs]); first | exact z1.load1 rfl rfl rfl)))))
 refine ewp_loop (ι := Unit) (fun _ a => (a.n = 114 ∧ a.defers = [] ∧ a.tmp 1 = ptr m.next ∧ a.tmp 5 = I 0) ∧ a.m = m.new (rowObj (imgV (some ⟨xb, 0, none⟩) 1 xc) 35 0)) (fun _ => 0) () ?_ ?_
 ·exact ⟨(by refine ⟨?_, ?_, ?_, ?_⟩ <;> (simp only [evs, Nat.reduceEqDiff, reduceIte] <;> first | rfl | (congr 1; omega) | omega)), by (simp only [evs, Nat.reduceEqDiff, reduceIte] <;> first | rfl | (congr 1; omega) | omega)⟩
 rintro - a ⟨⟨qn, qd, q1, q6⟩, qm⟩ -
 (repeat (first | (apply G.h; constructor <;> (first | exact Zc | apply gI | ((repeat' (first | exact Y0 | apply Y1 | ((first | apply Y4 | apply Y5); simp only [evs, Nat.reduceEqDiff, reduceIte, qn, qd, q1, q6, qm] <;> rfl))); done) | (apply Y6; (try simp only [evs, qn, qd, q1, q6, qm]); first | exact z1.load1 rfl rfl rfl)))))
 refine ewp_loop (ι := Bool) (fun s a => (a.n = 114 ∧ a.defers = [] ∧ a.tmp 1 = ptr m.next ∧ a.tmp 6 = I (if s then 0 else 1 : Nat)) ∧ Grow (m.new (rowObj (imgV (some ⟨xb, 0, none⟩) 1 xc) 35 0)) a.m) (fun s => if s then 1 else 0) true ?_ ?_
 ·exact ⟨(by refine ⟨?_, ?_, ?_, ?_⟩ <;> (simp only [evs, Nat.reduceEqDiff, reduceIte, qn, qd, q1, q6] <;> first | rfl | (congr 1; omega) | omega)), by simp only [evs, qm]; exact Grow.refl _⟩
 clear qn qd q1 q6 qm
 rintro s a ⟨⟨qn, qd, q1, q6⟩, qg⟩ ih
 have z1a := z1.grow qg
 have hxa := (hx.grow g1).grow qg
 cases s with
 | true =>
  rw [if_pos rfl] at q6
  (repeat (first | (apply G.h; constructor <;> (first | exact Zc | apply gI | ((repeat' (first | exact Y0 | apply Y1 | ((first | apply Y4 | apply Y5); simp only [evs, Nat.reduceEqDiff, reduceIte, qn, qd, q1, q6] <;> rfl))); done) | (apply Y6; (try simp only [evs, qn, qd, q1, q6]); first | exact z1a.load1 rfl rfl rfl | exact hxa.loadA (k := 6) rfl rfl rfl hxl hxr)))))
  ((first | apply g_run | apply g_run0) <;> (first | ((repeat' (first | exact Y0 | apply Y1 | exact Y2 | apply Y3 | ((first | apply Y4 | apply Y5); simp only [evs, Nat.reduceEqDiff, reduceIte, qn, qd, q1, q6] <;> rfl))); done) | exact Rn.mk ((by simp only [evs, qn, qd, q1, q6]; exact frame22 hn)) | apply Cn.mk))
  rintro v m2 ⟨rfl, g2⟩
  try simp only [evs, qn, qd, q1, q6] at g2
  (repeat (first | (apply G.h; constructor <;> (first | exact Zc | apply gI | ((repeat' (first | exact Y0 | apply Y1 | ((first | apply Y4 | apply Y5); simp only [evs, Nat.reduceEqDiff, reduceIte, qn, qd, q1, q6] <;> rfl))); done) | (apply Y6; (try simp only [evs, qn, qd, q1, q6]); first | rfl)))))
  exact ih false _ ⟨(by refine ⟨?_, ?_, ?_, ?_⟩ <;> (simp only [evs, Nat.reduceEqDiff, reduceIte, qn, qd, q1, q6] <;> first | rfl | (congr 1; omega) | omega)), by simp only [evs]; exact qg.trans g2⟩ (by decide)
 | false =>
 clear ih
 rw [if_neg (by decide)] at q6
 (repeat (first | (apply G.h; constructor <;> (first | exact Zc | apply gI | ((repeat' (first | exact Y0 | apply Y1 | ((first | apply Y4 | apply Y5); simp only [evs, Nat.reduceEqDiff, reduceIte, qn, qd, q1, q6] <;> rfl))); done) | (apply Y6; (try simp only [evs, qn, qd, q1, q6]); first | exact z1a.load1 rfl rfl rfl)))))
 refine ewp_loop (ι := Bool) (fun s a => (a.n = 114 ∧ a.defers = [] ∧ a.tmp 1 = ptr m.next ∧ a.tmp 8 = I (if s then 0 else 1 : Nat)) ∧ Grow (m.new (rowObj (imgV (some ⟨xb, 0, none⟩) 1 xc) 35 0)) a.m) (fun s => if s then 1 else 0) true ?_ ?_
 ·exact ⟨(by refine ⟨?_, ?_, ?_, ?_⟩ <;> (simp only [evs, Nat.reduceEqDiff, reduceIte, qn, qd, q1, q6] <;> first | rfl | (congr 1; omega) | omega)), by simp only [evs]; exact qg⟩
 clear qn qd q1 q6 qg z1a hxa
 rintro s a ⟨⟨qn, qd, q1, q6⟩, qg⟩ ih
 have z1a := z1.grow qg
 have hxa := (hx.grow g1).grow qg
 have hca := (h.grow g1).grow qg
 cases s with
 | true =>
  rw [if_pos rfl] at q6
  (repeat (first | (apply G.h; constructor <;> (first | exact Zc | apply gI | ((repeat' (first | exact Y0 | apply Y1 | ((first | apply Y4 | apply Y5); simp only [evs, Nat.reduceEqDiff, reduceIte, qn, qd, q1, q6] <;> rfl))); done) | (apply Y6; (try simp only [evs, qn, qd, q1, q6]); first | exact z1a.load1 rfl rfl rfl | exact z1a.loadA (k := 4) rfl rfl rfl (Nat.le_refl 4) rfl | exact hxa.loadA (k := 6) rfl rfl rfl hxl hxr)))))
  ((first | apply g_run | apply g_run0) <;> (first | ((repeat' (first | exact Y0 | apply Y1 | exact Y2 | apply Y3 | ((first | apply Y4 | apply Y5); simp only [evs, Nat.reduceEqDiff, reduceIte, qn, qd, q1, q6] <;> rfl))); done) | exact Rn.mk ((by simp only [evs, qn, qd, q1, q6]; exact code23 hn hca)) | apply Cn.mk))
  rintro v m2 ⟨rfl, g2⟩
  try simp only [evs, qn, qd, q1, q6] at g2
  (repeat (first | (apply G.h; constructor <;> (first | exact Zc | apply gI | ((repeat' (first | exact Y0 | apply Y1 | ((first | apply Y4 | apply Y5); simp only [evs, Nat.reduceEqDiff, reduceIte, qn, qd, q1, q6] <;> rfl))); done) | (apply Y6; (try simp only [evs, qn, qd, q1, q6]); first | rfl)))))
  exact ih false _ ⟨(by refine ⟨?_, ?_, ?_, ?_⟩ <;> (simp only [evs, Nat.reduceEqDiff, reduceIte, qn, qd, q1, q6] <;> first | rfl | (congr 1; omega) | omega)), by simp only [evs]; exact qg.trans g2⟩ (by decide)
 | false =>
 clear ih
 rw [if_neg (by decide)] at q6
 (repeat (first | (apply G.h; constructor <;> (first | exact Zc | apply gI | ((repeat' (first | exact Y0 | apply Y1 | ((first | apply Y4 | apply Y5); simp only [evs, Nat.reduceEqDiff, reduceIte, qn, qd, q1, q6] <;> rfl))); done) | (apply Y6; (try simp only [evs, qn, qd, q1, q6]); first | exact z1a.load1 rfl rfl rfl)))))
 refine ewp_loop (ι := Bool) (fun s a => (a.n = 114 ∧ a.defers = [] ∧ a.tmp 1 = ptr m.next ∧ a.tmp 11 = I (if s then 0 else 1 : Nat)) ∧ Grow (m.new (rowObj (imgV (some ⟨xb, 0, none⟩) 1 xc) 35 0)) a.m) (fun s => if s then 1 else 0) true ?_ ?_
 ·exact ⟨(by refine ⟨?_, ?_, ?_, ?_⟩ <;> (simp only [evs, Nat.reduceEqDiff, reduceIte, qn, qd, q1, q6] <;> first | rfl | (congr 1; omega) | omega)), by simp only [evs]; exact qg⟩
 clear qn qd q1 q6 qg z1a hxa hca
 rintro s a ⟨⟨qn, qd, q1, q6⟩, qg⟩ ih
 have z1a := z1.grow qg
 have hxa := (hx.grow g1).grow qg
 have hca := (h.grow g1).grow qg
 cases s with
 | true =>
  rw [if_pos rfl] at q6
  (repeat (first | (apply G.h; constructor <;> (first | exact Zc | apply gI | ((repeat' (first | exact Y0 | apply Y1 | ((first | apply Y4 | apply Y5); simp only [evs, Nat.reduceEqDiff, reduceIte, qn, qd, q1, q6] <;> rfl))); done) | (apply Y6; (try simp only [evs, qn, qd, q1, q6]); first | exact z1a.load1 rfl rfl rfl | exact z1a.loadA (k := 4) rfl rfl rfl (Nat.le_refl 4) rfl | exact hxa.loadA (k := 6) rfl rfl rfl hxl hxr)))))
  ((first | apply g_run | apply g_run0) <;> (first | ((repeat' (first | exact Y0 | apply Y1 | exact Y2 | apply Y3 | ((first | apply Y4 | apply Y5); simp only [evs, Nat.reduceEqDiff, reduceIte, qn, qd, q1, q6] <;> rfl))); done) | exact Rn.mk ((by simp only [evs, qn, qd, q1, q6]; exact flow24 hn hca)) | apply Cn.mk))
  rintro v m2 ⟨g2, hv, rfl⟩
  try simp only [evs, qn, qd, q1, q6] at g2
  (repeat (first | (apply G.h; constructor <;> (first | exact Zc | apply gI | ((repeat' (first | exact Y0 | apply Y1 | ((first | apply Y4 | apply Y5); simp only [evs, Nat.reduceEqDiff, reduceIte, qn, qd, q1, q6] <;> rfl))); done) | (apply Y6; (try simp only [evs, qn, qd, q1, q6]); first | rfl)))))
  exact ih false _ ⟨(by refine ⟨?_, ?_, ?_, ?_⟩ <;> (simp only [evs, Nat.reduceEqDiff, reduceIte, qn, qd, q1, q6] <;> first | rfl | (congr 1; omega) | omega)), by simp only [evs]; exact qg.trans g2⟩ (by decide)
 | false =>
 clear ih
 rw [if_neg (by decide)] at q6
 (repeat (first | (apply G.h; constructor <;> (first | exact Zc | apply gI | ((repeat' (first | exact Y0 | apply Y1 | ((first | apply Y4 | apply Y5); simp only [evs, Nat.reduceEqDiff, reduceIte, qn, qd, q1, q6] <;> rfl))); done) | (apply Y6; (try simp only [evs, qn, qd, q1, q6]); first | exact z1a.load1 rfl rfl rfl)))))
 (refine g_fin (by repeat' first | exact Rs.nil | apply Rs.cons | (apply Y4; simp only [evs, Nat.reduceEqDiff, reduceIte, qn, qd, q1, q6] <;> rfl)) (by (simp only [evs, Nat.reduceEqDiff, reduceIte, qn, qd, q1, q6] <;> first | rfl | (congr 1; omega) | omega)) ?_)
 exact ⟨rfl, by simp only [evs]; exact g1.trans qg⟩
end Go.Proofs.YthhcnfgeacnfiaaGreatDoor

namespace Go.Proofs.YthhcnfgeacnfiaaGreatDoor
open Go Go.Ev
set_option maxRecDepth 100000
set_option linter.unusedVariables false
set_option linter.unusedSimpArgs false
set_option pp.maxSteps 1500
attribute [local irreducible] quiet allocs effect wp ret wpO Runs Act.tmp Act.eval fin results Tree.set binOp loadAt storeAt target wanted cellsFrom

/-- what an expression of one number answers. -/
abbrev OneN (m : Mem) (rb tb tc : Nat) (K : List Tn) (i o : Nat) (t : Tn) (v : Value) (m' : Mem) : Prop :=
 KL m.next rb m m' ∧ Rd m' rb tb tc K (i + 1) o ∧ Sl (fun c => c < m.next) m' v 58 5 (nflat [⟨14, 0, [], t.num, t.pos⟩])
set_option maxHeartbeats 2000000 in
theorem primary85 {m : Mem} {rb tb tc i o : Nat} {K : List Tn} {t : Tn} (hR : Rd m rb tb tc K i o) (hx : K[i]? = some t) (hk : K.length ≤ 100000) (h1 : t.kind = 3) : Runs evEnv 99 [ptr rb] m (OneN m rb tb tc K i o t) := by
 have hi := (List.getElem?_eq_some_iff.1 hx).1
 have hrb := hR.ne
 have z := row_new m [I 0, encS [], I 0, I 0] 87 0
 have g1 : Grow m (m.new (rowObj [I 0, encS [], I 0, I 0] 87 0)) := (Grow.refl m).new _
 have h1' := hR.grow g1
 have hl := h1'.agg hx
 have h1w := h1'.row
 refine runs_start rfl rfl rfl rfl ?_
 (repeat (first | apply wpN_cons | apply g_next | (apply G.h; constructor <;> (first | exact Zc | apply gI | ((repeat' (first | exact Y0 | apply Y1 | ((first | apply Y4 | apply Y5); simp only [evs, Nat.reduceEqDiff, reduceIte] <;> rfl))); done) | (apply Y6; (try simp only [evs]); first | rfl)))))
 (apply g_regionN [10, 0, 1, 2, 3, 4, 5, 6, 7, 8, 9, 11] []; (focus exact Kr.mk (by kernel_rfl)); (focus exact Rf.mk))
 (repeat (first | apply wpN_cons | apply g_next | (apply G.h; constructor <;> (first | exact Zc | apply gI | ((repeat' (first | exact Y0 | apply Y1 | ((first | apply Y4 | apply Y5); simp only [evs, Nat.reduceEqDiff, reduceIte] <;> rfl))); done) | (apply Y6; (try simp only [evs]); first | exact h1w.load1 rfl rfl rfl | exact hl)))))
 (apply g_stR <;> (first | exact Zc | apply gI | ((repeat' (first | exact Y0 | apply Y1 | exact Y2 | apply Y3 | ((first | apply Y4 | apply Y5); simp only [evs, Nat.reduceEqDiff, reduceIte] <;> rfl))); done) | (apply Hy.mk; (try simp only [evs]); first | exact z | assumption) | (apply Om.mk; first | exact z) | (apply Y6; (try simp only [evs]); first | rfl) | apply Cn.mk))
 intro m3 r3 o3 n3; simp only [evs] at r3 o3 n3
 replace r3 : Row m3 m.next t.val 87 0 := r3
 have g3 : Grow m m3 := g1.wrote (Nat.le_refl _) o3 n3
 (repeat (first | apply wpN_cons | apply g_next | (apply G.h; constructor <;> (first | exact Zc | apply gI | ((repeat' (first | exact Y0 | apply Y1 | ((first | apply Y4 | apply Y5); simp only [evs, Nat.reduceEqDiff, reduceIte] <;> rfl))); done) | (apply Y6; (try simp only [evs]); first | rfl)))))
 refine g_last (.mk ?_) ?_
 focus exact trivial
 obtain ⟨kd, tx, nm, ps⟩ := t
 obtain rfl : kd = 3 := h1
 have nx3 : m3.next = m.next + 1 := n3
 have r3n := r3.keep_new (rowObj [I 0, I 0, encS [], I 0, I 0] 58 0)
 have z4 := row_new m3 [I 0, I 0, encS [], I 0, I 0] 58 0
 (repeat (first | apply wpN_cons | apply g_next | (apply G.h; constructor <;> (first | exact Zc | apply gI | ((repeat' (first | exact Y0 | apply Y1 | ((first | apply Y4 | apply Y5); simp only [evs, Nat.reduceEqDiff, reduceIte] <;> rfl))); done) | (apply Y6; (try simp only [evs]); first | exact r3n.load1 rfl rfl rfl | exact r3.load1 rfl rfl rfl)))))
 (apply g_stR <;> (first | exact Zc | apply gI | ((repeat' (first | exact Y0 | apply Y1 | exact Y2 | apply Y3 | ((first | apply Y4 | apply Y5); simp only [evs, Nat.reduceEqDiff, reduceIte] <;> rfl))); done) | (apply Hy.mk; (try simp only [evs]); first | exact z4 | assumption) | (apply Om.mk; first | exact z4) | (apply Y6; (try simp only [evs]); first | rfl) | apply Cn.mk))
 intro m4 r4 o4 n4; simp only [evs] at r4 o4 n4
 replace r4 : Row m4 m3.next [I 0, I 0, encS [], I 0, I ps] 58 0 := r4
 have g4 : Grow m m4 := (g3.new _).wrote g3.1 o4 n4
 have gg4 : Grow m3 m4 := ((Grow.refl m3).new _).wrote (Nat.le_refl _) o4 n4
 have r34 := r3.grow gg4
 (repeat (first | apply wpN_cons | apply g_next | (apply G.h; constructor <;> (first | exact Zc | apply gI | ((repeat' (first | exact Y0 | apply Y1 | ((first | apply Y4 | apply Y5); simp only [evs, Nat.reduceEqDiff, reduceIte] <;> rfl))); done) | (apply Y6; (try simp only [evs]); first | exact r34.load1 rfl rfl rfl)))))
 (apply g_regionN [0, 1, 2, 3, 4, 5] [(0, 5), (1, 5)]; (focus exact Kr.mk (by kernel_rfl)); (focus exact Rf.mk))
 (repeat (first | apply wpN_cons | apply g_next | (apply G.h; constructor <;> (first | exact Zc | apply gI | ((repeat' (first | exact Y0 | apply Y1 | ((first | apply Y4 | apply Y5); simp only [evs, Nat.reduceEqDiff, reduceIte] <;> rfl))); done) | (apply Y6; (try simp only [evs]); first | exact r34.load1 rfl rfl rfl)))))
 (apply g_stR <;> (first | exact Zc | apply gI | ((repeat' (first | exact Y0 | apply Y1 | exact Y2 | apply Y3 | ((first | apply Y4 | apply Y5); simp only [evs, Nat.reduceEqDiff, reduceIte] <;> rfl))); done) | (apply Hy.mk; (try simp only [evs]); first | exact r4 | assumption) | (apply Om.mk; first | exact r4) | (apply Y6; (try simp only [evs]); first | rfl) | apply Cn.mk))
 intro m5 r5 o5 n5; simp only [evs] at r5 o5 n5
 replace r5 : Row m5 m3.next [I 14, I 0, encS [], I 0, I ps] 58 0 := r5
 have r35 : Row m5 m.next [I 3, encS tx, I nm, I ps] 87 0 := r34.keep (Nat.le_of_eq n5.symm) (o5 _ (by omega))
 (repeat (first | apply wpN_cons | apply g_next | (apply G.h; constructor <;> (first | exact Zc | apply gI | ((repeat' (first | exact Y0 | apply Y1 | ((first | apply Y4 | apply Y5); simp only [evs, Nat.reduceEqDiff, reduceIte] <;> rfl))); done) | (apply Y6; (try simp only [evs]); first | rfl)))))
 (apply g_stR <;> (first | exact Zc | apply gI | ((repeat' (first | exact Y0 | apply Y1 | exact Y2 | apply Y3 | ((first | apply Y4 | apply Y5); simp only [evs, Nat.reduceEqDiff, reduceIte] <;> rfl))); done) | (apply Hy.mk; (try simp only [evs]); first | exact r5 | assumption) | (apply Om.mk; first | exact r5) | (apply Y6; (try simp only [evs]); first | rfl) | apply Cn.mk))
 intro m6 r6 o6 n6; simp only [evs] at r6 o6 n6
 replace r6 : Row m6 m3.next [I 14, I 0, encS [], I nm, I ps] 58 0 := r6
 (repeat (first | apply wpN_cons | apply g_next | (apply G.h; constructor <;> (first | exact Zc | apply gI | ((repeat' (first | exact Y0 | apply Y1 | ((first | apply Y4 | apply Y5); simp only [evs, Nat.reduceEqDiff, reduceIte] <;> rfl))); done) | (apply Y6; (try simp only [evs]); first | rfl)))))
 refine g_last (.mk ⟨.mk ?_, .mk ?_, trivial⟩) ?_
 ·(apply again_of; exact Rf.mk; exact Rf.mk; (apply Ev.mk; (simp only [evs, Nat.reduceEqDiff, reduceIte] <;> rfl)); exact Rf.mk; (repeat (first | apply wpN_cons | apply g_next | (apply G.h; constructor <;> (first | exact Zc | apply gI | ((repeat' (first | exact Y0 | apply Y1 | ((first | apply Y4 | apply Y5); simp only [evs, Nat.reduceEqDiff, reduceIte] <;> rfl))); done) | (apply Y6; (try simp only [evs]); first | rfl))))); refine eret_nil ?_; (simp only [evs, Nat.reduceEqDiff, reduceIte] <;> rfl))
 ·(apply again_of; exact Rf.mk; exact Rf.mk; (apply Ev.mk; (simp only [evs, Nat.reduceEqDiff, reduceIte] <;> rfl)); exact Rf.mk; (repeat (first | apply wpN_cons | apply g_next | (apply G.h; constructor <;> (first | exact Zc | apply gI | ((repeat' (first | exact Y0 | apply Y1 | ((first | apply Y4 | apply Y5); simp only [evs, Nat.reduceEqDiff, reduceIte] <;> rfl))); done) | (apply Y6; (try simp only [evs]); first | exact r35.load1 rfl rfl rfl))))); refine eret_nil ?_; (simp only [evs, Nat.reduceEqDiff, reduceIte] <;> rfl))
 have g6 : Grow m m6 := (g4.wrote g3.1 o5 n5).wrote g3.1 o6 n6
 have h6 := hR.grow g6
 have h6w := h6.row
 (repeat (first | apply wpN_cons | apply g_next | (apply G.h; constructor <;> (first | exact Zc | apply gI | ((repeat' (first | exact Y0 | apply Y1 | ((first | apply Y4 | apply Y5); simp only [evs, Nat.reduceEqDiff, reduceIte] <;> rfl))); done) | (apply Y6; (try simp only [evs]); first | exact h6w.load1 rfl rfl rfl)))))
 (apply g_stR <;> (first | exact Zc | apply gI | ((repeat' (first | exact Y0 | apply Y1 | exact Y2 | apply Y3 | ((first | apply Y4 | apply Y5); simp only [evs, Nat.reduceEqDiff, reduceIte] <;> rfl))); done) | (apply Hy.mk; (try simp only [evs]); first | exact h6w | assumption) | (apply Om.mk; first | exact h6w) | (apply Y6; (try simp only [evs]); first | rfl) | apply Cn.mk))
 intro m7 r7 o7 n7; simp only [evs] at r7 o7 n7
 obtain ⟨h7, k7⟩ := h6.next (i' := i + 1) (o' := o) r7 o7 n7
 have r67 : Row m7 m3.next [I 14, I 0, encS [], I nm, I ps] 58 0 := r6.keep (Nat.le_of_eq n7.symm) (o7 _ (by have := g3.1; omega))
 have r8 := row_new m7 [I 14, I 0, encS [], I nm, I ps] 58 0
 (repeat (first | apply wpN_cons | apply g_next | (apply G.h; constructor <;> (first | exact Zc | apply gI | ((repeat' (first | exact Y0 | apply Y1 | ((first | apply Y4 | apply Y5); simp only [evs, Nat.reduceEqDiff, reduceIte] <;> rfl))); done) | (apply Y6; (try simp only [evs]); first | exact r67.loadA (k := 5) rfl rfl rfl (Nat.le_refl 5) rfl)))))
 (refine g_fin (by repeat' first | exact Rs.nil | apply Rs.cons | (apply Y4; simp only [evs, Nat.reduceEqDiff, reduceIte] <;> rfl)) (by (simp only [evs, Nat.reduceEqDiff, reduceIte] <;> first | rfl | (congr 1; omega) | omega)) ?_)
 have k8 : KL m.next rb m m7 := (Keep.grow g6).trans k7.kl
 refine ⟨by simp only [evs]; exact k8.trans (Keep.new _), by simp only [evs]; exact h7.grow ((Grow.refl _).new _), ?_⟩
 simp only [evs]
 exact .inr ⟨m7.next, 1, _, 1, rfl, fun h => by have := k8.1; omega, r8, rfl, Nat.le_refl _, rfl⟩

set_option maxHeartbeats 2000000 in
theorem thing71 {m : Mem} {rb tb tc i o p : Nat} {K : List Tn} {t : Tn} (hR : Rd m rb tb tc K i o) (hx : K[i]? = some t) (hy : K[i + 1]? = some ⟨5, [59], 0, p⟩) (hk : K.length ≤ 100000) (h1 : t.kind = 3) : Runs evEnv 75 [ptr rb] m (OneN m rb tb tc K i o t) := by
 have hi := (List.getElem?_eq_some_iff.1 hx).1
 refine runs_start rfl rfl rfl rfl ?_
 (repeat (first | apply wpN_cons | apply g_next | (apply G.h; constructor <;> (first | exact Zc | apply gI | ((repeat' (first | exact Y0 | apply Y1 | ((first | apply Y4 | apply Y5); simp only [evs, Nat.reduceEqDiff, reduceIte] <;> rfl))); done) | (apply Y6; (try simp only [evs]); first | rfl)))))
 ((first | apply g_run | apply g_run0) <;> (first | ((repeat' (first | exact Y0 | apply Y1 | exact Y2 | apply Y3 | ((first | apply Y4 | apply Y5); simp only [evs, Nat.reduceEqDiff, reduceIte] <;> rfl))); done) | exact Rn.mk ((by simp only [evs]; exact primary85 hR hx hk h1)) | apply Cn.mk))
 rintro v m1 ⟨k1, h1', s1⟩
 try simp only [evs] at k1 s1
 obtain ⟨nb, cap, r, n, rfl, z2, z3, z4, z5, z6, z7⟩ := s1.at (i := 0) (by show 0 < 5; decide)
 have hn : n = 1 := by
  have := congrArg List.length z6
  rw [List.length_take] at this
  have h5 : (nflat [(⟨14, 0, [], t.num, t.pos⟩ : Nd)]).length = 5 := rfl
  omega
 subst hn
 (repeat (first | apply wpN_cons | apply g_next | (apply G.h; constructor <;> (first | exact Zc | apply gI | ((repeat' (first | exact Y0 | apply Y1 | ((first | apply Y4 | apply Y5); simp only [evs, Nat.reduceEqDiff, reduceIte] <;> rfl))); done) | (apply Y6; (try simp only [evs]); first | rfl)))))
 refine ewp_loop (ι := Unit) (fun _ a => (a.n = 70 ∧ a.defers = [] ∧ a.tmp 0 = ptr rb ∧ a.tmp 3 = .slice (some ⟨nb, 0, none⟩) 1 cap) ∧ a.m = m1) (fun _ => 0) () ?_ ?_
 ·exact ⟨(by refine ⟨?_, ?_, ?_, ?_⟩ <;> (simp only [evs, Nat.reduceEqDiff, reduceIte] <;> first | rfl | (congr 1; omega) | omega)), by (simp only [evs, Nat.reduceEqDiff, reduceIte] <;> first | rfl | (congr 1; omega) | omega)⟩
 rintro - a ⟨⟨qn, qd, q0, q3⟩, qm⟩ -
 have h1w := h1'.row
 have hp := (sl_nodes s1).at4 0 (by show 0 < 1; decide)
 have z4' := row_new m1 [I 0, I 0, encS [], I 0, I 0] 58 0
 (repeat (first | apply wpN_cons | apply g_next | (apply G.h; constructor <;> (first | exact Zc | apply gI | ((repeat' (first | exact Y0 | apply Y1 | ((first | apply Y4 | apply Y5); simp only [evs, Nat.reduceEqDiff, reduceIte, qn, qd, q0, q3, qm] <;> rfl))); done) | (apply Y6; (try simp only [evs, qn, qd, q0, q3, qm]); first | exact h1w.load1 rfl rfl rfl | exact hp)))))
 (apply g_stR <;> (first | exact Zc | apply gI | ((repeat' (first | exact Y0 | apply Y1 | exact Y2 | apply Y3 | ((first | apply Y4 | apply Y5); simp only [evs, Nat.reduceEqDiff, reduceIte, qn, qd, q0, q3, qm] <;> rfl))); done) | (apply Hy.mk; (try simp only [evs, qn, qd, q0, q3, qm]); first | exact z4' | assumption) | (apply Om.mk; first | exact z4') | (apply Y6; (try simp only [evs, qn, qd, q0, q3, qm]); first | rfl) | apply Cn.mk))
 intro m2 r2 o2 n2; simp only [evs, qn, qd, q0, q3, qm] at r2 o2 n2
 have g2 : Grow m1 m2 := ((Grow.refl m1).new _).wrote (Nat.le_refl _) o2 n2
 have h2 := h1'.grow g2
 (repeat (first | apply wpN_cons | apply g_next | (apply G.h; constructor <;> (first | exact Zc | apply gI | ((repeat' (first | exact Y0 | apply Y1 | ((first | apply Y4 | apply Y5); simp only [evs, Nat.reduceEqDiff, reduceIte, qn, qd, q0, q3] <;> rfl))); done) | (apply Y6; (try simp only [evs, qn, qd, q0, q3]); first | rfl)))))
 ((first | apply g_run | apply g_run0) <;> (first | ((repeat' (first | exact Y0 | apply Y1 | exact Y2 | apply Y3 | ((first | apply Y4 | apply Y5); simp only [evs, Nat.reduceEqDiff, reduceIte, qn, qd, q0, q3] <;> rfl))); done) | exact Rn.mk ((by simp only [evs, qn, qd, q0, q3]; exact is44 h2 hy [40])) | apply Cn.mk))
 rintro v m3 ⟨rfl, g3⟩
 try simp only [evs] at g3
 have h3 := h2.grow g3
 rw [show isT ⟨5, [59], 0, p⟩ [40] = false from rfl]
 (repeat (first | apply wpN_cons | apply g_next | (apply G.h; constructor <;> (first | exact Zc | apply gI | ((repeat' (first | exact Y0 | apply Y1 | ((first | apply Y4 | apply Y5); simp only [evs, Nat.reduceEqDiff, reduceIte, qn, qd, q0, q3] <;> rfl))); done) | (apply Y6; (try simp only [evs, qn, qd, q0, q3]); first | rfl)))))
 ((first | apply g_run | apply g_run0) <;> (first | ((repeat' (first | exact Y0 | apply Y1 | exact Y2 | apply Y3 | ((first | apply Y4 | apply Y5); simp only [evs, Nat.reduceEqDiff, reduceIte, qn, qd, q0, q3] <;> rfl))); done) | exact Rn.mk ((by simp only [evs, qn, qd, q0, q3]; exact is44 h3 hy [91])) | apply Cn.mk))
 rintro v m4 ⟨rfl, g4⟩
 try simp only [evs] at g4
 have h4 := h3.grow g4
 rw [show isT ⟨5, [59], 0, p⟩ [91] = false from rfl]
 (repeat (first | apply wpN_cons | apply g_next | (apply G.h; constructor <;> (first | exact Zc | apply gI | ((repeat' (first | exact Y0 | apply Y1 | ((first | apply Y4 | apply Y5); simp only [evs, Nat.reduceEqDiff, reduceIte, qn, qd, q0, q3] <;> rfl))); done) | (apply Y6; (try simp only [evs, qn, qd, q0, q3]); first | rfl)))))
 ((first | apply g_run | apply g_run0) <;> (first | ((repeat' (first | exact Y0 | apply Y1 | exact Y2 | apply Y3 | ((first | apply Y4 | apply Y5); simp only [evs, Nat.reduceEqDiff, reduceIte, qn, qd, q0, q3] <;> rfl))); done) | exact Rn.mk ((by simp only [evs, qn, qd, q0, q3]; exact eatF h4 hy [46] rfl)) | apply Cn.mk))
 rintro v m5 ⟨rfl, g5⟩
 try simp only [evs] at g5
 have g15 : Grow m1 m5 := g2.trans (g3.trans (g4.trans g5))
 (repeat (first | apply wpN_cons | apply g_next | (apply G.h; constructor <;> (first | exact Zc | apply gI | ((repeat' (first | exact Y0 | apply Y1 | ((first | apply Y4 | apply Y5); simp only [evs, Nat.reduceEqDiff, reduceIte, qn, qd, q0, q3] <;> rfl))); done) | (apply Y6; (try simp only [evs, qn, qd, q0, q3]); first | rfl)))))
 (refine g_fin (by repeat' first | exact Rs.nil | apply Rs.cons | (apply Y4; simp only [evs, Nat.reduceEqDiff, reduceIte, qn, qd, q0, q3] <;> rfl)) (by (simp only [evs, Nat.reduceEqDiff, reduceIte, qn, qd, q0, q3] <;> first | rfl | (congr 1; omega) | omega)) ?_)
 exact ⟨by simp only [evs]; exact k1.trans (Keep.grow g15), by simp only [evs]; exact h1'.grow g15, by simp only [evs]; exact s1.grow g15⟩

end Go.Proofs.YthhcnfgeacnfiaaGreatDoor

namespace Go.Proofs.YthhcnfgeacnfiaaGreatDoor
open Go Go.Ev
set_option maxRecDepth 100000
set_option linter.unusedVariables false
set_option linter.unusedSimpArgs false
set_option pp.maxSteps 1500

/-- a sign behind which an expression ends. -/
abbrev EndC (c : UInt8) : Prop := c = 44 ∨ c = 59 ∨ c = 93
/-- what a part of the reader answers: these nodes, the reader at this token. -/
abbrev Gives (m : Mem) (rb tb tc : Nat) (K : List Tn) (i' o : Nat) (L : List Nd) (v : Value) (m' : Mem) : Prop :=
 KL m.next rb m m' ∧ Rd m' rb tb tc K i' o ∧ Sl (fun c => c < m.next) m' v 58 5 (nflat L)
attribute [local irreducible] quiet allocs effect wp ret wpO Runs Act.tmp Act.eval fin results Tree.set binOp loadAt storeAt target wanted cellsFrom

set_option maxHeartbeats 2000000 in
theorem level72c {c : UInt8} (hc : EndC c) (p : Nat) (m : Mem) : Runs evEnv 76 [.agg ⟨[I 5, encS [c], I 0, I p]⟩] m fun v m' => v = I (-1) ∧ Grow m m' := by
 have r0 := row_new m [I 5, encS [c], I 0, I p] 87 0
 have g1 : Grow m (m.new (rowObj [I 5, encS [c], I 0, I p] 87 0)) := (Grow.refl m).new _
 have w0 : ¬ ([c] : List UInt8) = [111, 114] := by rcases hc with rfl | rfl | rfl <;> decide
 have w1 : ¬ ([c] : List UInt8) = [97, 110, 100] := by rcases hc with rfl | rfl | rfl <;> decide
 have w2 : ¬ ([c] : List UInt8) = [61, 61] := by rcases hc with rfl | rfl | rfl <;> decide
 have w3 : ¬ ([c] : List UInt8) = [33, 61] := by rcases hc with rfl | rfl | rfl <;> decide
 have w4 : ¬ ([c] : List UInt8) = [60] := by rcases hc with rfl | rfl | rfl <;> decide
 have w5 : ¬ ([c] : List UInt8) = [60, 61] := by rcases hc with rfl | rfl | rfl <;> decide
 have w6 : ¬ ([c] : List UInt8) = [62] := by rcases hc with rfl | rfl | rfl <;> decide
 have w7 : ¬ ([c] : List UInt8) = [62, 61] := by rcases hc with rfl | rfl | rfl <;> decide
 have w8 : ¬ ([c] : List UInt8) = [43] := by rcases hc with rfl | rfl | rfl <;> decide
 have w9 : ¬ ([c] : List UInt8) = [45] := by rcases hc with rfl | rfl | rfl <;> decide
 have w10 : ¬ ([c] : List UInt8) = [42] := by rcases hc with rfl | rfl | rfl <;> decide
 have w11 : ¬ ([c] : List UInt8) = [47] := by rcases hc with rfl | rfl | rfl <;> decide
 have w12 : ¬ ([c] : List UInt8) = [37] := by rcases hc with rfl | rfl | rfl <;> decide
 refine runs_start rfl rfl rfl rfl ?_
 (repeat (first | apply wpN_cons | apply g_next | (apply G.h; constructor <;> (first | exact Zc | apply gI | ((repeat' (first | exact Y0 | apply Y1 | ((first | apply Y4 | apply Y5); simp only [evs, Nat.reduceEqDiff, reduceIte] <;> rfl))); done) | (apply Y6; (try simp only [evs]); first | exact r0.load1 rfl rfl rfl)))))
 (refine g_fin (by repeat' first | exact Rs.nil | apply Rs.cons | (apply Y4; simp only [evs, Nat.reduceEqDiff, reduceIte] <;> rfl)) (by (simp only [evs, Nat.reduceEqDiff, reduceIte] <;> first | rfl | (congr 1; omega) | omega)) ?_)
 exact ⟨rfl, by simp only [evs]; exact g1⟩

set_option maxHeartbeats 2000000 in
theorem thing71g {m : Mem} {rb tb tc i i' o p : Nat} {c : UInt8} {K : List Tn} {L : List Nd} (hR : Rd m rb tb tc K i o) (hp1 : Runs evEnv 99 [ptr rb] m (Gives m rb tb tc K i' o L)) (hL : 0 < L.length) (hc : EndC c) (hy : K[i']? = some ⟨5, [c], 0, p⟩) : Runs evEnv 75 [ptr rb] m (Gives m rb tb tc K i' o L) := by
 have hT1 : isT ⟨5, [c], 0, p⟩ [40] = false := by rcases hc with rfl | rfl | rfl <;> rfl
 have hT2 : isT ⟨5, [c], 0, p⟩ [91] = false := by rcases hc with rfl | rfl | rfl <;> rfl
 have hT3 : isT ⟨5, [c], 0, p⟩ [46] = false := by rcases hc with rfl | rfl | rfl <;> rfl
 have hfl := nflat_len L
 refine runs_start rfl rfl rfl rfl ?_
 (repeat (first | apply wpN_cons | apply g_next | (apply G.h; constructor <;> (first | exact Zc | apply gI | ((repeat' (first | exact Y0 | apply Y1 | ((first | apply Y4 | apply Y5); simp only [evs, Nat.reduceEqDiff, reduceIte] <;> rfl))); done) | (apply Y6; (try simp only [evs]); first | rfl)))))
 ((first | apply g_run | apply g_run0) <;> (first | ((repeat' (first | exact Y0 | apply Y1 | exact Y2 | apply Y3 | ((first | apply Y4 | apply Y5); simp only [evs, Nat.reduceEqDiff, reduceIte] <;> rfl))); done) | exact Rn.mk ((by simp only [evs]; exact hp1)) | apply Cn.mk))
 rintro v m1 ⟨k1, h1', s1⟩
 try simp only [evs] at k1 s1
 obtain ⟨nb, cap, r, n, rfl, z2, z3, z4, z5, z6, z7⟩ := s1.at (i := 0) (by omega)
 have hn : n = L.length := by
  have := congrArg List.length z6
  rw [List.length_take] at this
  omega
 subst hn
 (repeat (first | apply wpN_cons | apply g_next | (apply G.h; constructor <;> (first | exact Zc | apply gI | ((repeat' (first | exact Y0 | apply Y1 | ((first | apply Y4 | apply Y5); simp only [evs, Nat.reduceEqDiff, reduceIte] <;> rfl))); done) | (apply Y6; (try simp only [evs]); first | rfl)))))
 refine ewp_loop (ι := Unit) (fun _ a => (a.n = 70 ∧ a.defers = [] ∧ a.tmp 0 = ptr rb ∧ a.tmp 3 = .slice (some ⟨nb, 0, none⟩) L.length cap) ∧ a.m = m1) (fun _ => 0) () ?_ ?_
 ·exact ⟨(by refine ⟨?_, ?_, ?_, ?_⟩ <;> (simp only [evs, Nat.reduceEqDiff, reduceIte] <;> first | rfl | (congr 1; omega) | omega)), by (simp only [evs, Nat.reduceEqDiff, reduceIte] <;> first | rfl | (congr 1; omega) | omega)⟩
 rintro - a ⟨⟨qn, qd, q0, q3⟩, qm⟩ -
 have h1w := h1'.row
 have hp := (sl_nodes s1).at4 0 hL
 have z4' := row_new m1 [I 0, I 0, encS [], I 0, I 0] 58 0
 (repeat (first | apply wpN_cons | apply g_next | (apply G.h; constructor <;> (first | exact Zc | apply gI | ((repeat' (first | exact Y0 | apply Y1 | ((first | apply Y4 | apply Y5); simp only [evs, Nat.reduceEqDiff, reduceIte, qn, qd, q0, q3, qm] <;> rfl))); done) | (apply Y6; (try simp only [evs, qn, qd, q0, q3, qm]); first | exact h1w.load1 rfl rfl rfl | exact hp)))))
 (apply g_stR <;> (first | exact Zc | apply gI | ((repeat' (first | exact Y0 | apply Y1 | exact Y2 | apply Y3 | ((first | apply Y4 | apply Y5); simp only [evs, Nat.reduceEqDiff, reduceIte, qn, qd, q0, q3, qm] <;> rfl))); done) | (apply Hy.mk; (try simp only [evs, qn, qd, q0, q3, qm]); first | exact z4' | assumption) | (apply Om.mk; first | exact z4') | (apply Y6; (try simp only [evs, qn, qd, q0, q3, qm]); first | rfl) | apply Cn.mk))
 intro m2 r2 o2 n2; simp only [evs, qn, qd, q0, q3, qm] at r2 o2 n2
 have g2 : Grow m1 m2 := ((Grow.refl m1).new _).wrote (Nat.le_refl _) o2 n2
 have h2 := h1'.grow g2
 (repeat (first | apply wpN_cons | apply g_next | (apply G.h; constructor <;> (first | exact Zc | apply gI | ((repeat' (first | exact Y0 | apply Y1 | ((first | apply Y4 | apply Y5); simp only [evs, Nat.reduceEqDiff, reduceIte, qn, qd, q0, q3] <;> rfl))); done) | (apply Y6; (try simp only [evs, qn, qd, q0, q3]); first | rfl)))))
 ((first | apply g_run | apply g_run0) <;> (first | ((repeat' (first | exact Y0 | apply Y1 | exact Y2 | apply Y3 | ((first | apply Y4 | apply Y5); simp only [evs, Nat.reduceEqDiff, reduceIte, qn, qd, q0, q3] <;> rfl))); done) | exact Rn.mk ((by simp only [evs, qn, qd, q0, q3]; exact is44 h2 hy [40])) | apply Cn.mk))
 rintro v m3 ⟨rfl, g3⟩
 try simp only [evs] at g3
 have h3 := h2.grow g3
 rw [hT1]
 (repeat (first | apply wpN_cons | apply g_next | (apply G.h; constructor <;> (first | exact Zc | apply gI | ((repeat' (first | exact Y0 | apply Y1 | ((first | apply Y4 | apply Y5); simp only [evs, Nat.reduceEqDiff, reduceIte, qn, qd, q0, q3] <;> rfl))); done) | (apply Y6; (try simp only [evs, qn, qd, q0, q3]); first | rfl)))))
 ((first | apply g_run | apply g_run0) <;> (first | ((repeat' (first | exact Y0 | apply Y1 | exact Y2 | apply Y3 | ((first | apply Y4 | apply Y5); simp only [evs, Nat.reduceEqDiff, reduceIte, qn, qd, q0, q3] <;> rfl))); done) | exact Rn.mk ((by simp only [evs, qn, qd, q0, q3]; exact is44 h3 hy [91])) | apply Cn.mk))
 rintro v m4 ⟨rfl, g4⟩
 try simp only [evs] at g4
 have h4 := h3.grow g4
 rw [hT2]
 (repeat (first | apply wpN_cons | apply g_next | (apply G.h; constructor <;> (first | exact Zc | apply gI | ((repeat' (first | exact Y0 | apply Y1 | ((first | apply Y4 | apply Y5); simp only [evs, Nat.reduceEqDiff, reduceIte, qn, qd, q0, q3] <;> rfl))); done) | (apply Y6; (try simp only [evs, qn, qd, q0, q3]); first | rfl)))))
 ((first | apply g_run | apply g_run0) <;> (first | ((repeat' (first | exact Y0 | apply Y1 | exact Y2 | apply Y3 | ((first | apply Y4 | apply Y5); simp only [evs, Nat.reduceEqDiff, reduceIte, qn, qd, q0, q3] <;> rfl))); done) | exact Rn.mk ((by simp only [evs, qn, qd, q0, q3]; exact eatF h4 hy [46] hT3)) | apply Cn.mk))
 rintro v m5 ⟨rfl, g5⟩
 try simp only [evs] at g5
 have g15 : Grow m1 m5 := g2.trans (g3.trans (g4.trans g5))
 (repeat (first | apply wpN_cons | apply g_next | (apply G.h; constructor <;> (first | exact Zc | apply gI | ((repeat' (first | exact Y0 | apply Y1 | ((first | apply Y4 | apply Y5); simp only [evs, Nat.reduceEqDiff, reduceIte, qn, qd, q0, q3] <;> rfl))); done) | (apply Y6; (try simp only [evs, qn, qd, q0, q3]); first | rfl)))))
 (refine g_fin (by repeat' first | exact Rs.nil | apply Rs.cons | (apply Y4; simp only [evs, Nat.reduceEqDiff, reduceIte, qn, qd, q0, q3] <;> rfl)) (by (simp only [evs, Nat.reduceEqDiff, reduceIte, qn, qd, q0, q3] <;> first | rfl | (congr 1; omega) | omega)) ?_)
 exact ⟨by simp only [evs]; exact k1.trans (Keep.grow g15), by simp only [evs]; exact h1'.grow g15, by simp only [evs]; exact s1.grow g15⟩

theorem Gives.from {m m1 : Mem} {rb tb tc i' o : Nat} {K : List Tn} {L : List Nd} {v : Value} {m' : Mem} (g : Grow m m1) (h : Gives m1 rb tb tc K i' o L v m') : Gives m rb tb tc K i' o L v m' :=
 ⟨(Keep.grow g).trans (h.1.up g.1), h.2.1, h.2.2.sub fun b _ hn hb => hn (Nat.lt_of_lt_of_le hb g.1)⟩
theorem Gives.to {m m1 : Mem} {rb tb tc i' o : Nat} {K : List Tn} {L : List Nd} {v : Value} {m' : Mem} (h : Gives m rb tb tc K i' o L v m') (g : Grow m' m1) : Gives m rb tb tc K i' o L v m1 :=
 ⟨h.1.trans (Keep.grow g), h.2.1.grow g, h.2.2.grow g⟩
theorem expr51g6 {m : Mem} {rb tb tc i i' o : Nat} {K : List Tn} {t : Tn} {L : List Nd} (hR : Rd m rb tb tc K i o) (hx : K[i]? = some t) (hT : isT t [45] = false) (ht : ∀ m, Rd m rb tb tc K i o → Runs evEnv 75 [ptr rb] m (Gives m rb tb tc K i' o L)) : Runs evEnv 58 [ptr rb, I 6] m (Gives m rb tb tc K i' o L) := by
 have hw := hR.row
 refine runs_start rfl rfl rfl rfl ?_
 (repeat (first | apply wpN_cons | apply g_next | (apply G.h; constructor <;> (first | exact Zc | apply gI | ((repeat' (first | exact Y0 | apply Y1 | ((first | apply Y4 | apply Y5); simp only [evs, Nat.reduceEqDiff, reduceIte] <;> rfl))); done) | (apply Y6; (try simp only [evs]); first | exact hw.load1 rfl rfl rfl)))))
 ((first | apply g_run | apply g_run0) <;> (first | ((repeat' (first | exact Y0 | apply Y1 | exact Y2 | apply Y3 | ((first | apply Y4 | apply Y5); simp only [evs, Nat.reduceEqDiff, reduceIte] <;> rfl))); done) | exact Rn.mk ((by simp only [evs]; exact is44 hR hx [45])) | apply Cn.mk))
 rintro v m1 ⟨rfl, g1⟩
 try simp only [evs] at g1
 rw [hT]
 (repeat (first | apply wpN_cons | apply g_next | (apply G.h; constructor <;> (first | exact Zc | apply gI | ((repeat' (first | exact Y0 | apply Y1 | ((first | apply Y4 | apply Y5); simp only [evs, Nat.reduceEqDiff, reduceIte] <;> rfl))); done) | (apply Y6; (try simp only [evs]); first | rfl)))))
 ((first | apply g_run | apply g_run0) <;> (first | ((repeat' (first | exact Y0 | apply Y1 | exact Y2 | apply Y3 | ((first | apply Y4 | apply Y5); simp only [evs, Nat.reduceEqDiff, reduceIte] <;> rfl))); done) | exact Rn.mk ((by simp only [evs]; exact ht _ (hR.grow g1))) | apply Cn.mk))
 rintro v m2 h2
 try simp only [evs] at h2
 (repeat (first | apply wpN_cons | apply g_next | (apply G.h; constructor <;> (first | exact Zc | apply gI | ((repeat' (first | exact Y0 | apply Y1 | ((first | apply Y4 | apply Y5); simp only [evs, Nat.reduceEqDiff, reduceIte] <;> rfl))); done) | (apply Y6; (try simp only [evs]); first | rfl)))))
 (refine g_fin (by repeat' first | exact Rs.nil | apply Rs.cons | (apply Y4; simp only [evs, Nat.reduceEqDiff, reduceIte] <;> rfl)) (by (simp only [evs, Nat.reduceEqDiff, reduceIte] <;> first | rfl | (congr 1; omega) | omega)) ?_)
 simp only [evs]
 exact h2.from g1
set_option maxHeartbeats 2000000 in
theorem expr51gs {m : Mem} {rb tb tc i i' o p lev : Nat} {c : UInt8} {K : List Tn} {t : Tn} {L : List Nd} (hlev : lev < 6) (hx : K[i]? = some t) (hT : isT t [110, 111, 116] = false) (hc : EndC c) (hy : K[i']? = some ⟨5, [c], 0, p⟩)
  (hn : ∀ m : Mem, Rd m rb tb tc K i o → Runs evEnv 58 [ptr rb, I (lev + 1 : Nat)] m (Gives m rb tb tc K i' o L)) (hR : Rd m rb tb tc K i o) : Runs evEnv 58 [ptr rb, I lev] m (Gives m rb tb tc K i' o L) := by
 have hw := hR.row
 have hy1 := (List.getElem?_eq_some_iff.1 hy).1
 refine runs_start rfl rfl rfl rfl ?_
 by_cases h2 : lev = 2
 ·(repeat (first | apply wpN_cons | apply g_next | (apply G.h; constructor <;> (first | exact Zc | apply gI | ((repeat' (first | exact Y0 | apply Y1 | ((first | apply Y4 | apply Y5); simp only [evs, Nat.reduceEqDiff, reduceIte] <;> rfl))); done) | (apply Y6; (try simp only [evs]); first | exact hw.load1 rfl rfl rfl)))))
  ((first | apply g_run | apply g_run0) <;> (first | ((repeat' (first | exact Y0 | apply Y1 | exact Y2 | apply Y3 | ((first | apply Y4 | apply Y5); simp only [evs, Nat.reduceEqDiff, reduceIte] <;> rfl))); done) | exact Rn.mk ((by simp only [evs]; exact is44 hR hx [110, 111, 116])) | apply Cn.mk))
  rintro v m1 ⟨rfl, g1⟩
  try simp only [evs] at g1
  rw [hT]
  (repeat (first | apply wpN_cons | apply g_next | (apply G.h; constructor <;> (first | exact Zc | apply gI | ((repeat' (first | exact Y0 | apply Y1 | ((first | apply Y4 | apply Y5); simp only [evs, Nat.reduceEqDiff, reduceIte] <;> rfl))); done) | (apply Y6; (try simp only [evs]); first | rfl)))))
  ((first | apply g_run | apply g_run0) <;> (first | ((repeat' (first | exact Y0 | apply Y1 | exact Y2 | apply Y3 | ((first | apply Y4 | apply Y5); simp only [evs, Nat.reduceEqDiff, reduceIte] <;> rfl))); done) | exact Rn.mk ((by simp only [evs]; exact hn _ (hR.grow g1))) | apply Cn.mk))
  rintro v m2 h2
  try simp only [evs] at h2
  have h2w := h2.2.1.row
  (repeat (first | apply wpN_cons | apply g_next | (apply G.h; constructor <;> (first | exact Zc | apply gI | ((repeat' (first | exact Y0 | apply Y1 | ((first | apply Y4 | apply Y5); simp only [evs, Nat.reduceEqDiff, reduceIte] <;> rfl))); done) | (apply Y6; (try simp only [evs]); first | rfl)))))
  refine ewp_loop (ι := Unit) (fun _ a => (a.n = 99 ∧ a.defers = [] ∧ a.tmp 0 = ptr rb ∧ a.tmp 1 = I lev ∧ a.tmp 5 = v) ∧ a.m = m2) (fun _ => 0) () ?_ ?_
  ·exact ⟨(by refine ⟨?_, ?_, ?_, ?_, ?_⟩ <;> (simp only [evs, Nat.reduceEqDiff, reduceIte] <;> first | rfl | (congr 1; omega) | omega)), by (simp only [evs, Nat.reduceEqDiff, reduceIte] <;> first | rfl | (congr 1; omega) | omega)⟩
  rintro - a ⟨⟨un, ud, u0, u1, u5⟩, um⟩ -
  (repeat (first | apply wpN_cons | apply g_next | (apply G.h; constructor <;> (first | exact Zc | apply gI | ((repeat' (first | exact Y0 | apply Y1 | ((first | apply Y4 | apply Y5); simp only [evs, Nat.reduceEqDiff, reduceIte, un, ud, u0, u1, u5, um] <;> rfl))); done) | (apply Y6; (try simp only [evs, un, ud, u0, u1, u5, um]); first | exact h2w.load1 rfl rfl rfl)))))
  (apply g_regionN [0, 1, 2, 3, 4, 5, 6, 7, 8, 9, 10, 11, 12, 13, 14, 15, 16, 17, 18, 19, 20, 21, 22, 23] [(21, 20)]; (focus exact Kr.mk (by kernel_rfl)); (focus exact Rf.mk))
  (repeat (first | apply wpN_cons | apply g_next | (apply G.h; constructor <;> (first | exact Zc | apply gI | ((repeat' (first | exact Y0 | apply Y1 | ((first | apply Y4 | apply Y5); simp only [evs, Nat.reduceEqDiff, reduceIte, un, ud, u0, u1, u5, um] <;> rfl))); done) | (apply Y6; (try simp only [evs, un, ud, u0, u1, u5, um]); first | exact h2w.load1 rfl rfl rfl)))))
  refine g_last (.mk ⟨.mk ?_, trivial⟩) ?_
  ·apply again_skip
   focus exact Rf.mk
   focus (apply Ev.mk; (simp only [evs, Nat.reduceEqDiff, reduceIte, un, ud, u0, u1, u5] <;> rfl))
   focus exact Rf.mk
  (repeat (first | apply wpN_cons | apply g_next | (apply G.h; constructor <;> (first | exact Zc | apply gI | ((repeat' (first | exact Y0 | apply Y1 | ((first | apply Y4 | apply Y5); simp only [evs, Nat.reduceEqDiff, reduceIte, un, ud, u0, u1, u5] <;> rfl))); done) | (apply Y6; (try simp only [evs, un, ud, u0, u1, u5]); first | rfl)))))
  (refine g_fin (by repeat' first | exact Rs.nil | apply Rs.cons | (apply Y4; simp only [evs, Nat.reduceEqDiff, reduceIte, un, ud, u0, u1, u5] <;> rfl)) (by (simp only [evs, Nat.reduceEqDiff, reduceIte, un, ud, u0, u1, u5] <;> first | rfl | (congr 1; omega) | omega)) ?_)
  simp only [evs, um]
  exact h2.from g1
 ·(repeat (first | apply wpN_cons | apply g_next | (apply G.h; constructor <;> (first | exact Zc | apply gI | ((repeat' (first | exact Y0 | apply Y1 | ((first | apply Y4 | apply Y5); simp only [evs, Nat.reduceEqDiff, reduceIte] <;> rfl))); done) | (apply Y6; (try simp only [evs]); first | exact hw.load1 rfl rfl rfl)))))
  ((first | apply g_run | apply g_run0) <;> (first | ((repeat' (first | exact Y0 | apply Y1 | exact Y2 | apply Y3 | ((first | apply Y4 | apply Y5); simp only [evs, Nat.reduceEqDiff, reduceIte] <;> rfl))); done) | exact Rn.mk ((by simp only [evs]; exact hn _ hR)) | apply Cn.mk))
  rintro v m2 h2
  try simp only [evs] at h2
  have h2w := h2.2.1.row
  have hla := h2.2.1.agg hy
  (repeat (first | apply wpN_cons | apply g_next | (apply G.h; constructor <;> (first | exact Zc | apply gI | ((repeat' (first | exact Y0 | apply Y1 | ((first | apply Y4 | apply Y5); simp only [evs, Nat.reduceEqDiff, reduceIte] <;> rfl))); done) | (apply Y6; (try simp only [evs]); first | rfl)))))
  refine ewp_loop (ι := Unit) (fun _ a => (a.n = 99 ∧ a.defers = [] ∧ a.tmp 0 = ptr rb ∧ a.tmp 1 = I lev ∧ a.tmp 5 = v) ∧ a.m = m2) (fun _ => 0) () ?_ ?_
  ·exact ⟨(by refine ⟨?_, ?_, ?_, ?_, ?_⟩ <;> (simp only [evs, Nat.reduceEqDiff, reduceIte] <;> first | rfl | (congr 1; omega) | omega)), by (simp only [evs, Nat.reduceEqDiff, reduceIte] <;> first | rfl | (congr 1; omega) | omega)⟩
  rintro - a ⟨⟨un, ud, u0, u1, u5⟩, um⟩ -
  (repeat (first | apply wpN_cons | apply g_next | (apply G.h; constructor <;> (first | exact Zc | apply gI | ((repeat' (first | exact Y0 | apply Y1 | ((first | apply Y4 | apply Y5); simp only [evs, Nat.reduceEqDiff, reduceIte, un, ud, u0, u1, u5, um] <;> rfl))); done) | (apply Y6; (try simp only [evs, un, ud, u0, u1, u5, um]); first | exact h2w.load1 rfl rfl rfl | exact hla)))))
  (apply g_regionN [0, 1, 2, 3, 4, 5, 6, 7, 8, 9, 10, 11, 12, 13, 14, 15, 16, 17, 18, 19, 20, 21, 22, 23] [(21, 20)]; (focus exact Kr.mk (by kernel_rfl)); (focus exact Rf.mk))
  (repeat (first | apply wpN_cons | apply g_next | (apply G.h; constructor <;> (first | exact Zc | apply gI | ((repeat' (first | exact Y0 | apply Y1 | ((first | apply Y4 | apply Y5); simp only [evs, Nat.reduceEqDiff, reduceIte, un, ud, u0, u1, u5, um] <;> rfl))); done) | (apply Y6; (try simp only [evs, un, ud, u0, u1, u5, um]); first | exact h2w.load1 rfl rfl rfl | exact hla)))))
  ((first | apply g_run | apply g_run0) <;> (first | ((repeat' (first | exact Y0 | apply Y1 | exact Y2 | apply Y3 | ((first | apply Y4 | apply Y5); simp only [evs, Nat.reduceEqDiff, reduceIte, un, ud, u0, u1, u5, um] <;> rfl))); done) | exact Rn.mk (level72c hc p _) | apply Cn.mk))
  rintro v' m3 ⟨rfl, g3⟩
  try simp only [evs, um] at g3
  (repeat (first | apply wpN_cons | apply g_next | (apply G.h; constructor <;> (first | exact Zc | apply gI | ((repeat' (first | exact Y0 | apply Y1 | ((first | apply Y4 | apply Y5); simp only [evs, Nat.reduceEqDiff, reduceIte, un, ud, u0, u1, u5] <;> rfl))); done) | (apply Y6; (try simp only [evs, un, ud, u0, u1, u5]); first | rfl)))))
  refine g_last (.mk ⟨.mk ?_, trivial⟩) ?_
  ·(apply again_of; exact Rf.mk; exact Rf.mk; (apply Ev.mk; (simp only [evs, Nat.reduceEqDiff, reduceIte, un, ud, u0, u1, u5] <;> rfl)); exact Rf.mk; (repeat (first | apply wpN_cons | apply g_next | (apply G.h; constructor <;> (first | exact Zc | apply gI | ((repeat' (first | exact Y0 | apply Y1 | ((first | apply Y4 | apply Y5); simp only [evs, Nat.reduceEqDiff, reduceIte, un, ud, u0, u1, u5] <;> rfl))); done) | (apply Y6; (try simp only [evs, un, ud, u0, u1, u5]); first | rfl))))); refine eret_nil ?_; (simp only [evs, Nat.reduceEqDiff, reduceIte, un, ud, u0, u1, u5] <;> rfl))
  (repeat (first | apply wpN_cons | apply g_next | (apply G.h; constructor <;> (first | exact Zc | apply gI | ((repeat' (first | exact Y0 | apply Y1 | ((first | apply Y4 | apply Y5); simp only [evs, Nat.reduceEqDiff, reduceIte, un, ud, u0, u1, u5] <;> rfl))); done) | (apply Y6; (try simp only [evs, un, ud, u0, u1, u5]); first | rfl)))))
  (refine g_fin (by repeat' first | exact Rs.nil | apply Rs.cons | (apply Y4; simp only [evs, Nat.reduceEqDiff, reduceIte, un, ud, u0, u1, u5] <;> rfl)) (by (simp only [evs, Nat.reduceEqDiff, reduceIte, un, ud, u0, u1, u5] <;> first | rfl | (congr 1; omega) | omega)) ?_)
  simp only [evs]
  exact h2.to g3
theorem expr51g {m : Mem} {rb tb tc i i' o p : Nat} {c : UInt8} {K : List Tn} {t : Tn} {L : List Nd} (hR : Rd m rb tb tc K i o) (hx : K[i]? = some t) (hT1 : isT t [45] = false) (hT2 : isT t [110, 111, 116] = false) (hc : EndC c) (hy : K[i']? = some ⟨5, [c], 0, p⟩)
  (ht : ∀ m, Rd m rb tb tc K i o → Runs evEnv 75 [ptr rb] m (Gives m rb tb tc K i' o L)) : Runs evEnv 58 [ptr rb, I 0] m (Gives m rb tb tc K i' o L) :=
 have S (lev : Nat) (h : lev < 6) := fun hn m (hm : Rd m rb tb tc K i o) => expr51gs (m := m) (o := o) (tb := tb) (rb := rb) (tc := tc) (L := L) h hx hT2 hc hy hn hm
 S 0 (by decide) (S 1 (by decide) (S 2 (by decide) (S 3 (by decide) (S 4 (by decide) (S 5 (by decide) fun m hm => expr51g6 hm hx hT1 ht))))) m hR
/-- a number. -/
theorem int85 {m : Mem} {rb tb tc i o : Nat} {K : List Tn} {t : Tn} (hR : Rd m rb tb tc K i o) (hx : K[i]? = some t) (hk : K.length ≤ 100000) (h1 : t.kind = 3) : Runs evEnv 99 [ptr rb] m (Gives m rb tb tc K (i + 1) o [⟨14, 0, [], t.num, t.pos⟩]) := primary85 hR hx hk h1
theorem exprInt {m : Mem} {rb tb tc i o p : Nat} {c : UInt8} {K : List Tn} {t : Tn} (hR : Rd m rb tb tc K i o) (hx : K[i]? = some t) (hk : K.length ≤ 100000) (h1 : t.kind = 3) (hc : EndC c) (hy : K[i + 1]? = some ⟨5, [c], 0, p⟩) : Runs evEnv 58 [ptr rb, I 0] m (Gives m rb tb tc K (i + 1) o [⟨14, 0, [], t.num, t.pos⟩]) :=
 expr51g hR hx (by unfold isT; rw [h1]; rfl) (by unfold isT; rw [h1]; rfl) hc hy fun m hm => thing71g hm (int85 hm hx hk h1) (Nat.le_refl 1) hc hy
end Go.Proofs.YthhcnfgeacnfiaaGreatDoor
