/- Part of a verified evaluator of the model's programs and of runs by it: SX1 SX2. -/
import Derived.Test.YtihokakelnfdgaaDoorSP
import Derived.Test.YtihokakelnfdgaaDoorSE
import Derived.Test.YtihokakelnfdgaaDoorSCy
import Derived.Test.YtihokakelnfdgaaDoorSO
import Derived.Test.YtihokakelnfdgaaDoorSM
namespace Go.Proofs.YtihokakelnfdgaaDoor
open Go Go.Ev
set_option maxRecDepth 100000
set_option linter.unusedVariables false
set_option linter.unusedSimpArgs false
set_option pp.maxSteps 1500
attribute [local irreducible] quiet allocs effect wp ret wpO Runs Act.tmp Act.eval fin results Tree.set binOp loadAt storeAt target wanted cellsFrom

/-! The document's names of primitives. -/
def R30 : List Value := primNames.map encS
theorem names22 (m : Mem) : Runs evEnv 22 [] m fun v m' => v = .slice (some ⟨m.next, 0, none⟩) 30 30 ∧ m' = m.new (rowObj R30 9 0) := by
 refine runs_start rfl rfl rfl rfl ?_
 (repeat (first | (apply G.h; constructor <;> (first | exact Zc | apply gI | ((repeat' (first | exact Y0 | apply Y1 | ((first | apply Y4 | apply Y5); simp only [evs, Nat.reduceEqDiff, reduceIte] <;> rfl))); done) | (apply Y6; (try simp only [evs]); first | rfl)))))
 (refine g_fin (by repeat' first | exact Rs.nil | apply Rs.cons | (apply Y4; simp only [evs, Nat.reduceEqDiff, reduceIte] <;> rfl)) (by (simp only [evs, Nat.reduceEqDiff, reduceIte] <;> first | rfl | (congr 1; omega) | omega)) ?_)
 exact ⟨rfl, by (simp only [evs, Nat.reduceEqDiff, reduceIte] <;> first | rfl | (congr 1; omega) | omega)⟩
def primD (s : Bs) : Value := match primI s with | some i => I i | none => I (-1)
theorem prim17 (s : Bs) (m : Mem) : Runs evEnv 17 [encS s] m fun v m' => v = primD s ∧ Grow m m' := by
 refine runs_start rfl rfl rfl rfl ?_
 (repeat (first | (apply G.h; constructor <;> (first | exact Zc | apply gI | ((repeat' (first | exact Y0 | apply Y1 | ((first | apply Y4 | apply Y5); simp only [evs, Nat.reduceEqDiff, reduceIte] <;> rfl))); done) | (apply Y6; (try simp only [evs]); first | rfl)))))
 ((first | apply g_run | apply g_run0) <;> (first | ((repeat' (first | exact Y0 | apply Y1 | exact Y2 | apply Y3 | ((first | apply Y4 | apply Y5); simp only [evs, Nat.reduceEqDiff, reduceIte] <;> rfl))); done) | exact Rn.mk (names22 _) | apply Cn.mk))
 rintro v m1 ⟨rfl, rfl⟩
 have hr := row_new m R30 9 0
 (repeat (first | (apply G.h; constructor <;> (first | exact Zc | apply gI | ((repeat' (first | exact Y0 | apply Y1 | ((first | apply Y4 | apply Y5); simp only [evs, Nat.reduceEqDiff, reduceIte] <;> rfl))); done) | (apply Y6; (try simp only [evs]); first | rfl)))))
 refine ewp_loop (ι := Nat) (fun i a => a.n = 19 ∧ a.defers = [] ∧ a.m = m.new (rowObj R30 9 0) ∧ a.tmp 0 = encS s ∧ a.tmp 3 = .slice (some ⟨m.next, 0, none⟩) 30 30 ∧ a.tmp 4 = I i ∧ i ≤ 30 ∧ ∀ j, j < i → primNames[j]? ≠ some s) (fun i => 30 - i) 0 ?_ ?_
 ·exact ⟨by (simp only [evs, Nat.reduceEqDiff, reduceIte] <;> first | rfl | (congr 1; omega) | omega), by (simp only [evs, Nat.reduceEqDiff, reduceIte] <;> first | rfl | (congr 1; omega) | omega), by (simp only [evs, Nat.reduceEqDiff, reduceIte] <;> first | rfl | (congr 1; omega) | omega), by (simp only [evs, Nat.reduceEqDiff, reduceIte] <;> first | rfl | (congr 1; omega) | omega), by (simp only [evs, Nat.reduceEqDiff, reduceIte] <;> first | rfl | (congr 1; omega) | omega), by (simp only [evs, Nat.reduceEqDiff, reduceIte] <;> first | rfl | (congr 1; omega) | omega), by omega, fun j hj => by omega⟩
 rintro p a ⟨hn, hd, hm, h0, h3, h4, hp, hj⟩ ih
 rcases Nat.lt_or_ge p 30 with hlt | hge
 ·have hw : primNames[p]? = some primNames[p] := List.getElem?_eq_getElem hlt
  generalize primNames[p] = w at hw
  have hx : R30[0 + p * 1]? = some (encS w) := by rw [show 0 + p * 1 = p by omega, R30, List.getElem?_map, hw]; rfl
  by_cases hws : w = s
  ·(repeat (first | (apply G.h; constructor <;> (first | exact Zc | apply gI | ((repeat' (first | exact Y0 | apply Y1 | ((first | apply Y4 | apply Y5); simp only [evs, Nat.reduceEqDiff, reduceIte, hn, hd, hm, h0, h3, h4] <;> rfl))); done) | (apply Y6; (try simp only [evs, hn, hd, hm, h0, h3, h4]); first | exact hr.load1 rfl rfl hx)))))
   (refine g_fin (by repeat' first | exact Rs.nil | apply Rs.cons | (apply Y4; simp only [evs, Nat.reduceEqDiff, reduceIte, hn, hd, hm, h0, h3, h4] <;> rfl)) (by (simp only [evs, Nat.reduceEqDiff, reduceIte, hn, hd, hm, h0, h3, h4] <;> first | rfl | (congr 1; omega) | omega)) ?_)
   refine ⟨?_, by simp only [evs, hm]; exact (Grow.refl m).new _⟩
   have : primI s = some p := idx_some _ _ _ (by rw [hw, hws]) hj
   unfold primD
   rw [this]; rfl
  ·(repeat (first | (apply G.h; constructor <;> (first | exact Zc | apply gI | ((repeat' (first | exact Y0 | apply Y1 | ((first | apply Y4 | apply Y5); simp only [evs, Nat.reduceEqDiff, reduceIte, hn, hd, hm, h0, h3, h4] <;> rfl))); done) | (apply Y6; (try simp only [evs, hn, hd, hm, h0, h3, h4]); first | exact hr.load1 rfl rfl hx)))))
   refine ih (p + 1) _ ?_ (by omega)
   refine ⟨by (simp only [evs, Nat.reduceEqDiff, reduceIte, hn] <;> first | rfl | (congr 1; omega) | omega), by (simp only [evs, Nat.reduceEqDiff, reduceIte, hd] <;> first | rfl | (congr 1; omega) | omega), by (simp only [evs, Nat.reduceEqDiff, reduceIte, hm] <;> first | rfl | (congr 1; omega) | omega), by (simp only [evs, Nat.reduceEqDiff, reduceIte, h0] <;> first | rfl | (congr 1; omega) | omega), by (simp only [evs, Nat.reduceEqDiff, reduceIte, h3] <;> first | rfl | (congr 1; omega) | omega), by (simp only [evs, Nat.reduceEqDiff, reduceIte, h4] <;> first | rfl | (congr 1; omega) | omega), hlt, fun j hjp => ?_⟩
   rcases Nat.lt_or_ge j p with h | h
   ·exact hj j h
   ·obtain rfl : j = p := by omega
    rw [hw]
    intro he
    exact hws (Option.some.inj he)
 ·(repeat (first | (apply G.h; constructor <;> (first | exact Zc | apply gI | ((repeat' (first | exact Y0 | apply Y1 | ((first | apply Y4 | apply Y5); simp only [evs, Nat.reduceEqDiff, reduceIte, hn, hd, hm, h0, h3, h4] <;> rfl))); done) | (apply Y6; (try simp only [evs, hn, hd, hm, h0, h3, h4]); first | rfl)))))
  (refine g_fin (by repeat' first | exact Rs.nil | apply Rs.cons | (apply Y4; simp only [evs, Nat.reduceEqDiff, reduceIte, hn, hd, hm, h0, h3, h4] <;> rfl)) (by (simp only [evs, Nat.reduceEqDiff, reduceIte, hn, hd, hm, h0, h3, h4] <;> first | rfl | (congr 1; omega) | omega)) ?_)
  refine ⟨?_, by simp only [evs, hm]; exact (Grow.refl m).new _⟩
  have : primI s = none := idx_none _ _ (fun j hjl => hj j (by have : j < 30 := hjl; omega))
  unfold primD
  rw [this]; rfl

theorem n_cat {m : Mem} (x y : List UInt8) (h : x.length + y.length ≤ 4611686018427387904) : Bn evEnv m .add 9 (.string ⟨⟨x⟩⟩) (.string ⟨⟨y⟩⟩) (.string ⟨⟨x ++ y⟩⟩) := by
 refine .mk ?_
 have h5 : evEnv.under 9 = some .string := by rfl
 simp [Go.Ev.binOp, Go.Ev.isTok, Go.Ev.binOp0, h5, Go.Ev.strOp, Nat.ble_eq_true_of_le h]
theorem n_capNe {m : Mem} (a b : Int) : Bn evEnv m .neq 59 (.agg ⟨[I a, I b]⟩) (.agg ⟨[I a, I b]⟩) (.bool false) := by
 refine .mk ?_
 obtain ⟨f0, f1, h2, a1, a2, a3, b1, b2, b3⟩ : ∃ f0 f1 : Field, evEnv.under 59 = some (.struct #[f0, f1]) ∧ f0.offset = 0 ∧ f0.type = 3 ∧ f0.name = "Own" ∧ f1.offset = 1 ∧ f1.type = 3 ∧ f1.name = "N" := ⟨_, _, rfl, rfl, rfl, rfl, rfl, rfl, rfl⟩
 have h4 : evEnv.eqs.any (Nat.beq 59) = true := by rfl
 have h5 : evEnv.under 3 = some (.int .i64) := by rfl
 simp [Go.Ev.binOp, Go.Ev.isTok, Go.Ev.binOp0, Go.Ev.eqAny, h2, h4, Go.Ev.eqFlds, a1, a2, a3, b1, b2, b3, h5]
end Go.Proofs.YtihokakelnfdgaaDoor

namespace Go.Proofs.YtihokakelnfdgaaDoor
open Go Go.Ev
set_option maxRecDepth 100000
set_option linter.unusedVariables false
set_option linter.unusedSimpArgs false
set_option pp.maxSteps 1500

/-! A copy of nodes, with other names. -/
def nflat (l : List Nd) : List Value := l.flatMap Nd.val
theorem nflat_len : ∀ (l : List Nd), (nflat l).length = l.length * 5
 | [] => rfl
 | x :: l => by
  have := nflat_len l
  unfold nflat at this ⊢
  rw [List.flatMap_cons, List.length_append, this, List.length_cons, show x.val.length = 5 from rfl]; omega
theorem nflat_get : ∀ (l : List Nd) (i j : Nat) (hi : i < l.length), j < 5 → (nflat l)[i * 5 + j]? = l[i].val[j]?
 | x :: l, 0, j, hi, hj => by
  unfold nflat
  rw [List.flatMap_cons, List.getElem?_append_left (by rw [show x.val.length = 5 from rfl]; omega)]; simp
 | x :: l, i + 1, j, hi, hj => by
  have := nflat_get l i j (by simpa using hi) hj
  unfold nflat at this ⊢
  rw [List.flatMap_cons, List.getElem?_append_right (by rw [show x.val.length = 5 from rfl]; omega), show x.val.length = 5 from rfl, show (i + 1) * 5 + j - 5 = i * 5 + j by omega, this]; rfl
theorem nflat_set : ∀ (l : List Nd) (i : Nat) (t : Bs) (hi : i < l.length), nflat (l.set i { l[i] with text := t }) = (nflat l).set (i * 5 + 2) (encS t)
 | x :: l, 0, t, hi => rfl
 | x :: l, i + 1, t, hi => by
  have := nflat_set l i t (by simpa using hi)
  unfold nflat at this ⊢
  simp only [List.set_cons_succ, List.getElem_cons_succ, List.flatMap_cons]
  rw [this, List.set_append_right _ _ (by rw [show x.val.length = 5 from rfl]; omega), show x.val.length = 5 from rfl, show (i + 1) * 5 + 2 - 5 = i * 5 + 2 by omega]
theorem cellsFrom_all {c : Tree Value} : ∀ (k o : Nat) (L : List Value), L.length = k → (∀ i, i < k → c.get (o + i) = L[i]?) → cellsFrom c o k = some L
 | 0, o, L, hl, h => by rw [List.length_eq_zero_iff.1 hl]; rfl
 | k + 1, o, [], hl, h => by simp at hl
 | k + 1, o, x :: L, hl, h => by
  have h0 := h 0 (by omega)
  rw [Nat.add_zero, List.getElem?_cons_zero] at h0
  rw [cellsFrom, h0, cellsFrom_all k (o + 1) L (by simpa using hl) fun i hi => by
   have := h (i + 1) (by omega)
   rw [List.getElem?_cons_succ] at this
   rw [← this]; congr 1; omega]
theorem Nodes.cells {m : Mem} {b off : Nat} {l : List Nd} (h : Nodes m b off l) (cap : Nat) : effect.cellsIn m 5 (.slice (some ⟨b, off, none⟩) l.length cap) = some (l.length, nflat l) := by
 obtain ⟨n, c, ty, kd, h1, h2, h3⟩ := h
 have hc : cellsFrom c off (l.length * 5) = some (nflat l) := cellsFrom_all _ _ _ (nflat_len l) fun i hi => by
  have := h3 (i / 5) (i % 5) (by omega) (by omega)
  rw [show off + i / 5 * 5 + i % 5 = off + i by omega] at this
  rw [this, ← nflat_get l (i / 5) (i % 5) (by omega) (by omega)]
  congr 1; omega
 simp only [effect.cellsIn, h1, Nat.ble_eq_true_of_le h2, cond_true, hc]
theorem nflat_one (l : List Nd) : (nflat l).all oneCell = true := by
 unfold nflat
 rw [List.all_flatMap]
 exact List.all_eq_true.2 fun x _ => rfl
theorem sl_nodes {X : Nat → Prop} {m : Mem} {nb n cap : Nat} {l : List Nd} (h : Sl X m (.slice (some ⟨nb, 0, none⟩) n cap) 43 5 (nflat l)) : Nodes m nb 0 l := by
 rcases h with ⟨h, -⟩ | ⟨b, cap', r, n', h1, h2, ⟨h3, c, h4, h5⟩, h6, h7, h8⟩
 ·cases h
 ·cases h1
  have hl := congrArg List.length h8
  rw [nflat_len, List.length_take] at hl
  refine ⟨r.length, c, 43, 0, h4, by omega, fun i j hi hj => ?_⟩
  have := nflat_get l i j hi hj
  rw [h8, List.getElem?_take_of_lt (by omega)] at this
  rw [show 0 + i * 5 + j = i * 5 + j by omega, h5 _ (by omega), this]
attribute [local irreducible] quiet allocs effect wp ret wpO Runs Act.tmp Act.eval fin results Tree.set binOp loadAt storeAt target wanted cellsFrom

set_option maxHeartbeats 2000000 in
theorem renamed16 (b off cap : Nat) (l : List Nd) (hl : l.length ≤ 400) (hne : l ≠ []) (ht : ∀ x ∈ l, x.text.length ≤ 140737488351232) (m : Mem) (hN : Nodes m b off l) (hbn : b < m.next) :
  Runs evEnv 16 [.slice (some ⟨b, off, none⟩) l.length cap, encS q9] m fun v m' => Keep (fun c => c < m.next) [43] m m' ∧ ∃ nb cap', v = .slice (some ⟨nb, 0, none⟩) l.length cap' ∧ Nodes m' nb 0 (l.map (rnd ren)) ∧ nb < m'.next := by
 have hpos : 0 < l.length := List.length_pos_iff.2 hne
 have hblt : Nat.blt 0 l.length = true := by rw [Nat.blt_eq]; exact hpos
 refine runs_start rfl rfl rfl rfl ?_
 (repeat (first | (apply G.h; constructor <;> (first | exact Zc | apply gI | ((repeat' (first | exact Y0 | apply Y1 | ((first | apply Y4 | apply Y5); simp only [evs, Nat.reduceEqDiff, reduceIte] <;> rfl))); done) | (apply Y6; (try simp only [evs]); first | rfl)))))
 have g1 : Grow m (m.new (rowObj [] 43 0)) := (Grow.refl m).new _
 have hin := (hN.grow hbn g1).cells cap
 have hs0 : Sl (fun c => c < m.next) (m.new (rowObj [] 43 0)) (.slice (some ⟨m.next, 0, none⟩) 0 0) 43 5 [] := .inr ⟨m.next, 0, [], 0, rfl, Nat.lt_irrefl _, row_new m [] 43 0, rfl, Nat.le_refl _, rfl⟩
 have hX : ∀ c, c < m.next → c < (m.new (rowObj [] 43 0)).next := fun c hc => Nat.lt_of_lt_of_le hc g1.1
 have hfl := nflat_len l
 have hf1 := nflat_one l
 apply g_app (X := fun c => c < m.next) (l0 := []) (new := nflat l) (kk := l.length)
 focus exact Rf.mk
 focus exact Rf.mk
 focus exact Rf.mk
 focus exact Rf.mk
 focus exact Rf.mk
 focus exact Rf.mk
 focus (apply Ev.mk; (simp only [evs, Nat.reduceEqDiff, reduceIte] <;> rfl))
 focus (apply Ev.mk; (simp only [evs, Nat.reduceEqDiff, reduceIte] <;> rfl))
 focus (apply Dn.mk; (simp only [evs, Nat.reduceEqDiff, reduceIte] <;> rfl))
 focus exact Hy.mk (by simp only [evs]; exact hin)
 focus exact Hy.mk (by simp only [evs]; exact hs0)
 focus exact Hy.mk (by simp only [evs]; exact hX)
 focus exact Rf.mk
 focus (rw [hblt]; exact Rf.mk)
 focus (rw [hfl]; exact Rf.mk)
 focus (rw [hf1]; exact Rf.mk)
 focus exact Om.mk (by simp; omega)
 focus exact Rf.mk
 focus exact Rf.mk
 refine Cn.mk ?_
 intro v' m3 s3 k3 o3 b3 f3
 simp only [evs, List.nil_append] at s3 k3
 have g3 : Keep (fun c => c < m.next) [43] m m3 := (Keep.grow g1).trans k3
 replace s3 : Sl (fun c => c < m.next) m3 v' 43 5 (nflat l) := s3
 obtain ⟨sa, sn, cap', rfl, hsl⟩ := s3.form (by decide)
 have hsn : sn = l.length := by omega
 subst hsn
 obtain ⟨nb, c9, r0, n0, y1, y2, -, -, y5, -⟩ := s3.at (i := 0) (by omega)
 cases y1
 have hbn3 : nb < m3.next := by
  obtain ⟨b', n', c', e', h'⟩ := f3
  cases e'; exact h'
 clear hs0 hin f3 b3 o3 k3
 (repeat (first | (apply G.h; constructor <;> (first | exact Zc | apply gI | ((repeat' (first | exact Y0 | apply Y1 | ((first | apply Y4 | apply Y5); simp only [evs, Nat.reduceEqDiff, reduceIte] <;> rfl))); done) | (apply Y6; (try simp only [evs]); first | rfl)))))
 refine ewp_loop (ι := Nat) (fun i a => (a.n = 57 ∧ a.defers = [] ∧ a.tmp 1 = encS q9 ∧ a.tmp 5 = .slice (some ⟨nb, 0, none⟩) l.length cap' ∧ a.tmp 6 = I i) ∧ Keep (fun c => c < m.next) [43] m a.m ∧ nb < a.m.next ∧ i ≤ l.length ∧ ∃ L : List Nd, L.length = l.length ∧ (∀ j (h : j < l.length), L[j]? = some (if j < i then rnd ren l[j] else l[j])) ∧ Sl (fun c => c < m.next) a.m (.slice (some ⟨nb, 0, none⟩) l.length cap') 43 5 (nflat L)) (fun i => l.length - i) 0 ?_ ?_
 ·refine ⟨(by refine ⟨?_, ?_, ?_, ?_, ?_⟩ <;> (simp only [evs, Nat.reduceEqDiff, reduceIte] <;> first | rfl | (congr 1; omega) | omega)), by simp only [evs]; exact g3, by simp only [evs]; exact hbn3, Nat.zero_le _, l, rfl, fun j h => by rw [if_neg (by omega), List.getElem?_eq_getElem h], by simp only [evs]; exact s3⟩
 rintro i a ⟨⟨qn, qd, q1, q5, q6⟩, qk, qb, hi, L, hL1, hL2, qs⟩ ih
 rcases Nat.lt_or_ge i l.length with hlt | hge
 ·have hLi : i < L.length := by omega
  have hx := hL2 i hlt
  rw [if_neg (Nat.lt_irrefl _), List.getElem?_eq_getElem hLi] at hx
  have hx := Option.some.inj hx
  have hNd := sl_nodes qs
  have hkn := hNd.kind i hLi
  have hst := hNd.str i hLi
  rw [hx] at hkn hst
  have htx := ht _ (List.getElem_mem hlt)
  have hrd : rnd ren l[i] = if l[i].kind = 19 ∨ l[i].kind = 3 ∨ l[i].kind = 12 ∨ l[i].kind = 11 then { l[i] with text := ren l[i].text } else l[i] := rfl
  have hkeep : rnd ren l[i] = l[i] → ∀ j (h : j < l.length), L[j]? = some (if j < i + 1 then rnd ren l[j] else l[j]) := fun he j h => by
   rw [hL2 j h]
   rcases Nat.lt_trichotomy j i with hj | hj | hj
   ·rw [if_pos hj, if_pos (by omega)]
   ·subst hj; rw [if_neg (Nat.lt_irrefl _), if_pos (by omega), he]
   ·rw [if_neg (by omega), if_neg (by omega)]
  have hset : ∀ y, rnd ren l[i] = y → ∀ j (h : j < l.length), (L.set i y)[j]? = some (if j < i + 1 then rnd ren l[j] else l[j]) := fun y he j h => by
   rw [List.getElem?_set]
   rcases Nat.lt_trichotomy j i with hj | hj | hj
   ·rw [if_neg (by omega), hL2 j h, if_pos hj, if_pos (by omega)]
   ·subst hj; rw [if_pos rfl, if_pos hLi, if_pos (by omega), he]
   ·rw [if_neg (by omega), hL2 j h, if_neg (by omega), if_neg (by omega)]
  have hfs := fun t => nflat_set L i t hLi
  simp only [hx] at hfs
  generalize l[i] = x at hx hkn hst htx hrd hkeep hset hfs
  obtain ⟨kd, n, tx, num, pos⟩ := x
  simp only at hkn hst htx hrd
  by_cases hd : kd = 19 ∨ kd = 3 ∨ kd = 12 ∨ kd = 11
  ·rw [if_pos hd] at hrd
   cases hpr : primI tx with
   | some pi =>
    have hpd : primD tx = I (pi : Nat) := by unfold primD; rw [hpr]
    have hre : ren tx = tx := by unfold ren; rw [hpr]; rfl
    rw [hre] at hrd
    rcases (show kd = 19 ∨ (kd ≠ 19 ∧ kd = 3) ∨ (kd ≠ 19 ∧ kd ≠ 3 ∧ kd = 12) ∨ (kd ≠ 19 ∧ kd ≠ 3 ∧ kd ≠ 12 ∧ kd = 11) by omega) with h1 | ⟨h1, h2⟩ | ⟨h1, h2, h3⟩ | ⟨h1, h2, h3, h4⟩
    all_goals
     (repeat (first | (apply G.h; constructor <;> (first | exact Zc | apply gI | ((repeat' (first | exact Y0 | apply Y1 | ((first | apply Y4 | apply Y5); simp only [evs, Nat.reduceEqDiff, reduceIte, qn, qd, q1, q5, q6] <;> rfl))); done) | (apply Y6; (try simp only [evs, qn, qd, q1, q5, q6]); first | exact hkn | exact hst)))))
     ((first | apply g_run | apply g_run0) <;> (first | ((repeat' (first | exact Y0 | apply Y1 | exact Y2 | apply Y3 | ((first | apply Y4 | apply Y5); simp only [evs, Nat.reduceEqDiff, reduceIte, qn, qd, q1, q5, q6] <;> rfl))); done) | exact Rn.mk (prim17 tx _) | apply Cn.mk))
     rintro v m4 ⟨rfl, g4⟩
     rw [hpd]
     simp only [evs] at g4
     (repeat (first | (apply G.h; constructor <;> (first | exact Zc | apply gI | ((repeat' (first | exact Y0 | apply Y1 | ((first | apply Y4 | apply Y5); simp only [evs, Nat.reduceEqDiff, reduceIte, qn, qd, q1, q5, q6] <;> rfl))); done) | (apply Y6; (try simp only [evs, qn, qd, q1, q5, q6]); first | rfl)))))
     refine ih (i + 1) _ ⟨(by refine ⟨?_, ?_, ?_, ?_, ?_⟩ <;> (simp only [evs, Nat.reduceEqDiff, reduceIte, qn, qd, q1, q5, q6] <;> first | rfl | (congr 1; omega) | omega)), by simp only [evs]; exact qk.trans (Keep.grow g4), by simp only [evs]; exact Nat.lt_of_lt_of_le qb g4.1, hlt, L, hL1, hkeep hrd, by simp only [evs]; exact qs.grow g4⟩ (by omega)
   | none =>
    have hpd : primD tx = I (-1) := by unfold primD; rw [hpr]
    have hre : ren tx = tx ++ q9 := ren_prim hpr
    rw [hre] at hrd
    have hcat : tx.length + q9.length ≤ 4611686018427387904 := by show tx.length + 3 ≤ _; omega
    rcases (show kd = 19 ∨ (kd ≠ 19 ∧ kd = 3) ∨ (kd ≠ 19 ∧ kd ≠ 3 ∧ kd = 12) ∨ (kd ≠ 19 ∧ kd ≠ 3 ∧ kd ≠ 12 ∧ kd = 11) by omega) with h1 | ⟨h1, h2⟩ | ⟨h1, h2, h3⟩ | ⟨h1, h2, h3, h4⟩
    all_goals
     (repeat (first | (apply G.h; constructor <;> (first | exact Zc | apply gI | ((repeat' (first | exact Y0 | apply Y1 | ((first | apply Y4 | apply Y5); simp only [evs, Nat.reduceEqDiff, reduceIte, qn, qd, q1, q5, q6] <;> rfl))); done) | (apply Y6; (try simp only [evs, qn, qd, q1, q5, q6]); first | exact hkn | exact hst)))))
     ((first | apply g_run | apply g_run0) <;> (first | ((repeat' (first | exact Y0 | apply Y1 | exact Y2 | apply Y3 | ((first | apply Y4 | apply Y5); simp only [evs, Nat.reduceEqDiff, reduceIte, qn, qd, q1, q5, q6] <;> rfl))); done) | exact Rn.mk (prim17 tx _) | apply Cn.mk))
     rintro v m4 ⟨rfl, g4⟩
     rw [hpd]
     simp only [evs] at g4
     have hst4 := (hNd.grow qb g4).str i hLi
     rw [hx] at hst4
     have s4 := qs.grow g4
     obtain ⟨nb', cap'', r4, n4, z1, z2, z3, z4, z5, z6, z7⟩ := s4.at (i := i * 5 + 2) (by rw [nflat_len]; omega)
     cases z1
     have hrl : 0 + i * 5 + 2 + 1 ≤ r4.length := by omega
     (repeat (first | (apply G.h; constructor <;> (first | exact Zc | apply gI | ((repeat' (first | exact Y0 | apply Y1 | ((first | apply Y4 | apply Y5); simp only [evs, Nat.reduceEqDiff, reduceIte, qn, qd, q1, q5, q6] <;> rfl))); done) | (apply Y6; (try simp only [evs, qn, qd, q1, q5, q6]); first | exact hst4)))))
     (apply g_stR <;> (first | exact Zc | apply gI | ((repeat' (first | exact Y0 | apply Y1 | exact Y2 | apply Y3 | ((first | apply Y4 | apply Y5); simp only [evs, Nat.reduceEqDiff, reduceIte, qn, qd, q1, q5, q6] <;> rfl))); done) | (apply Hy.mk; (try simp only [evs, qn, qd, q1, q5, q6]); first | exact z3 | exact hrl | assumption) | (apply Om.mk; first | exact z3 | exact hrl) | (apply Y6; (try simp only [evs, qn, qd, q1, q5, q6]); first | rfl) | apply Cn.mk))
     intro m5 r5 o5 n5; simp only [evs, qn, qd, q1, q5, q6] at r5 o5 n5
     replace r5 : Row m5 nb (r4.set (0 + i * 5 + 2) (encS (tx ++ q9))) 43 0 := r5
     rw [show 0 + i * 5 + 2 = i * 5 + 2 by omega] at r5
     have k5 : Keep (fun c => c < m.next) [43] m4 m5 := Keep.row z3 y2 (by simp) o5 n5
     have s5 := s4.stored z3 (m' := m5) (o := i * 5 + 2) (w := encS (tx ++ q9)) r5 (by rw [nflat_len]; omega)
     rw [← hfs] at s5
     (repeat (first | (apply G.h; constructor <;> (first | exact Zc | apply gI | ((repeat' (first | exact Y0 | apply Y1 | ((first | apply Y4 | apply Y5); simp only [evs, Nat.reduceEqDiff, reduceIte, qn, qd, q1, q5, q6] <;> rfl))); done) | (apply Y6; (try simp only [evs, qn, qd, q1, q5, q6]); first | rfl)))))
     refine ih (i + 1) _ ⟨(by refine ⟨?_, ?_, ?_, ?_, ?_⟩ <;> (simp only [evs, Nat.reduceEqDiff, reduceIte, qn, qd, q1, q5, q6] <;> first | rfl | (congr 1; omega) | omega)), by simp only [evs]; exact (qk.trans (Keep.grow g4)).trans k5, by simp only [evs]; rw [n5]; exact Nat.lt_of_lt_of_le qb g4.1, hlt, L.set i _, by rw [List.length_set]; exact hL1, hset _ hrd, by simp only [evs]; exact s5⟩ (by omega)
  ·rw [if_neg hd] at hrd
   have h1 : kd ≠ 19 := by omega
   have h2 : kd ≠ 3 := by omega
   have h3 : kd ≠ 12 := by omega
   have h4 : kd ≠ 11 := by omega
   (repeat (first | (apply G.h; constructor <;> (first | exact Zc | apply gI | ((repeat' (first | exact Y0 | apply Y1 | ((first | apply Y4 | apply Y5); simp only [evs, Nat.reduceEqDiff, reduceIte, qn, qd, q1, q5, q6] <;> rfl))); done) | (apply Y6; (try simp only [evs, qn, qd, q1, q5, q6]); first | exact hkn | exact hst)))))
   refine ih (i + 1) _ ⟨(by refine ⟨?_, ?_, ?_, ?_, ?_⟩ <;> (simp only [evs, Nat.reduceEqDiff, reduceIte, qn, qd, q1, q5, q6] <;> first | rfl | (congr 1; omega) | omega)), by simp only [evs]; exact qk, by simp only [evs]; exact qb, hlt, L, hL1, hkeep hrd, by simp only [evs]; exact qs⟩ (by omega)
 ·obtain rfl : i = l.length := by omega
  (repeat (first | (apply G.h; constructor <;> (first | exact Zc | apply gI | ((repeat' (first | exact Y0 | apply Y1 | ((first | apply Y4 | apply Y5); simp only [evs, Nat.reduceEqDiff, reduceIte, qn, qd, q1, q5, q6] <;> rfl))); done) | (apply Y6; (try simp only [evs, qn, qd, q1, q5, q6]); first | rfl)))))
  (refine g_fin (by repeat' first | exact Rs.nil | apply Rs.cons | (apply Y4; simp only [evs, Nat.reduceEqDiff, reduceIte, qn, qd, q1, q5, q6] <;> rfl)) (by (simp only [evs, Nat.reduceEqDiff, reduceIte, qn, qd, q1, q5, q6] <;> first | rfl | (congr 1; omega) | omega)) ?_)
  have hLe : L = l.map (rnd ren) := by
   apply List.ext_getElem?
   intro j
   rcases Nat.lt_or_ge j l.length with hj | hj
   ·rw [hL2 j hj, if_pos hj, List.getElem?_map, List.getElem?_eq_getElem hj]; rfl
   ·rw [List.getElem?_eq_none (by omega), List.getElem?_eq_none (by rw [List.length_map]; omega)]
  rw [hLe] at qs
  exact ⟨by simp only [evs]; exact qk, nb, cap', rfl, by simp only [evs]; exact sl_nodes qs, by simp only [evs]; exact qb⟩
end Go.Proofs.YtihokakelnfdgaaDoor
