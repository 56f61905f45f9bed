/- Part of a verified evaluator of the model's programs and of runs by it: SD SN0 XA LB XB LC. -/
import Derived.Test.YthhcnfgeacnfiaaGreatDoorXAA
import Derived.Test.YthhcnfgeacnfiaaGreatDoorEvF
import Derived.Test.YthhcnfgeacnfiaaGreatDoorEvG
namespace Go.Proofs.YthhcnfgeacnfiaaGreatDoor
open Go Go.Ev
set_option maxRecDepth 100000
set_option linter.unusedVariables false
set_option linter.unusedSimpArgs false
set_option pp.maxSteps 1500
attribute [local irreducible] quiet allocs effect wp ret wpO Runs Act.tmp Act.eval fin results Tree.set binOp loadAt storeAt target wanted cellsFrom

theorem len_w (st : List WE) (w : WE) : (w :: st).length = st.length + 1 := List.length_cons

def rootNd : Nd := ⟨0, 1, [], 0, 0⟩

set_option maxHeartbeats 4000000 in
theorem check14 (b off cap : Nat) (l : List Nd) (hok : ∀ x ∈ l, x.ok ∧ x.text.length ≤ 9223372036854775807) (hl : l.length ≤ 100000) (m : Mem) (hN : Nodes m b off l) (hbn : b < m.next) (h0 : l ≠ []) :
  Runs evEnv 14 [.slice (some ⟨b, off, none⟩) l.length cap] m fun v m' => Grow m m' ∧ ∃ p e : Nat, v = .tuple ⟨[.int .i64 p, .int .i64 e]⟩ ∧ (e = 0 ↔ okProg l = true) := by
 have hpos : 0 < l.length := List.length_pos_iff.2 h0
 refine runs_start rfl rfl rfl rfl ?_
 (repeat (first | (apply G.h; constructor <;> (first | exact Zc | apply gI | ((repeat' (first | exact Y0 | apply Y1 | ((first | apply Y4 | apply Y5); simp only [evs, Nat.reduceEqDiff, reduceIte] <;> rfl))); done) | (apply Y6; (try simp only [evs]); first | rfl)))))
 refine ewp_loop (ι := Nat × Nat × Nat × List WE × Mem) (fun i a => a.n = 134 ∧ a.defers = [] ∧ a.m = i.2.2.2.2 ∧ Grow m i.2.2.2.2 ∧ m.next ≤ i.2.1 ∧ Stk i.2.2.2.2 i.2.1 i.2.2.1 i.2.2.2.1 ∧ (∀ w ∈ i.2.2.2.1, PL i.2.2.2.2 w) ∧
   a.tmp 0 = .slice (some ⟨b, off, none⟩) l.length cap ∧ a.tmp 20 = .slice (some ⟨b, off, none⟩) l.length cap ∧ a.tmp 21 = .int .i64 l.length ∧ a.tmp 22 = .int .i64 i.1 ∧ a.tmp 4 = .slice (some ⟨i.2.1, 0, none⟩) i.2.2.2.1.length i.2.2.1 ∧
   i.1 ≤ l.length ∧ i.2.2.2.1.length ≤ i.1 + 1 ∧ okProg l = accept (l.drop i.1) (i.2.2.2.1.map WE.dc)) (fun i => l.length - i.1) (0, m.next + 1, 1, [⟨rootNd, .slice (some ⟨m.next, 0, none⟩) 1 1, 0, root⟩], (m.new (rowObj [.int .i64 0] 3 0)).new (rowObj (WE.enc ⟨rootNd, .slice (some ⟨m.next, 0, none⟩) 1 1, 0, root⟩) 91 0)) ?_ ?_
 ·refine ⟨by (simp only [evs, Nat.reduceEqDiff, reduceIte] <;> first | rfl | (congr 1; omega) | omega), by (simp only [evs, Nat.reduceEqDiff, reduceIte] <;> first | rfl | (congr 1; omega) | omega), by (simp only [evs, Nat.reduceEqDiff, reduceIte] <;> first | rfl | (congr 1; omega) | omega), ((Grow.refl m).new _).new _, Nat.le_succ _, ⟨_, row_new _ _ _ _, rfl, Nat.le_refl _, rfl⟩, ?_, by (simp only [evs, Nat.reduceEqDiff, reduceIte] <;> first | rfl | (congr 1; omega) | omega), by (simp only [evs, Nat.reduceEqDiff, reduceIte] <;> first | rfl | (congr 1; omega) | omega), by (simp only [evs, Nat.reduceEqDiff, reduceIte] <;> first | rfl | (congr 1; omega) | omega), by (simp only [evs, Nat.reduceEqDiff, reduceIte] <;> first | rfl | (congr 1; omega) | omega), by (simp only [evs, Nat.reduceEqDiff, reduceIte] <;> first | rfl | (congr 1; omega) | omega), Nat.zero_le _, Nat.le_refl _, by simp only [List.drop_zero]; rfl⟩
  intro w hw
  obtain rfl := List.mem_singleton.1 hw
  refine ⟨rfl, (by decide : (0 : Int) ≤ 1), (by decide : (1 : Int) ≤ 9223372036854775807), rfl, fun c _ => Nat.zero_le _, .inr ⟨m.next, 1, [0], [.int .i64 0], rfl, (row_new _ _ _ _).keep_new _, ?_, rfl, ?_⟩⟩
  ·intro i h; (rcases i with _ | i) <;> first | rfl | (simp only [List.length_cons, List.length_nil] at h; omega)
  ·intro i h; (rcases i with _ | i) <;> first | rfl | (simp only [List.length_cons, List.length_nil] at h; omega)
 rintro ⟨i, wb, wc, st, mi⟩ a ⟨hn, hd, hm, hg, hwb, hst, hpl, t0, t20, t21, t22, t4, hil, hsl, hacc⟩ ih
 simp only at hn hd hm hg hwb hst hpl t0 t20 t21 t22 t4 hil hsl hacc ih
 rcases Nat.lt_or_ge i l.length with hlt | hge
 ·have hx := (hN.grow hbn hg).all i hlt
  have hxok := hok l[i] (List.getElem_mem hlt)
  have hdrop : l.drop i = l[i] :: l.drop (i + 1) := List.drop_eq_getElem_cons hlt
  generalize l[i] = x at hx hxok hdrop
  obtain ⟨hxo, hxt⟩ := hxok
  (repeat (first | (apply G.h; constructor <;> (first | exact Zc | apply gI | ((repeat' (first | exact Y0 | apply Y1 | ((first | apply Y4 | apply Y5); simp only [evs, Nat.reduceEqDiff, reduceIte, hn, hd, hm, t0, t20, t21, t22, t4] <;> rfl))); done) | (apply Y6; (try simp only [evs, hn, hd, hm, t0, t20, t21, t22, t4]); first | exact hx)))))
  obtain ⟨m2, hst2, hrow, hoth, hnx⟩ := (row_new mi zeroNode 58 0).fill (E := evEnv) (t := 58) (k := 5) (v := .agg ⟨x.val⟩) (by decide) rfl rfl rfl rfl rfl
  have hg2 : Grow mi m2 := ((Grow.refl mi).new _).wrote (Nat.le_refl _) hoth hnx
  apply ewpO_store
  focus exact want_none
  focus (simp only [evs, Nat.reduceEqDiff, reduceIte] <;> rfl)
  focus (simp only [evs, Nat.reduceEqDiff, reduceIte] <;> rfl)
  focus (simp only [evs, hm]; exact hst2)
  (repeat (first | (apply G.h; constructor <;> (first | exact Zc | apply gI | ((repeat' (first | exact Y0 | apply Y1 | ((first | apply Y4 | apply Y5); simp only [evs, Nat.reduceEqDiff, reduceIte, hn, hd, hm, t0, t20, t21, t22, t4] <;> rfl))); done) | (apply Y6; (try simp only [evs, hn, hd, hm, t0, t20, t21, t22, t4]); first | rfl)))))
  refine ewp_loop (ι := List WE) (fun st a => a.n = 134 ∧ a.defers = [] ∧ a.m = m2 ∧ a.tmp 0 = .slice (some ⟨b, off, none⟩) l.length cap ∧ a.tmp 20 = .slice (some ⟨b, off, none⟩) l.length cap ∧ a.tmp 21 = .int .i64 l.length ∧ a.tmp 22 = .int .i64 i ∧ a.tmp 4 = .slice (some ⟨wb, 0, none⟩) st.length wc ∧ a.tmp 5 = .int .i64 i ∧ a.tmp 6 = .pointer (some ⟨mi.next, 0, none⟩) ∧
   Stk m2 wb wc st ∧ (∀ w ∈ st, PL m2 w) ∧ st.length ≤ i + 1 ∧ okProg l = accept (l.drop i) (st.map WE.dc)) (fun st => st.length) st ?_ ?_
  ·exact ⟨by (simp only [evs, Nat.reduceEqDiff, reduceIte, hn, hd, hm, t0, t20, t21, t22, t4] <;> first | rfl | (congr 1; omega) | omega), by (simp only [evs, Nat.reduceEqDiff, reduceIte, hn, hd, hm, t0, t20, t21, t22, t4] <;> first | rfl | (congr 1; omega) | omega), by (simp only [evs, Nat.reduceEqDiff, reduceIte, hn, hd, hm, t0, t20, t21, t22, t4] <;> first | rfl | (congr 1; omega) | omega), by (simp only [evs, Nat.reduceEqDiff, reduceIte, hn, hd, hm, t0, t20, t21, t22, t4] <;> first | rfl | (congr 1; omega) | omega), by (simp only [evs, Nat.reduceEqDiff, reduceIte, hn, hd, hm, t0, t20, t21, t22, t4] <;> first | rfl | (congr 1; omega) | omega), by (simp only [evs, Nat.reduceEqDiff, reduceIte, hn, hd, hm, t0, t20, t21, t22, t4] <;> first | rfl | (congr 1; omega) | omega), by (simp only [evs, Nat.reduceEqDiff, reduceIte, hn, hd, hm, t0, t20, t21, t22, t4] <;> first | rfl | (congr 1; omega) | omega), by (simp only [evs, Nat.reduceEqDiff, reduceIte, hn, hd, hm, t0, t20, t21, t22, t4] <;> first | rfl | (congr 1; omega) | omega), by (simp only [evs, Nat.reduceEqDiff, reduceIte, hn, hd, hm, t0, t20, t21, t22, t4] <;> first | rfl | (congr 1; omega) | omega), by (simp only [evs, Nat.reduceEqDiff, reduceIte, hn, hd, hm, t0, t20, t21, t22, t4] <;> first | rfl | (congr 1; omega) | omega), hst.grow hg2, fun w hw => (hpl w hw).grow hg2, hsl, hacc⟩
  clear hst hpl hsl hacc t4 st
  rintro st a ⟨jn, jd, jm, j0, j20, j21, j22, j4, j5, j6, hst, hpl, hsl, hacc⟩ ih2
  rw [hdrop] at hacc
  cases st with
  | nil =>
   have hz : ([] : List WE).length = 0 := rfl
   (repeat (first | (apply G.h; constructor <;> (first | exact Zc | apply gI | ((repeat' (first | exact Y0 | apply Y1 | ((first | apply Y4 | apply Y5); simp only [evs, Nat.reduceEqDiff, reduceIte, jn, jd, jm, j0, j20, j21, j22, j4, j5, j6] <;> rfl))); done) | (apply Y6; (try simp only [evs, jn, jd, jm, j0, j20, j21, j22, j4, j5, j6]); first | rfl)))))
   (refine g_fin (by repeat' first | exact Rs.nil | apply Rs.cons | (apply Y4; simp only [evs, Nat.reduceEqDiff, reduceIte, jn, jd, jm, j0, j20, j21, j22, j4, j5, j6] <;> rfl)) (by (simp only [evs, Nat.reduceEqDiff, reduceIte, jn, jd, jm, j0, j20, j21, j22, j4, j5, j6] <;> first | rfl | (congr 1; omega) | omega)) ?_)
   refine ⟨by simp only [evs, jm]; exact hg.trans hg2, i, 6, rfl, ?_⟩
   rw [hacc]
   simp [accept, pop]
  | cons w st =>
   have hlw : (w :: st).length = st.length + 1 := List.length_cons
   obtain ⟨r, hr, hrl, hr7, hrf⟩ := hst.top
   have r5 : r[0 + st.length * 7 + 5]? = some w.lv := hrf 5 (by omega)
   have r6 : r[0 + st.length * 7 + 6]? = some (.int .i64 w.c) := hrf 6 (by omega)
   have r1 : r[0 + st.length * 7 + 1]? = some (.int .i64 w.x.n) := hrf 1 (by omega)
   have hcap : st.length + 1 ≤ wc := by omega
   have hplw := hpl w List.mem_cons_self
   obtain ⟨p1, p2, p3, p4, p5, p6⟩ := hplw
   by_cases hcn : (w.c : Int) = w.x.n
   ·(repeat (first | (apply G.h; constructor <;> (first | exact Zc | apply gI | ((repeat' (first | exact Y0 | apply Y1 | ((first | apply Y4 | apply Y5); simp only [evs, Nat.reduceEqDiff, reduceIte, jn, jd, jm, j0, j20, j21, j22, j4, j5, j6] <;> rfl))); done) | (apply Y6; (try simp only [evs, jn, jd, jm, j0, j20, j21, j22, j4, j5, j6]); first | exact hr.load1 rfl rfl r6 | exact hr.load1 rfl rfl r1)))))
    refine ih2 st _ ?_ (by rw [hlw]; omega)
    refine ⟨by (simp only [evs, Nat.reduceEqDiff, reduceIte, jn, jd, jm, j0, j20, j21, j22, j4, j5, j6] <;> first | rfl | (congr 1; omega) | omega), by (simp only [evs, Nat.reduceEqDiff, reduceIte, jn, jd, jm, j0, j20, j21, j22, j4, j5, j6] <;> first | rfl | (congr 1; omega) | omega), by (simp only [evs, Nat.reduceEqDiff, reduceIte, jn, jd, jm, j0, j20, j21, j22, j4, j5, j6] <;> first | rfl | (congr 1; omega) | omega), by (simp only [evs, Nat.reduceEqDiff, reduceIte, jn, jd, jm, j0, j20, j21, j22, j4, j5, j6] <;> first | rfl | (congr 1; omega) | omega), by (simp only [evs, Nat.reduceEqDiff, reduceIte, jn, jd, jm, j0, j20, j21, j22, j4, j5, j6] <;> first | rfl | (congr 1; omega) | omega), by (simp only [evs, Nat.reduceEqDiff, reduceIte, jn, jd, jm, j0, j20, j21, j22, j4, j5, j6] <;> first | rfl | (congr 1; omega) | omega), by (simp only [evs, Nat.reduceEqDiff, reduceIte, jn, jd, jm, j0, j20, j21, j22, j4, j5, j6] <;> first | rfl | (congr 1; omega) | omega), by (simp only [evs, Nat.reduceEqDiff, reduceIte, jn, jd, jm, j0, j20, j21, j22, j4, j5, j6] <;> first | rfl | (congr 1; omega) | omega), by (simp only [evs, Nat.reduceEqDiff, reduceIte, jn, jd, jm, j0, j20, j21, j22, j4, j5, j6] <;> first | rfl | (congr 1; omega) | omega), by (simp only [evs, Nat.reduceEqDiff, reduceIte, jn, jd, jm, j0, j20, j21, j22, j4, j5, j6] <;> first | rfl | (congr 1; omega) | omega), hst.pop, fun w' hw' => hpl w' (List.mem_cons_of_mem _ hw'), by omega, ?_⟩
    rw [hacc, ← hdrop, List.map_cons]
    exact accept_pop _ _ _ _ (show (w.c : Int) = w.du.n by omega)
   ·have hclt : (w.c : Int) < w.x.n := by omega
    have hclt' : (w.c : Int) < w.du.n := by omega
    rw [List.map_cons, show w.dc = (w.du, w.c) from rfl, accept_cons _ _ _ _ _ hclt'] at hacc
    (repeat (first | (apply G.h; constructor <;> (first | exact Zc | apply gI | ((repeat' (first | exact Y0 | apply Y1 | ((first | apply Y4 | apply Y5); simp only [evs, Nat.reduceEqDiff, reduceIte, jn, jd, jm, j0, j20, j21, j22, j4, j5, j6] <;> rfl))); done) | (apply Y6; (try simp only [evs, jn, jd, jm, j0, j20, j21, j22, j4, j5, j6]); first | exact hr.load1 rfl rfl r6 | exact hr.load1 rfl rfl r1)))))
    have hagg : loadAt evEnv m2 58 wb (0 + st.length * 7) = some (.agg ⟨w.x.val⟩) := by
     refine hr.loadA (k := 5) rfl rfl rfl (by omega) ?_
     apply List.ext_getElem?
     intro f
     by_cases hf5 : f < 5
     ·rw [List.getElem?_take_of_lt hf5, List.getElem?_drop, hrf f (by omega)]
      unfold WE.enc
      rw [List.getElem?_append_left (show f < w.x.val.length from hf5)]
     ·rw [List.getElem?_eq_none (by rw [List.length_take]; omega), List.getElem?_eq_none (show w.x.val.length ≤ f by show 5 ≤ f; omega)]
    refine ewpO_cut (fun a' => ∃ m3, Grow m2 m3 ∧ a'.n = 134 ∧ a'.defers = [] ∧ a'.m = m3 ∧ a'.tmp 0 = .slice (some ⟨b, off, none⟩) l.length cap ∧ a'.tmp 20 = .slice (some ⟨b, off, none⟩) l.length cap ∧ a'.tmp 21 = .int .i64 l.length ∧ a'.tmp 22 = .int .i64 i ∧ a'.tmp 4 = .slice (some ⟨wb, 0, none⟩) (w :: st).length wc ∧ a'.tmp 5 = .int .i64 i ∧ a'.tmp 6 = .pointer (some ⟨mi.next, 0, none⟩) ∧
     a'.tmp 7 = .pointer (some ⟨wb, 0 + st.length * 7, none⟩) ∧ a'.tmp 8 = .int .i64 (w.du.pl w.c : Nat)) ?_ ?_
    ·clear ih ih2
     rcases p6 with ⟨hlv, hA⟩ | ⟨kb, kc, ks, rk, hlv, hk, hk2, hk3, hk4⟩
     ·rw [hlv] at r5
      (repeat (first | (apply G.h; constructor <;> (first | exact Zc | apply gI | ((repeat' (first | exact Y0 | apply Y1 | ((first | apply Y4 | apply Y5); simp only [evs, Nat.reduceEqDiff, reduceIte, jn, jd, jm, j0, j20, j21, j22, j4, j5, j6] <;> rfl))); done) | (apply Y6; (try simp only [evs, jn, jd, jm, j0, j20, j21, j22, j4, j5, j6]); first | exact hr.load1 rfl rfl r6 | exact hr.load1 rfl rfl r1 | exact hr.load1 rfl rfl r5 | exact hagg)))))
      ((first | apply g_run | apply g_run0) <;> (first | ((repeat' (first | exact Y0 | apply Y1 | exact Y2 | apply Y3 | ((first | apply Y4 | apply Y5); simp only [evs, Nat.reduceEqDiff, reduceIte, jn, jd, jm, j0, j20, j21, j22, j4, j5, j6] <;> rfl))); done) | exact Rn.mk (place28 w.x w.c _ (by omega) p3) | apply Cn.mk))
      rintro v m3 ⟨rfl, hg3⟩
      simp only [evs, jm] at hg3
      (repeat (first | (apply G.h; constructor <;> (first | exact Zc | apply gI | ((repeat' (first | exact Y0 | apply Y1 | ((first | apply Y4 | apply Y5); simp only [evs, Nat.reduceEqDiff, reduceIte, jn, jd, jm, j0, j20, j21, j22, j4, j5, j6] <;> rfl))); done) | (apply Y6; (try simp only [evs, jn, jd, jm, j0, j20, j21, j22, j4, j5, j6]); first | rfl)))))
      refine eret_nil ?_
      refine ⟨rfl, m3, hg3, by (simp only [evs, Nat.reduceEqDiff, reduceIte, jn, jd, jm, j0, j20, j21, j22, j4, j5, j6] <;> first | rfl | (congr 1; omega) | omega), by (simp only [evs, Nat.reduceEqDiff, reduceIte, jn, jd, jm, j0, j20, j21, j22, j4, j5, j6] <;> first | rfl | (congr 1; omega) | omega), by (simp only [evs, Nat.reduceEqDiff, reduceIte, jn, jd, jm, j0, j20, j21, j22, j4, j5, j6] <;> first | rfl | (congr 1; omega) | omega), by (simp only [evs, Nat.reduceEqDiff, reduceIte, jn, jd, jm, j0, j20, j21, j22, j4, j5, j6] <;> first | rfl | (congr 1; omega) | omega), by (simp only [evs, Nat.reduceEqDiff, reduceIte, jn, jd, jm, j0, j20, j21, j22, j4, j5, j6] <;> first | rfl | (congr 1; omega) | omega), by (simp only [evs, Nat.reduceEqDiff, reduceIte, jn, jd, jm, j0, j20, j21, j22, j4, j5, j6] <;> first | rfl | (congr 1; omega) | omega), by (simp only [evs, Nat.reduceEqDiff, reduceIte, jn, jd, jm, j0, j20, j21, j22, j4, j5, j6] <;> first | rfl | (congr 1; omega) | omega), by (simp only [evs, Nat.reduceEqDiff, reduceIte, jn, jd, jm, j0, j20, j21, j22, j4, j5, j6] <;> first | rfl | (congr 1; omega) | omega), by (simp only [evs, Nat.reduceEqDiff, reduceIte, jn, jd, jm, j0, j20, j21, j22, j4, j5, j6] <;> first | rfl | (congr 1; omega) | omega), by (simp only [evs, Nat.reduceEqDiff, reduceIte, jn, jd, jm, j0, j20, j21, j22, j4, j5, j6] <;> first | rfl | (congr 1; omega) | omega), by (simp only [evs, Nat.reduceEqDiff, reduceIte, jn, jd, jm, j0, j20, j21, j22, j4, j5, j6] <;> first | rfl | (congr 1; omega) | omega), ?_⟩
      rw [← hA w.c hclt]
      (simp only [evs, Nat.reduceEqDiff, reduceIte, jn, jd, jm, j0, j20, j21, j22, j4, j5, j6] <;> first | rfl | (congr 1; omega) | omega)
     ·rw [hlv] at r5
      have hci : w.c < ks.length := by omega
      have hk5 : rk[0 + w.c * 1]? = some (.int .i64 ks[w.c]) := by rw [show 0 + w.c * 1 = w.c by omega]; exact hk2 w.c hci
      (repeat (first | (apply G.h; constructor <;> (first | exact Zc | apply gI | ((repeat' (first | exact Y0 | apply Y1 | ((first | apply Y4 | apply Y5); simp only [evs, Nat.reduceEqDiff, reduceIte, jn, jd, jm, j0, j20, j21, j22, j4, j5, j6] <;> rfl))); done) | (apply Y6; (try simp only [evs, jn, jd, jm, j0, j20, j21, j22, j4, j5, j6]); first | exact hr.load1 rfl rfl r6 | exact hr.load1 rfl rfl r1 | exact hr.load1 rfl rfl r5 | exact hk.load1 rfl rfl hk5)))))
      refine eret_nil ?_
      refine ⟨rfl, m2, Grow.refl m2, by (simp only [evs, Nat.reduceEqDiff, reduceIte, jn, jd, jm, j0, j20, j21, j22, j4, j5, j6] <;> first | rfl | (congr 1; omega) | omega), by (simp only [evs, Nat.reduceEqDiff, reduceIte, jn, jd, jm, j0, j20, j21, j22, j4, j5, j6] <;> first | rfl | (congr 1; omega) | omega), by (simp only [evs, Nat.reduceEqDiff, reduceIte, jn, jd, jm, j0, j20, j21, j22, j4, j5, j6] <;> first | rfl | (congr 1; omega) | omega), by (simp only [evs, Nat.reduceEqDiff, reduceIte, jn, jd, jm, j0, j20, j21, j22, j4, j5, j6] <;> first | rfl | (congr 1; omega) | omega), by (simp only [evs, Nat.reduceEqDiff, reduceIte, jn, jd, jm, j0, j20, j21, j22, j4, j5, j6] <;> first | rfl | (congr 1; omega) | omega), by (simp only [evs, Nat.reduceEqDiff, reduceIte, jn, jd, jm, j0, j20, j21, j22, j4, j5, j6] <;> first | rfl | (congr 1; omega) | omega), by (simp only [evs, Nat.reduceEqDiff, reduceIte, jn, jd, jm, j0, j20, j21, j22, j4, j5, j6] <;> first | rfl | (congr 1; omega) | omega), by (simp only [evs, Nat.reduceEqDiff, reduceIte, jn, jd, jm, j0, j20, j21, j22, j4, j5, j6] <;> first | rfl | (congr 1; omega) | omega), by (simp only [evs, Nat.reduceEqDiff, reduceIte, jn, jd, jm, j0, j20, j21, j22, j4, j5, j6] <;> first | rfl | (congr 1; omega) | omega), by (simp only [evs, Nat.reduceEqDiff, reduceIte, jn, jd, jm, j0, j20, j21, j22, j4, j5, j6] <;> first | rfl | (congr 1; omega) | omega), by (simp only [evs, Nat.reduceEqDiff, reduceIte, jn, jd, jm, j0, j20, j21, j22, j4, j5, j6] <;> first | rfl | (congr 1; omega) | omega), ?_⟩
      rw [← hk4 w.c hci]
      (simp only [evs, Nat.reduceEqDiff, reduceIte, jn, jd, jm, j0, j20, j21, j22, j4, j5, j6] <;> first | rfl | (congr 1; omega) | omega)
    ·clear hagg jn jd jm j0 j20 j21 j22 j4 j5 j6
     rintro a ⟨m3, hg3, qn, qd, qm, q0, q20, q21, q22, q4, q5, q6, q7, q8⟩
     have hr3 := hr.grow hg3
     have hst3 := hst.grow hg3
     obtain ⟨m4, hs4, hst4, ho4, hn4⟩ := hst3.more
     have hg4 : Grow m m4 := ((hg.trans hg2).trans hg3).wrote hwb ho4 hn4
     have hb3 := hrow.grow hg3
     have hb4 : Row m4 mi.next x.val 58 0 := hb3.keep (Nat.le_of_eq hn4.symm) (ho4 _ (hb3.ne hr3 (by decide)))
     have hpl4 : ∀ w' ∈ ({ w with c := w.c + 1 } :: st : List WE), PL m4 w' := by
      have old : ∀ w' ∈ (w :: st), PL m4 w' := fun w' hw' => ((hpl w' hw').grow hg3).keep hr3 (Nat.le_of_eq hn4.symm) fun b hb _ => ho4 b hb
      intro w' hw'
      rcases List.mem_cons.1 hw' with rfl | hw'
      ·obtain ⟨z1, z2, z3, z4, z5, z6⟩ := old w List.mem_cons_self
       exact ⟨z1, show ((w.c + 1 : Nat) : Int) ≤ w.x.n by omega, z3, z4, z5, z6⟩
      ·exact old w' (List.mem_cons_of_mem _ hw')
     (repeat (first | (apply G.h; constructor <;> (first | exact Zc | apply gI | ((repeat' (first | exact Y0 | apply Y1 | ((first | apply Y4 | apply Y5); simp only [evs, Nat.reduceEqDiff, reduceIte, qn, qd, qm, q0, q20, q21, q22, q4, q5, q6, q7, q8] <;> rfl))); done) | (apply Y6; (try simp only [evs, qn, qd, qm, q0, q20, q21, q22, q4, q5, q6, q7, q8]); first | exact hr3.load1 rfl rfl r6)))))
     apply ewpO_store
     focus exact want_none
     focus (simp only [evs, Nat.reduceEqDiff, reduceIte, qn, qd, qm, q0, q20, q21, q22, q4, q5, q6, q7, q8] <;> rfl)
     focus (simp only [evs, Nat.reduceEqDiff, reduceIte, qn, qd, qm, q0, q20, q21, q22, q4, q5, q6, q7, q8] <;> rfl)
     focus (simp only [evs, qm]; exact hs4)
     (repeat (first | (apply G.h; constructor <;> (first | exact Zc | apply gI | ((repeat' (first | exact Y0 | apply Y1 | ((first | apply Y4 | apply Y5); simp only [evs, Nat.reduceEqDiff, reduceIte, qn, qd, qm, q0, q20, q21, q22, q4, q5, q6, q7, q8] <;> rfl))); done) | (apply Y6; (try simp only [evs, qn, qd, qm, q0, q20, q21, q22, q4, q5, q6, q7, q8]); first | exact hb4.load1 rfl rfl rfl)))))
     have hp7 := p5 w.c hclt
     ((first | apply g_run | apply g_run0) <;> (first | ((repeat' (first | exact Y0 | apply Y1 | exact Y2 | apply Y3 | ((first | apply Y4 | apply Y5); simp only [evs, Nat.reduceEqDiff, reduceIte, qn, qd, qm, q0, q20, q21, q22, q4, q5, q6, q7, q8] <;> rfl))); done) | exact Rn.mk (may29 _ _ _ hp7) | apply Cn.mk))
     rintro v m' ⟨rfl, rfl⟩
     cases hmay : mayB x.kind (w.du.pl w.c) with
     | false =>
      (repeat (first | (apply G.h; constructor <;> (first | exact Zc | apply gI | ((repeat' (first | exact Y0 | apply Y1 | ((first | apply Y4 | apply Y5); simp only [evs, Nat.reduceEqDiff, reduceIte, qn, qd, qm, q0, q20, q21, q22, q4, q5, q6, q7, q8, hmay] <;> rfl))); done) | (apply Y6; (try simp only [evs, qn, qd, qm, q0, q20, q21, q22, q4, q5, q6, q7, q8, hmay]); first | rfl)))))
      (refine g_fin (by repeat' first | exact Rs.nil | apply Rs.cons | (apply Y4; simp only [evs, Nat.reduceEqDiff, reduceIte, qn, qd, qm, q0, q20, q21, q22, q4, q5, q6, q7, q8, hmay] <;> rfl)) (by (simp only [evs, Nat.reduceEqDiff, reduceIte, qn, qd, qm, q0, q20, q21, q22, q4, q5, q6, q7, q8, hmay] <;> first | rfl | (congr 1; omega) | omega)) ?_)
      refine ⟨by simp only [evs]; exact hg4, i, 8, rfl, ?_⟩
      rw [hacc, hmay]
      simp
     | true =>
     obtain ⟨k1, k2⟩ := may_range hmay
     rw [hmay, Bool.true_and, ← ok_same x k1 k2] at hacc
     (repeat (first | (apply G.h; constructor <;> (first | exact Zc | apply gI | ((repeat' (first | exact Y0 | apply Y1 | ((first | apply Y4 | apply Y5); simp only [evs, Nat.reduceEqDiff, reduceIte, qn, qd, qm, q0, q20, q21, q22, q4, q5, q6, q7, q8, hmay] <;> rfl))); done) | (apply Y6; (try simp only [evs, qn, qd, qm, q0, q20, q21, q22, q4, q5, q6, q7, q8, hmay]); first | exact hb4.loadA rfl rfl rfl (Nat.le_refl 5) rfl)))))
     ((first | apply g_run | apply g_run0) <;> (first | ((repeat' (first | exact Y0 | apply Y1 | exact Y2 | apply Y3 | ((first | apply Y4 | apply Y5); simp only [evs, Nat.reduceEqDiff, reduceIte, qn, qd, qm, q0, q20, q21, q22, q4, q5, q6, q7, q8, hmay] <;> rfl))); done) | exact Rn.mk (places30 x _ hxo k1 k2) | apply Cn.mk))
     rintro v m5 ⟨lv, rfl, hg5, hlv⟩
     simp only [evs] at hg5
     have hb5 := hb4.grow hg5
     cases hokn : okN x with
     | false =>
      (repeat (first | (apply G.h; constructor <;> (first | exact Zc | apply gI | ((repeat' (first | exact Y0 | apply Y1 | ((first | apply Y4 | apply Y5); simp only [evs, Nat.reduceEqDiff, reduceIte, qn, qd, qm, q0, q20, q21, q22, q4, q5, q6, q7, q8, hmay, hokn] <;> rfl))); done) | (apply Y6; (try simp only [evs, qn, qd, qm, q0, q20, q21, q22, q4, q5, q6, q7, q8, hmay, hokn]); first | rfl)))))
      (refine g_fin (by repeat' first | exact Rs.nil | apply Rs.cons | (apply Y4; simp only [evs, Nat.reduceEqDiff, reduceIte, qn, qd, qm, q0, q20, q21, q22, q4, q5, q6, q7, q8, hmay, hokn] <;> rfl)) (by (simp only [evs, Nat.reduceEqDiff, reduceIte, qn, qd, qm, q0, q20, q21, q22, q4, q5, q6, q7, q8, hmay, hokn] <;> first | rfl | (congr 1; omega) | omega)) ?_)
      refine ⟨by simp only [evs]; exact hg4.trans hg5, i, 1, rfl, ?_⟩
      rw [hacc, hokn]
      simp
     | true =>
     (repeat (first | (apply G.h; constructor <;> (first | exact Zc | apply gI | ((repeat' (first | exact Y0 | apply Y1 | ((first | apply Y4 | apply Y5); simp only [evs, Nat.reduceEqDiff, reduceIte, qn, qd, qm, q0, q20, q21, q22, q4, q5, q6, q7, q8, hmay, hokn] <;> rfl))); done) | (apply Y6; (try simp only [evs, qn, qd, qm, q0, q20, q21, q22, q4, q5, q6, q7, q8, hmay, hokn]); first | exact hb5.loadA rfl rfl rfl (Nat.le_refl 5) rfl)))))
     ((first | apply g_run | apply g_run0) <;> (first | ((repeat' (first | exact Y0 | apply Y1 | exact Y2 | apply Y3 | ((first | apply Y4 | apply Y5); simp only [evs, Nat.reduceEqDiff, reduceIte, qn, qd, qm, q0, q20, q21, q22, q4, q5, q6, q7, q8, hmay, hokn] <;> rfl))); done) | exact Rn.mk (right31 x _ hxo hxt) | apply Cn.mk))
     rintro v m6 ⟨rfl, hg6⟩
     simp only [evs] at hg6
     have hb6 := hb5.grow hg6
     have hg46 := (hg4.trans hg5).trans hg6
     cases hri : rightB x with
     | false =>
      (repeat (first | (apply G.h; constructor <;> (first | exact Zc | apply gI | ((repeat' (first | exact Y0 | apply Y1 | ((first | apply Y4 | apply Y5); simp only [evs, Nat.reduceEqDiff, reduceIte, qn, qd, qm, q0, q20, q21, q22, q4, q5, q6, q7, q8, hmay, hokn, hri] <;> rfl))); done) | (apply Y6; (try simp only [evs, qn, qd, qm, q0, q20, q21, q22, q4, q5, q6, q7, q8, hmay, hokn, hri]); first | rfl)))))
      (refine g_fin (by repeat' first | exact Rs.nil | apply Rs.cons | (apply Y4; simp only [evs, Nat.reduceEqDiff, reduceIte, qn, qd, qm, q0, q20, q21, q22, q4, q5, q6, q7, q8, hmay, hokn, hri] <;> rfl)) (by (simp only [evs, Nat.reduceEqDiff, reduceIte, qn, qd, qm, q0, q20, q21, q22, q4, q5, q6, q7, q8, hmay, hokn, hri] <;> first | rfl | (congr 1; omega) | omega)) ?_)
      refine ⟨by simp only [evs]; exact hg46, i, 1, rfl, ?_⟩
      rw [hacc, hri]
      simp
     | true =>
     have hokr : okR x = true := by rw [← ok_same x k1 k2, hokn, hri]; rfl
     obtain ⟨hform, hplx⟩ := PL.of (hlv.grow hg6) k1 k2 hokn hokr hxo.2.1.2
     have hst6 := (hst4.grow hg5).grow hg6
     have hpl6 : ∀ w' ∈ ({ w with c := w.c + 1 } :: st : List WE), PL m6 w' := fun w' hw' => ((hpl4 w' hw').grow hg5).grow hg6
     have hlen4 : ({ w with c := w.c + 1 } :: st : List WE).length = (w :: st).length := rfl
     clear hlv
     rcases hform with rfl | ⟨kb, ln, kc, rfl⟩
     ·(repeat (first | (apply G.h; constructor <;> (first | exact Zc | apply gI | ((repeat' (first | exact Y0 | apply Y1 | ((first | apply Y4 | apply Y5); simp only [evs, Nat.reduceEqDiff, reduceIte, qn, qd, qm, q0, q20, q21, q22, q4, q5, q6, q7, q8, hmay, hokn, hri] <;> rfl))); done) | (apply Y6; (try simp only [evs, qn, qd, qm, q0, q20, q21, q22, q4, q5, q6, q7, q8, hmay, hokn, hri]); first | exact hb6.loadA rfl rfl rfl (Nat.le_refl 5) rfl)))))
      obtain ⟨wb', wc', m8, e1, e2, e3, e4, e5⟩ := (hst6.grow ((Grow.refl m6).new (rowObj (WE.enc (⟨x, .slice none 0 0, 0, x.du⟩ : WE)) 91 0))).push (⟨x, .slice none 0 0, 0, x.du⟩ : WE) rfl (by rw [hlen4, hlw]; omega)
      have hrn := row_new m6 (WE.enc (⟨x, .slice none 0 0, 0, x.du⟩ : WE)) 91 0
      apply ewpO_append
      focus exact want_none
      focus rfl
      focus rfl
      focus rfl
      focus rfl
      focus rfl
      focus rfl
      focus rfl
      focus rfl
      focus rfl
      focus (simp only [evs, Nat.reduceEqDiff, reduceIte, qn, qd, qm, q0, q20, q21, q22, q4, q5, q6, q7, q8, hmay, hokn, hri] <;> rfl)
      focus (simp only [evs, Nat.reduceEqDiff, reduceIte, qn, qd, qm, q0, q20, q21, q22, q4, q5, q6, q7, q8, hmay, hokn, hri] <;> rfl)
      focus (simp only [evs]; exact cellsIn_row (kc := 1) (new := WE.enc (⟨x, .slice none 0 0, 0, x.du⟩ : WE)) hrn (Nat.le_refl 7) rfl)
      focus (simp only [evs]; exact e1)
      focus (simp only [evs, qn]; rfl)
      (repeat (first | (apply G.h; constructor <;> (first | exact Zc | apply gI | ((repeat' (first | exact Y0 | apply Y1 | ((first | apply Y4 | apply Y5); simp only [evs, Nat.reduceEqDiff, reduceIte, qn, qd, qm, q0, q20, q21, q22, q4, q5, q6, q7, q8, hmay, hokn, hri] <;> rfl))); done) | (apply Y6; (try simp only [evs, qn, qd, qm, q0, q20, q21, q22, q4, q5, q6, q7, q8, hmay, hokn, hri]); first | rfl)))))
      have hg7 : Grow m6 (m6.new (rowObj (WE.enc (⟨x, .slice none 0 0, 0, x.du⟩ : WE)) 91 0)) := (Grow.refl m6).new _
      have hg07 := hg46.trans hg7
      have hg8 : Grow m m8 := ⟨Nat.le_trans hg07.1 e4, fun b' hb' => (e3 b' (by omega) (Nat.lt_of_lt_of_le hb' hg07.1)).trans (hg07.2 b' hb')⟩
      obtain ⟨rr, hrr, -⟩ := hst6.grow hg7
      refine ih (i + 1, wb', wc', (⟨x, .slice none 0 0, 0, x.du⟩ : WE) :: { w with c := w.c + 1 } :: st, m8) _ ?_ (by simp only; omega)
      refine ⟨by (simp only [evs, Nat.reduceEqDiff, reduceIte, qn, qd, qm, q0, q20, q21, q22, q4, q5, q6, q7, q8, hmay, hokn, hri] <;> first | rfl | (congr 1; omega) | omega), by (simp only [evs, Nat.reduceEqDiff, reduceIte, qn, qd, qm, q0, q20, q21, q22, q4, q5, q6, q7, q8, hmay, hokn, hri] <;> first | rfl | (congr 1; omega) | omega), by (simp only [evs, Nat.reduceEqDiff, reduceIte, qn, qd, qm, q0, q20, q21, q22, q4, q5, q6, q7, q8, hmay, hokn, hri] <;> first | rfl | (congr 1; omega) | omega), hg8, ?_, e2, ?_, by (simp only [evs, Nat.reduceEqDiff, reduceIte, qn, qd, qm, q0, q20, q21, q22, q4, q5, q6, q7, q8, hmay, hokn, hri] <;> first | rfl | (congr 1; omega) | omega), by (simp only [evs, Nat.reduceEqDiff, reduceIte, qn, qd, qm, q0, q20, q21, q22, q4, q5, q6, q7, q8, hmay, hokn, hri] <;> first | rfl | (congr 1; omega) | omega), by (simp only [evs, Nat.reduceEqDiff, reduceIte, qn, qd, qm, q0, q20, q21, q22, q4, q5, q6, q7, q8, hmay, hokn, hri] <;> first | rfl | (congr 1; omega) | omega), by (simp only [evs, Nat.reduceEqDiff, reduceIte, qn, qd, qm, q0, q20, q21, q22, q4, q5, q6, q7, q8, hmay, hokn, hri] <;> first | rfl | (congr 1; omega) | omega), by (simp only [evs, Nat.reduceEqDiff, reduceIte, qn, qd, qm, q0, q20, q21, q22, q4, q5, q6, q7, q8, hmay, hokn, hri] <;> first | rfl | (congr 1; omega) | omega), hlt, ?_, ?_⟩
      ·rcases e5 with rfl | rfl
       ·exact hwb
       ·exact hg07.1
      ·intro w' hw'
       rcases List.mem_cons.1 hw' with rfl | hw'
       ·exact (hplx.grow hg7).keep hrr e4 e3
       ·exact ((hpl6 w' hw').grow hg7).keep hrr e4 e3
      ·simp only [List.length_cons] at hsl ⊢; omega
      ·rw [hacc, hokn, hri]; rfl
     ·(repeat (first | (apply G.h; constructor <;> (first | exact Zc | apply gI | ((repeat' (first | exact Y0 | apply Y1 | ((first | apply Y4 | apply Y5); simp only [evs, Nat.reduceEqDiff, reduceIte, qn, qd, qm, q0, q20, q21, q22, q4, q5, q6, q7, q8, hmay, hokn, hri] <;> rfl))); done) | (apply Y6; (try simp only [evs, qn, qd, qm, q0, q20, q21, q22, q4, q5, q6, q7, q8, hmay, hokn, hri]); first | exact hb6.loadA rfl rfl rfl (Nat.le_refl 5) rfl)))))
      obtain ⟨wb', wc', m8, e1, e2, e3, e4, e5⟩ := (hst6.grow ((Grow.refl m6).new (rowObj (WE.enc (⟨x, .slice (some ⟨kb, 0, none⟩) ln kc, 0, x.du⟩ : WE)) 91 0))).push (⟨x, .slice (some ⟨kb, 0, none⟩) ln kc, 0, x.du⟩ : WE) rfl (by rw [hlen4, hlw]; omega)
      have hrn := row_new m6 (WE.enc (⟨x, .slice (some ⟨kb, 0, none⟩) ln kc, 0, x.du⟩ : WE)) 91 0
      apply ewpO_append
      focus exact want_none
      focus rfl
      focus rfl
      focus rfl
      focus rfl
      focus rfl
      focus rfl
      focus rfl
      focus rfl
      focus rfl
      focus (simp only [evs, Nat.reduceEqDiff, reduceIte, qn, qd, qm, q0, q20, q21, q22, q4, q5, q6, q7, q8, hmay, hokn, hri] <;> rfl)
      focus (simp only [evs, Nat.reduceEqDiff, reduceIte, qn, qd, qm, q0, q20, q21, q22, q4, q5, q6, q7, q8, hmay, hokn, hri] <;> rfl)
      focus (simp only [evs]; exact cellsIn_row (kc := 1) (new := WE.enc (⟨x, .slice (some ⟨kb, 0, none⟩) ln kc, 0, x.du⟩ : WE)) hrn (Nat.le_refl 7) rfl)
      focus (simp only [evs]; exact e1)
      focus (simp only [evs, qn]; rfl)
      (repeat (first | (apply G.h; constructor <;> (first | exact Zc | apply gI | ((repeat' (first | exact Y0 | apply Y1 | ((first | apply Y4 | apply Y5); simp only [evs, Nat.reduceEqDiff, reduceIte, qn, qd, qm, q0, q20, q21, q22, q4, q5, q6, q7, q8, hmay, hokn, hri] <;> rfl))); done) | (apply Y6; (try simp only [evs, qn, qd, qm, q0, q20, q21, q22, q4, q5, q6, q7, q8, hmay, hokn, hri]); first | rfl)))))
      have hg7 : Grow m6 (m6.new (rowObj (WE.enc (⟨x, .slice (some ⟨kb, 0, none⟩) ln kc, 0, x.du⟩ : WE)) 91 0)) := (Grow.refl m6).new _
      have hg07 := hg46.trans hg7
      have hg8 : Grow m m8 := ⟨Nat.le_trans hg07.1 e4, fun b' hb' => (e3 b' (by omega) (Nat.lt_of_lt_of_le hb' hg07.1)).trans (hg07.2 b' hb')⟩
      obtain ⟨rr, hrr, -⟩ := hst6.grow hg7
      refine ih (i + 1, wb', wc', (⟨x, .slice (some ⟨kb, 0, none⟩) ln kc, 0, x.du⟩ : WE) :: { w with c := w.c + 1 } :: st, m8) _ ?_ (by simp only; omega)
      refine ⟨by (simp only [evs, Nat.reduceEqDiff, reduceIte, qn, qd, qm, q0, q20, q21, q22, q4, q5, q6, q7, q8, hmay, hokn, hri] <;> first | rfl | (congr 1; omega) | omega), by (simp only [evs, Nat.reduceEqDiff, reduceIte, qn, qd, qm, q0, q20, q21, q22, q4, q5, q6, q7, q8, hmay, hokn, hri] <;> first | rfl | (congr 1; omega) | omega), by (simp only [evs, Nat.reduceEqDiff, reduceIte, qn, qd, qm, q0, q20, q21, q22, q4, q5, q6, q7, q8, hmay, hokn, hri] <;> first | rfl | (congr 1; omega) | omega), hg8, ?_, e2, ?_, by (simp only [evs, Nat.reduceEqDiff, reduceIte, qn, qd, qm, q0, q20, q21, q22, q4, q5, q6, q7, q8, hmay, hokn, hri] <;> first | rfl | (congr 1; omega) | omega), by (simp only [evs, Nat.reduceEqDiff, reduceIte, qn, qd, qm, q0, q20, q21, q22, q4, q5, q6, q7, q8, hmay, hokn, hri] <;> first | rfl | (congr 1; omega) | omega), by (simp only [evs, Nat.reduceEqDiff, reduceIte, qn, qd, qm, q0, q20, q21, q22, q4, q5, q6, q7, q8, hmay, hokn, hri] <;> first | rfl | (congr 1; omega) | omega), by (simp only [evs, Nat.reduceEqDiff, reduceIte, qn, qd, qm, q0, q20, q21, q22, q4, q5, q6, q7, q8, hmay, hokn, hri] <;> first | rfl | (congr 1; omega) | omega), by (simp only [evs, Nat.reduceEqDiff, reduceIte, qn, qd, qm, q0, q20, q21, q22, q4, q5, q6, q7, q8, hmay, hokn, hri] <;> first | rfl | (congr 1; omega) | omega), hlt, ?_, ?_⟩
      ·rcases e5 with rfl | rfl
       ·exact hwb
       ·exact hg07.1
      ·intro w' hw'
       rcases List.mem_cons.1 hw' with rfl | hw'
       ·exact (hplx.grow hg7).keep hrr e4 e3
       ·exact ((hpl6 w' hw').grow hg7).keep hrr e4 e3
      ·simp only [List.length_cons] at hsl ⊢; omega
      ·rw [hacc, hokn, hri]; rfl
 ·(repeat (first | (apply G.h; constructor <;> (first | exact Zc | apply gI | ((repeat' (first | exact Y0 | apply Y1 | ((first | apply Y4 | apply Y5); simp only [evs, Nat.reduceEqDiff, reduceIte, hn, hd, hm, t0, t20, t21, t22, t4] <;> rfl))); done) | (apply Y6; (try simp only [evs, hn, hd, hm, t0, t20, t21, t22, t4]); first | rfl)))))
  have hdr : l.drop i = [] := List.drop_of_length_le hge
  rw [hdr] at hacc
  refine ewp_loop (ι := Nat × Mem) (fun q a => a.n = 134 ∧ a.defers = [] ∧ a.m = q.2 ∧ Grow mi q.2 ∧ a.tmp 0 = .slice (some ⟨b, off, none⟩) l.length cap ∧ a.tmp 119 = .slice (some ⟨wb, 0, none⟩) st.length wc ∧ a.tmp 120 = .int .i64 st.length ∧ a.tmp 121 = .int .i64 q.1 ∧ q.1 ≤ st.length ∧
   ∀ (j : Nat) (hj : j < st.reverse.length), j < q.1 → (st.reverse[j].c : Int) = st.reverse[j].x.n) (fun q => st.length - q.1) (0, mi) ?_ ?_
  ·exact ⟨by (simp only [evs, Nat.reduceEqDiff, reduceIte, hn, hd, hm, t0, t20, t21, t22, t4] <;> first | rfl | (congr 1; omega) | omega), by (simp only [evs, Nat.reduceEqDiff, reduceIte, hn, hd, hm, t0, t20, t21, t22, t4] <;> first | rfl | (congr 1; omega) | omega), by (simp only [evs, Nat.reduceEqDiff, reduceIte, hn, hd, hm, t0, t20, t21, t22, t4] <;> first | rfl | (congr 1; omega) | omega), Grow.refl mi, by (simp only [evs, Nat.reduceEqDiff, reduceIte, hn, hd, hm, t0, t20, t21, t22, t4] <;> first | rfl | (congr 1; omega) | omega), by (simp only [evs, Nat.reduceEqDiff, reduceIte, hn, hd, hm, t0, t20, t21, t22, t4] <;> first | rfl | (congr 1; omega) | omega), by (simp only [evs, Nat.reduceEqDiff, reduceIte, hn, hd, hm, t0, t20, t21, t22, t4] <;> first | rfl | (congr 1; omega) | omega), by (simp only [evs, Nat.reduceEqDiff, reduceIte, hn, hd, hm, t0, t20, t21, t22, t4] <;> first | rfl | (congr 1; omega) | omega), Nat.zero_le _, fun j hj h => absurd h (Nat.not_lt_zero j)⟩
  clear ih
  rintro ⟨j, mj⟩ a ⟨zn, zd, zm, zg, z0, z119, z120, z121, zj, zall⟩ ih
  simp only at zn zd zm zg z0 z119 z120 z121 zj zall ih
  obtain ⟨r, hr, hrl, hrf⟩ := (hst.grow zg).get
  obtain ⟨_, _, _, hcap, _⟩ := hst
  rcases Nat.lt_or_ge j st.length with hj | hj
  ·have hjr : j < st.reverse.length := by simpa using hj
   have hw : st.reverse[j] ∈ st := List.mem_reverse.1 (List.getElem_mem hjr)
   have hrj := hrf j
   have zall' := zall
   generalize hwj : st.reverse[j] = w at hw hrj
   have hagg : loadAt evEnv mj 91 wb (0 + j * 7) = some (.agg ⟨w.enc⟩) := by
    refine hr.loadA (k := 7) rfl rfl rfl (by omega) ?_
    apply List.ext_getElem?
    intro f
    by_cases hf7 : f < 7
    ·rw [List.getElem?_take_of_lt hf7, List.getElem?_drop, Nat.zero_add, hrj f hjr hf7, hwj]
    ·rw [List.getElem?_eq_none (by rw [List.length_take]; omega), List.getElem?_eq_none (by rw [enc_len]; omega)]
   obtain ⟨p1, p2, p3, p4, p5, p6⟩ := hpl w hw
   obtain ⟨m2, hst2, hrow, hoth, hnx⟩ := (row_new mj (WE.enc ⟨⟨0, 0, [], 0, 0⟩, .slice none 0 0, 0, root⟩) 91 0).fill (E := evEnv) (t := 91) (k := 7) (v := .agg ⟨w.enc⟩) (by decide) rfl rfl rfl rfl (by unfold oneCell at p4; simp [WE.enc, Nd.val, cellsOf, oneCell]; exact p4)
   have hg2 : Grow mj m2 := ((Grow.refl mj).new _).wrote (Nat.le_refl _) hoth hnx
   by_cases hlt2 : (w.c : Int) < w.x.n
   ·(repeat (first | (apply G.h; constructor <;> (first | exact Zc | apply gI | ((repeat' (first | exact Y0 | apply Y1 | ((first | apply Y4 | apply Y5); simp only [evs, Nat.reduceEqDiff, reduceIte, zn, zd, zm, z0, z119, z120, z121] <;> rfl))); done) | (apply Y6; (try simp only [evs, zn, zd, zm, z0, z119, z120, z121]); first | exact hagg)))))
    apply ewpO_store
    focus exact want_none
    focus (simp only [evs, Nat.reduceEqDiff, reduceIte, zn, zd, zm, z0, z119, z120, z121] <;> rfl)
    focus (simp only [evs, Nat.reduceEqDiff, reduceIte, zn, zd, zm, z0, z119, z120, z121] <;> rfl)
    focus (simp only [evs, zm]; exact hst2)
    (repeat (first | (apply G.h; constructor <;> (first | exact Zc | apply gI | ((repeat' (first | exact Y0 | apply Y1 | ((first | apply Y4 | apply Y5); simp only [evs, Nat.reduceEqDiff, reduceIte, zn, zd, zm, z0, z119, z120, z121] <;> rfl))); done) | (apply Y6; (try simp only [evs, zn, zd, zm, z0, z119, z120, z121]); first | exact hrow.load1 rfl rfl (show (WE.enc w)[6]? = _ from rfl) | exact hrow.load1 rfl rfl (show (WE.enc w)[1]? = _ from rfl))))))
    (refine g_fin (by repeat' first | exact Rs.nil | apply Rs.cons | (apply Y4; simp only [evs, Nat.reduceEqDiff, reduceIte, zn, zd, zm, z0, z119, z120, z121] <;> rfl)) (by (simp only [evs, Nat.reduceEqDiff, reduceIte, zn, zd, zm, z0, z119, z120, z121] <;> first | rfl | (congr 1; omega) | omega)) ?_)
    refine ⟨by simp only [evs]; exact hg.trans (zg.trans hg2), l.length, 6, rfl, ?_⟩
    rw [hacc]
    have : accept [] (st.map WE.dc) = false := by
     simp only [accept]
     cases hp : (pop (st.map WE.dc)).isEmpty with
     | false => rfl
     | true =>
      have := (pop_empty _).1 hp (w.dc) (List.mem_map_of_mem hw)
      simp only [WE.dc] at this
      omega
    simp [this]
   ·(repeat (first | (apply G.h; constructor <;> (first | exact Zc | apply gI | ((repeat' (first | exact Y0 | apply Y1 | ((first | apply Y4 | apply Y5); simp only [evs, Nat.reduceEqDiff, reduceIte, zn, zd, zm, z0, z119, z120, z121] <;> rfl))); done) | (apply Y6; (try simp only [evs, zn, zd, zm, z0, z119, z120, z121]); first | exact hagg)))))
    apply ewpO_store
    focus exact want_none
    focus (simp only [evs, Nat.reduceEqDiff, reduceIte, zn, zd, zm, z0, z119, z120, z121] <;> rfl)
    focus (simp only [evs, Nat.reduceEqDiff, reduceIte, zn, zd, zm, z0, z119, z120, z121] <;> rfl)
    focus (simp only [evs, zm]; exact hst2)
    (repeat (first | (apply G.h; constructor <;> (first | exact Zc | apply gI | ((repeat' (first | exact Y0 | apply Y1 | ((first | apply Y4 | apply Y5); simp only [evs, Nat.reduceEqDiff, reduceIte, zn, zd, zm, z0, z119, z120, z121] <;> rfl))); done) | (apply Y6; (try simp only [evs, zn, zd, zm, z0, z119, z120, z121]); first | exact hrow.load1 rfl rfl (show (WE.enc w)[6]? = _ from rfl) | exact hrow.load1 rfl rfl (show (WE.enc w)[1]? = _ from rfl))))))
    refine ih (j + 1, m2) _ ?_ (by simp only; omega)
    refine ⟨by (simp only [evs, Nat.reduceEqDiff, reduceIte, zn, zd, zm, z0, z119, z120, z121] <;> first | rfl | (congr 1; omega) | omega), by (simp only [evs, Nat.reduceEqDiff, reduceIte, zn, zd, zm, z0, z119, z120, z121] <;> first | rfl | (congr 1; omega) | omega), by (simp only [evs, Nat.reduceEqDiff, reduceIte, zn, zd, zm, z0, z119, z120, z121] <;> first | rfl | (congr 1; omega) | omega), zg.trans hg2, by (simp only [evs, Nat.reduceEqDiff, reduceIte, zn, zd, zm, z0, z119, z120, z121] <;> first | rfl | (congr 1; omega) | omega), by (simp only [evs, Nat.reduceEqDiff, reduceIte, zn, zd, zm, z0, z119, z120, z121] <;> first | rfl | (congr 1; omega) | omega), by (simp only [evs, Nat.reduceEqDiff, reduceIte, zn, zd, zm, z0, z119, z120, z121] <;> first | rfl | (congr 1; omega) | omega), by (simp only [evs, Nat.reduceEqDiff, reduceIte, zn, zd, zm, z0, z119, z120, z121] <;> first | rfl | (congr 1; omega) | omega), hj, fun j' hj' hlt' => ?_⟩
    rcases Nat.lt_or_ge j' j with h | h
    ·exact zall j' hj' h
    ·obtain rfl : j' = j := by simp only at hlt'; omega
     rw [hwj]; omega
  ·(repeat (first | (apply G.h; constructor <;> (first | exact Zc | apply gI | ((repeat' (first | exact Y0 | apply Y1 | ((first | apply Y4 | apply Y5); simp only [evs, Nat.reduceEqDiff, reduceIte, zn, zd, zm, z0, z119, z120, z121] <;> rfl))); done) | (apply Y6; (try simp only [evs, zn, zd, zm, z0, z119, z120, z121]); first | rfl)))))
   (refine g_fin (by repeat' first | exact Rs.nil | apply Rs.cons | (apply Y4; simp only [evs, Nat.reduceEqDiff, reduceIte, zn, zd, zm, z0, z119, z120, z121] <;> rfl)) (by (simp only [evs, Nat.reduceEqDiff, reduceIte, zn, zd, zm, z0, z119, z120, z121] <;> first | rfl | (congr 1; omega) | omega)) ?_)
   refine ⟨by simp only [evs, zm]; exact hg.trans zg, 0, 0, rfl, ?_⟩
   rw [hacc]
   have : accept [] (st.map WE.dc) = true := by
    simp only [accept]
    rw [pop_empty]
    intro q hq
    obtain ⟨w, hw, rfl⟩ := List.mem_map.1 hq
    obtain ⟨j', hj', rfl⟩ := List.getElem_of_mem (List.mem_reverse.2 hw)
    have := zall j' hj' (by simp at hj'; omega)
    have p1 := (hpl _ hw).1
    simp only [WE.dc]
    omega
   simp [this]
end Go.Proofs.YthhcnfgeacnfiaaGreatDoor

namespace Go.Proofs.YthhcnfgeacnfiaaGreatDoor
set_option linter.unusedSimpArgs false
open Go Go.Ev
set_option linter.unusedVariables false

/-- how many nodes so many trees take. -/
def D : List Nd → Nat → Option Nat
 | _, 0 => some 0
 | [], _ + 1 => none
 | x :: r, d + 1 => (D r (d + x.n.toNat)).map (· + 1)

theorem D_zero (l : List Nd) : D l 0 = some 0 := by cases l <;> rfl
theorem D_add : ∀ (l : List Nd) (a b k : Nat), D l (a + b) = some k → ∃ k1 k2, D l a = some k1 ∧ D (l.drop k1) b = some k2 ∧ k = k1 + k2
 | l, 0, b, k, h => ⟨0, k, D_zero l, by simpa using h, by omega⟩
 | [], a + 1, b, k, h => by rw [show a + 1 + b = (a + b) + 1 by omega] at h; simp [D] at h
 | x :: r, a + 1, b, k, h => by
  rw [show a + 1 + b = (a + b) + 1 by omega] at h
  simp only [D, Option.map_eq_some_iff] at h
  obtain ⟨k', h1, rfl⟩ := h
  rw [show a + b + x.n.toNat = (a + x.n.toNat) + b by omega] at h1
  obtain ⟨k1, k2, e1, e2, e3⟩ := D_add r _ b k' h1
  exact ⟨k1 + 1, k2, by simp only [D, e1, Option.map_some], by simpa using e2, by omega⟩
theorem D_le : ∀ (l : List Nd) (d k : Nat), D l d = some k → d ≤ k ∧ k ≤ l.length
 | l, 0, k, h => by rw [D_zero] at h; cases h; omega
 | [], d + 1, k, h => by simp [D] at h
 | x :: r, d + 1, k, h => by
  simp only [D, Option.map_eq_some_iff] at h
  obtain ⟨k', h1, rfl⟩ := h
  have := D_le r _ k' h1
  simp only [List.length_cons]; omega
theorem D_at : ∀ (l : List Nd) (d k j : Nat), D l d = some k → j < k → ∃ k', D (l.drop j) 1 = some k'
 | l, 0, k, j, h, hj => by rw [D_zero] at h; cases h; omega
 | [], d + 1, k, j, h, hj => by simp [D] at h
 | x :: r, d + 1, k, 0, h, hj => by
  rw [show d + 1 = 1 + d by omega] at h
  obtain ⟨k1, k2, e1, _⟩ := D_add _ _ _ _ h
  exact ⟨k1, by simpa using e1⟩
 | x :: r, d + 1, k, j + 1, h, hj => by
  simp only [D, Option.map_eq_some_iff] at h
  obtain ⟨k', h1, rfl⟩ := h
  have := D_at r _ k' j h1 (by omega)
  simpa using this

def rem : List (Du × Nat) → Nat
 | [] => 0
 | (y, c) :: st => (y.n - c).toNat + rem st
theorem rem_pop : ∀ st : List (Du × Nat), rem (pop st) = rem st
 | [] => rfl
 | (y, c) :: st => by
  simp only [pop]
  by_cases h : (c : Int) = y.n
  ·rw [if_pos h, rem_pop st, rem, show y.n - c = 0 by omega]; simp
  ·rw [if_neg h]
theorem pop_le : ∀ st : List (Du × Nat), (∀ q ∈ st, (q.2 : Int) ≤ q.1.n) → ∀ q ∈ pop st, (q.2 : Int) ≤ q.1.n
 | [], h => h
 | (y, c) :: st, h => by
  simp only [pop]
  by_cases hc : (c : Int) = y.n
  ·rw [if_pos hc]; exact pop_le st fun q hq => h q (List.mem_cons_of_mem _ hq)
  ·rw [if_neg hc]; exact h
theorem pop_head : ∀ (st : List (Du × Nat)) (y : Du) (c : Nat) (st' : List (Du × Nat)), pop st = (y, c) :: st' → (c : Int) ≠ y.n
 | [], y, c, st', h => by cases h
 | (z, d) :: st, y, c, st', h => by
  simp only [pop] at h
  by_cases hc : (d : Int) = z.n
  ·rw [if_pos hc] at h; exact pop_head st y c st' h
  ·rw [if_neg hc] at h; cases h; exact hc

theorem okR_pos {x : Nd} (h : okR x = true) : 0 ≤ x.n := by
 unfold okR at h; exact count_pos (Bool.and_eq_true_iff.1 h).1

theorem accept_D : ∀ (l : List Nd) (st : List (Du × Nat)), (∀ q ∈ st, (q.2 : Int) ≤ q.1.n) → accept l st = true → D l (rem st) = some l.length ∧ ∀ x ∈ l, okR x = true
 | [], st, hle, h => by
  simp only [accept] at h
  have : pop st = [] := List.isEmpty_iff.1 h
  rw [← rem_pop, this]
  exact ⟨rfl, fun x hx => by cases hx⟩
 | x :: r, st, hle, h => by
  simp only [accept] at h
  split at h
  ·cases h
  ·rename_i y c st' hp
   simp only [Bool.and_eq_true] at h
   obtain ⟨_, hok, hacc⟩ := h
   have hle' := pop_le st hle
   rw [hp] at hle'
   have hc := hle' (y, c) List.mem_cons_self
   have hne := pop_head st y c st' hp
   simp only at hc
   have hx0 := okR_pos hok
   obtain ⟨ih1, ih2⟩ := accept_D r ((x.du, 0) :: (y, c + 1) :: st') (fun q hq => by
    rcases List.mem_cons.1 hq with rfl | hq
    ·exact hx0
    ·rcases List.mem_cons.1 hq with rfl | hq
     ·show ((c + 1 : Nat) : Int) ≤ y.n; omega
     ·exact hle' q (List.mem_cons_of_mem _ hq)) hacc
   refine ⟨?_, fun z hz => ?_⟩
   ·rw [← rem_pop, hp]
    have e : rem ((y, c) :: st') = rem ((y, c + 1) :: st') + 1 := by simp only [rem]; omega
    have e2 : rem ((x.du, 0) :: (y, c + 1) :: st') = rem ((y, c + 1) :: st') + x.n.toNat := by
     have : x.du.n = x.n := rfl
     simp only [rem, this]; omega
    rw [e2] at ih1
    rw [e, D, ih1]; rfl
   ·rcases List.mem_cons.1 hz with rfl | hz
    ·exact hok
    ·exact ih2 z hz

theorem prog_D {l : List Nd} (h : okProg l = true) : D l 1 = some l.length ∧ ∀ x ∈ l, okR x = true := by
 have := accept_D l [(root, 0)] (fun q hq => by obtain rfl := List.mem_singleton.1 hq; decide) h
 exact this

/-- of each node: where what is behind it begins. -/
theorem prog_at {l : List Nd} (h : okProg l = true) (j : Nat) (hj : j < l.length) : ∃ k, D (l.drop j) 1 = some k :=
 D_at l 1 l.length j (prog_D h).1 hj

/-- the places of what a node is made of. -/
def kidsP (l : List Nd) : Nat → Nat → List Nat
 | 0, _ => []
 | c + 1, p => p :: kidsP l c (p + (D (l.drop p) 1).getD 0)
theorem kidsP_len (l : List Nd) : ∀ (c p : Nat), (kidsP l c p).length = c
 | 0, _ => rfl
 | c + 1, p => by simp [kidsP, kidsP_len l c]

def needL (g : Nat → Int) (x : Nd) : List Nat → Nat → Int → Int
 | [], _, most => most
 | p :: ps, i, most => needL g x ps (i + 1) (max most (if x.kind ≠ 24 ∧ x.kind ≠ 25 then g p + i else g p))
def needF (l : List Nd) : Nat → Nat → Int
 | 0, _ => 1
 | f + 1, at_ => match l[at_]? with
  | none => 1
  | some x => if x.kind = 31 then 1 else needL (needF l f) x (kidsP l x.n.toNat (at_ + 1)) 0 1

/-- behind a node of a program: what it is made of. -/
theorem D_kids {l : List Nd} {at_ k : Nat} (hlt : at_ < l.length) (h : D (l.drop at_) 1 = some k) : 1 ≤ k ∧ at_ + k ≤ l.length ∧ D (l.drop (at_ + 1)) l[at_].n.toNat = some (k - 1) := by
 rw [List.drop_eq_getElem_cons hlt] at h
 simp only [D, Option.map_eq_some_iff, Nat.zero_add] at h
 obtain ⟨k', h1, rfl⟩ := h
 have := D_le _ _ _ h1
 rw [List.length_drop] at this
 exact ⟨by omega, by omega, by simpa using h1⟩
theorem D_next {l : List Nd} {p c k : Nat} (h : D (l.drop p) (c + 1) = some k) : ∃ k1 k2, D (l.drop p) 1 = some k1 ∧ D (l.drop (p + k1)) c = some k2 ∧ k = k1 + k2 ∧ 1 ≤ k1 ∧ p < l.length ∧ p + k1 ≤ l.length := by
 rw [show c + 1 = 1 + c by omega] at h
 obtain ⟨k1, k2, e1, e2, e3⟩ := D_add _ _ _ _ h
 have := D_le _ _ _ e1
 rw [List.length_drop] at this
 rw [List.drop_drop] at e2
 exact ⟨k1, k2, e1, e2, e3, by omega, by omega, by omega⟩
end Go.Proofs.YthhcnfgeacnfiaaGreatDoor

namespace Go.Proofs.YthhcnfgeacnfiaaGreatDoor
open Go Go.Ev
set_option linter.unusedVariables false
set_option linter.unusedSimpArgs false
set_option maxRecDepth 100000
abbrev Bs := List UInt8
def primNames : List Bs := [[112, 114, 105, 110, 116], [108, 101, 110], [112, 117, 115, 104], [112, 111, 112], [107, 101, 121, 115], [104, 97, 115], [103, 101, 116], [112, 117, 116], [115, 97, 109, 101], [116, 101, 120, 116], [99, 120], [114, 101], [105, 109], [107, 105, 110, 100], [121, 105, 101, 108, 100], [115, 108, 101, 101, 112], [110, 111, 119], [114, 97, 110, 100], [106, 111, 105, 110], [98, 111, 120], [115, 101, 110, 100], [114, 101, 99, 118], [109, 111, 110, 105, 116, 111, 114], [108, 111, 99, 107], [117, 110, 108, 111, 99, 107], [119, 97, 105, 116], [119, 97, 105, 116, 102, 111, 114], [110, 111, 116, 105, 102, 121], [110, 111, 116, 105, 102, 121, 97, 108, 108], [115, 101, 108, 102]]
/-- a name's place in a list. -/
def idx (s : Bs) : List Bs → Option Nat
 | [] => none
 | t :: l => if t = s then some 0 else (idx s l).map (· + 1)
def primI (s : Bs) : Option Nat := idx s primNames

/-- entries. -/
def look {κ : Type} [DecidableEq κ] (s : κ) : List (κ × Nat) → Option Nat
 | [] => none
 | (t, d) :: l => if s = t then some d else look s l
def lay {κ : Type} [DecidableEq κ] (s : κ) (d : Nat) : List (κ × Nat) → List (κ × Nat)
 | [] => [(s, d)]
 | (t, x) :: l => if s = t then (s, d) :: l else (t, x) :: lay s d l

abbrev I (n : Int) : Value := .int .i64 n
abbrev ptr (b : Nat) : Value := .pointer (some ⟨b, 0, none⟩)
abbrev encS (s : Bs) : Value := .string ⟨⟨s⟩⟩
/-- the primitives' names, as they are laid. -/
def Names (m : Mem) : Prop := ∃ c e, m.get 0 = some (.cells 30 c e 1) ∧ ∀ i, i < 30 → c.get i = (primNames.map encS)[i]?
theorem Names.stay {X : Nat → Prop} {T : List Nat} {m m' : Mem} (h : Names m) (hx : X 0) (h0 : 0 < m.next) (k : Keep X T m m') : Names m' := by
 obtain ⟨c, e, h1, h2⟩ := h
 exact ⟨c, e, k.2 0 _ h0 h1 (.inl hx), h2⟩
theorem Nodes.stay {X : Nat → Prop} {T : List Nat} {m m' : Mem} {b off : Nat} {l : List Nd} (h : Nodes m b off l) (hx : X b) (hb : b < m.next) (k : Keep X T m m') : Nodes m' b off l := by
 obtain ⟨n, c, ty, kd, h1, h2⟩ := h
 exact ⟨n, c, ty, kd, k.2 b _ hb h1 (.inl hx), h2⟩

theorem eqK_str (m : Mem) (s t : Bs) : quiet.eqKey evEnv m 9 (encS s) (encS t) = some (decide (s = t)) := by
 have hu : evEnv.under 9 = some .string := by rfl
 unfold quiet.eqKey
 rw [hu]
 simp only [beqb]
theorem find_str (m : Mem) (s : Bs) {g : Nat → Value} : ∀ (sc : List (Bs × Nat)), quiet.find evEnv m 9 (encS s) (sc.map fun q => (encS q.1, g q.2)) = some ((look s sc).map g)
 | [] => by
  have hu : evEnv.under 9 = some .string := by rfl
  simp only [List.map_nil, quiet.find, quiet.keyOk, hu, cond_true, look, Option.map_none]
 | (t, d) :: sc => by
  simp only [List.map_cons, quiet.find, eqK_str, look]
  by_cases h : s = t
  ·simp [h]
  ·simp only [h, decide_false, if_false]
   exact find_str m s sc
theorem upd_str (m : Mem) (s : Bs) (d : Nat) {g : Nat → Value} : ∀ (sc : List (Bs × Nat)), effect.upd evEnv m 9 (encS s) (g d) (sc.map fun q => (encS q.1, g q.2)) = some ((lay s d sc).map fun q => (encS q.1, g q.2))
 | [] => by
  have hu : evEnv.under 9 = some .string := by rfl
  simp only [List.map_nil, effect.upd, quiet.keyOk, hu, cond_true, lay, List.map_cons]
 | (t, x) :: sc => by
  simp only [List.map_cons, effect.upd, eqK_str, lay]
  by_cases h : s = t
  ·simp [h]
  ·simp only [h, decide_false, if_false]
   rw [upd_str m s d sc]
   rfl

theorem bh_D {l : List Nd} (hpos : ∀ x ∈ l, 0 ≤ x.n) : ∀ (w d k f : Nat), D (l.drop k) d = some w → w < f → bh l f k d = some (k + w)
 | w, 0, k, f, h, hf => by
  rw [D_zero] at h; cases h
  cases f with
  | zero => omega
  | succ f => rfl
 | 0, d + 1, k, f, h, hf => by have := (D_le _ _ _ h).1; omega
 | w + 1, d + 1, k, f, h, hf => by
  cases f with
  | zero => omega
  | succ f =>
   have hle := (D_le _ _ _ h).2
   rw [List.length_drop] at hle
   have hlt : k < l.length := by omega
   rw [List.drop_eq_getElem_cons hlt] at h
   simp only [D, Option.map_eq_some_iff] at h
   obtain ⟨w', h1, h2⟩ := h
   obtain rfl : w' = w := by omega
   have hx := hpos _ (List.getElem_mem hlt)
   have h3 := (D_le _ _ _ h1).1
   have hmin : (min (max l[k].n 0) (l.length : Int)).toNat = l[k].n.toNat := by omega
   rw [bh, if_neg (by omega), List.getElem?_eq_getElem hlt]
   simp only [hmin, Nat.add_sub_cancel]
   rw [if_neg (by omega), bh_D hpos w' (d + l[k].n.toNat) (k + 1) f h1 (by omega)]
   congr 1; omega
abbrev nilS : Value := .slice none 0 0
end Go.Proofs.YthhcnfgeacnfiaaGreatDoor

namespace Go.Proofs.YthhcnfgeacnfiaaGreatDoor
open Go Go.Ev
set_option maxRecDepth 100000
set_option linter.unusedVariables false
set_option linter.unusedSimpArgs false
set_option pp.maxSteps 1500

/-- bytes, where they lie. -/
def Bts (m : Mem) (b off : Nat) (bs : List UInt8) : Prop := b < m.next ∧ ∃ n c el kd, m.get b = some (.cells n c el kd) ∧ off + bs.length ≤ n ∧ ∀ i x, bs[i]? = some x → c.get (off + i) = some (.int .u8 (x.toNat : Nat))
theorem Bts.load {m : Mem} {b off : Nat} {bs : List UInt8} (h : Bts m b off bs) {i : Nat} {x : UInt8} (hx : bs[i]? = some x) : loadAt evEnv m 5 b (off + i * 1) = some (.int .u8 (x.toNat : Nat)) := by
 obtain ⟨-, n, c, el, kd, h1, h2, h3⟩ := h
 have hi := (List.getElem?_eq_some_iff.1 hx).1
 rw [show off + i * 1 = off + i by omega]
 exact load_cell rfl rfl h1 (by omega) (h3 i x hx)
theorem Bts.grow {m m' : Mem} {b off : Nat} {bs : List UInt8} (h : Bts m b off bs) (g : Grow m m') : Bts m' b off bs := by
 obtain ⟨h0, n, c, el, kd, h1, h2⟩ := h
 exact ⟨Nat.lt_of_lt_of_le h0 g.1, n, c, el, kd, by rw [g.2 b h0]; exact h1, h2⟩
/-- how many bytes are blanks and remarks. -/
def skipL : Bool → List UInt8 → Nat
 | _, [] => 0
 | true, c :: r => 1 + skipL (c.toNat != 10) r
 | false, c :: r => if c.toNat = 35 then 1 + skipL true r else if c.toNat = 32 ∨ c.toNat = 9 ∨ c.toNat = 10 ∨ c.toNat = 13 then 1 + skipL false r else 0
theorem drop_at {bs : List UInt8} {p : Nat} {c : UInt8} (h : bs[p]? = some c) : bs.drop p = c :: bs.drop (p + 1) := by
 obtain ⟨hp, rfl⟩ := List.getElem?_eq_some_iff.1 h
 exact List.drop_eq_getElem_cons hp
attribute [local irreducible] quiet allocs effect wp ret wpO Runs Act.tmp Act.eval fin results Tree.set binOp loadAt storeAt target wanted cellsFrom

set_option maxHeartbeats 2000000 in
theorem skip36 (b off cap : Nat) (bs : List UInt8) (hl : bs.length ≤ 1000000) (at_ : Nat) (hat : at_ ≤ bs.length) (m : Mem) (hB : Bts m b off bs) :
  Runs evEnv 43 [.slice (some ⟨b, off, none⟩) bs.length cap, I at_] m fun v m' => v = I (at_ + skipL false (bs.drop at_) : Nat) ∧ m' = m ∧ at_ + skipL false (bs.drop at_) ≤ bs.length := by
 refine runs_start rfl rfl rfl rfl ?_
 (repeat (first | (apply G.h; constructor <;> (first | exact Zc | apply gI | ((repeat' (first | exact Y0 | apply Y1 | ((first | apply Y4 | apply Y5); simp only [evs, Nat.reduceEqDiff, reduceIte] <;> rfl))); done) | (apply Y6; (try simp only [evs]); first | rfl)))))
 refine ewp_loop (ι := Nat) (fun p a => (a.n = 47 ∧ a.defers = [] ∧ a.tmp 0 = .slice (some ⟨b, off, none⟩) bs.length cap ∧ a.tmp 1 = I p) ∧ a.m = m ∧ p ≤ bs.length ∧ p + skipL false (bs.drop p) = at_ + skipL false (bs.drop at_)) (fun p => bs.length - p) at_ ?_ ?_
 ·exact ⟨(by refine ⟨?_, ?_, ?_, ?_⟩ <;> (simp only [evs, Nat.reduceEqDiff, reduceIte] <;> first | rfl | (congr 1; omega) | omega)), by (simp only [evs, Nat.reduceEqDiff, reduceIte] <;> first | rfl | (congr 1; omega) | omega), hat, rfl⟩
 rintro p a ⟨⟨qn, qd, q0, q1⟩, qm, hp, he⟩ ih
 rcases Nat.lt_or_ge p bs.length with hlt | hge
 ·obtain ⟨c, hc⟩ : ∃ c, bs[p]? = some c := ⟨_, List.getElem?_eq_getElem hlt⟩
  have hld := hB.load hc
  have hdr := drop_at hc
  rw [hdr, skipL] at he
  by_cases h35 : c.toNat = 35
  ·rw [if_pos h35] at he
   (repeat (first | (apply G.h; constructor <;> (first | exact Zc | apply gI | ((repeat' (first | exact Y0 | apply Y1 | ((first | apply Y4 | apply Y5); simp only [evs, Nat.reduceEqDiff, reduceIte, qn, qd, q0, q1, qm] <;> rfl))); done) | (apply Y6; (try simp only [evs, qn, qd, q0, q1, qm]); first | exact hld)))))
   have hstart : p + skipL true (bs.drop p) = at_ + skipL false (bs.drop at_) := by
    rw [hdr, skipL, show (c.toNat != 10) = true by rw [h35]; rfl]; exact he
   refine ewp_loop (ι := Nat) (fun r a => (a.n = 47 ∧ a.defers = [] ∧ a.tmp 0 = .slice (some ⟨b, off, none⟩) bs.length cap ∧ a.tmp 1 = I r) ∧ a.m = m ∧ p ≤ r ∧ r ≤ bs.length ∧ r + skipL true (bs.drop r) = at_ + skipL false (bs.drop at_)) (fun r => bs.length - r) p ?_ ?_
   ·exact ⟨(by refine ⟨?_, ?_, ?_, ?_⟩ <;> (simp only [evs, Nat.reduceEqDiff, reduceIte, qn, qd, q0, q1] <;> first | rfl | (congr 1; omega) | omega)), by (simp only [evs, Nat.reduceEqDiff, reduceIte, qm] <;> first | rfl | (congr 1; omega) | omega), Nat.le_refl _, hp, hstart⟩
   clear qn qd q0 q1 qm hld
   rintro r a ⟨⟨qn, qd, q0, q1⟩, qm, hpr, hrl, hre⟩ ihr
   rcases Nat.lt_or_ge r bs.length with hrlt | hrge
   ·obtain ⟨x, hx⟩ : ∃ x, bs[r]? = some x := ⟨_, List.getElem?_eq_getElem hrlt⟩
    have hlx := hB.load hx
    have hdx := drop_at hx
    rw [hdx, skipL] at hre
    by_cases h10 : x.toNat = 10
    ·have hne : p ≠ r := fun h => by
      subst h
      rw [hc] at hx; cases hx
      omega
     rw [show (x.toNat != 10) = false by rw [h10]; rfl] at hre
     (repeat (first | (apply G.h; constructor <;> (first | exact Zc | apply gI | ((repeat' (first | exact Y0 | apply Y1 | ((first | apply Y4 | apply Y5); simp only [evs, Nat.reduceEqDiff, reduceIte, qn, qd, q0, q1, qm] <;> rfl))); done) | (apply Y6; (try simp only [evs, qn, qd, q0, q1, qm]); first | exact hlx)))))
     refine ih r _ ⟨(by refine ⟨?_, ?_, ?_, ?_⟩ <;> (simp only [evs, Nat.reduceEqDiff, reduceIte, qn, qd, q0, q1] <;> first | rfl | (congr 1; omega) | omega)), by (simp only [evs, Nat.reduceEqDiff, reduceIte, qm] <;> first | rfl | (congr 1; omega) | omega), hrl, ?_⟩ (by omega)
     rw [hdx, skipL, if_neg (by omega), if_pos (by omega)]
     exact hre
    ·rw [show (x.toNat != 10) = true by simp [h10]] at hre
     (repeat (first | (apply G.h; constructor <;> (first | exact Zc | apply gI | ((repeat' (first | exact Y0 | apply Y1 | ((first | apply Y4 | apply Y5); simp only [evs, Nat.reduceEqDiff, reduceIte, qn, qd, q0, q1, qm] <;> rfl))); done) | (apply Y6; (try simp only [evs, qn, qd, q0, q1, qm]); first | exact hlx)))))
     exact ihr (r + 1) _ ⟨(by refine ⟨?_, ?_, ?_, ?_⟩ <;> (simp only [evs, Nat.reduceEqDiff, reduceIte, qn, qd, q0, q1] <;> first | rfl | (congr 1; omega) | omega)), by (simp only [evs, Nat.reduceEqDiff, reduceIte, qm] <;> first | rfl | (congr 1; omega) | omega), by omega, hrlt, by omega⟩ (by omega)
   ·obtain rfl : r = bs.length := by omega
    rw [List.drop_length, skipL] at hre
    (repeat (first | (apply G.h; constructor <;> (first | exact Zc | apply gI | ((repeat' (first | exact Y0 | apply Y1 | ((first | apply Y4 | apply Y5); simp only [evs, Nat.reduceEqDiff, reduceIte, qn, qd, q0, q1, qm] <;> rfl))); done) | (apply Y6; (try simp only [evs, qn, qd, q0, q1, qm]); first | rfl)))))
    refine ih bs.length _ ⟨(by refine ⟨?_, ?_, ?_, ?_⟩ <;> (simp only [evs, Nat.reduceEqDiff, reduceIte, qn, qd, q0, q1] <;> first | rfl | (congr 1; omega) | omega)), by (simp only [evs, Nat.reduceEqDiff, reduceIte, qm] <;> first | rfl | (congr 1; omega) | omega), hrl, ?_⟩ (by omega)
    rw [List.drop_length, skipL]; exact hre
  ·rw [if_neg h35] at he
   by_cases hbl : c.toNat = 32 ∨ c.toNat = 9 ∨ c.toNat = 10 ∨ c.toNat = 13
   ·rw [if_pos hbl] at he
    rcases (show c.toNat = 32 ∨ (c.toNat ≠ 32 ∧ c.toNat = 9) ∨ (c.toNat ≠ 32 ∧ c.toNat ≠ 9 ∧ c.toNat = 10) ∨ (c.toNat ≠ 32 ∧ c.toNat ≠ 9 ∧ c.toNat ≠ 10 ∧ c.toNat = 13) by omega) with h1 | ⟨h1, h2⟩ | ⟨h1, h2, h3⟩ | ⟨h1, h2, h3, h4⟩
    all_goals
     (repeat (first | (apply G.h; constructor <;> (first | exact Zc | apply gI | ((repeat' (first | exact Y0 | apply Y1 | ((first | apply Y4 | apply Y5); simp only [evs, Nat.reduceEqDiff, reduceIte, qn, qd, q0, q1, qm] <;> rfl))); done) | (apply Y6; (try simp only [evs, qn, qd, q0, q1, qm]); first | exact hld)))))
     refine ih (p + 1) _ ⟨(by refine ⟨?_, ?_, ?_, ?_⟩ <;> (simp only [evs, Nat.reduceEqDiff, reduceIte, qn, qd, q0, q1] <;> first | rfl | (congr 1; omega) | omega)), by (simp only [evs, Nat.reduceEqDiff, reduceIte, qm] <;> first | rfl | (congr 1; omega) | omega), hlt, by omega⟩ (by omega)
   ·rw [if_neg hbl] at he
    have h1 : c.toNat ≠ 32 := by omega
    have h2 : c.toNat ≠ 9 := by omega
    have h3 : c.toNat ≠ 10 := by omega
    have h4 : c.toNat ≠ 13 := by omega
    (repeat (first | (apply G.h; constructor <;> (first | exact Zc | apply gI | ((repeat' (first | exact Y0 | apply Y1 | ((first | apply Y4 | apply Y5); simp only [evs, Nat.reduceEqDiff, reduceIte, qn, qd, q0, q1, qm] <;> rfl))); done) | (apply Y6; (try simp only [evs, qn, qd, q0, q1, qm]); first | exact hld)))))
    (refine g_fin (by repeat' first | exact Rs.nil | apply Rs.cons | (apply Y4; simp only [evs, Nat.reduceEqDiff, reduceIte, qn, qd, q0, q1, qm] <;> rfl)) (by (simp only [evs, Nat.reduceEqDiff, reduceIte, qn, qd, q0, q1, qm] <;> first | rfl | (congr 1; omega) | omega)) ?_)
    exact ⟨by rw [← he]; rfl, by (simp only [evs, Nat.reduceEqDiff, reduceIte, qm] <;> first | rfl | (congr 1; omega) | omega), by omega⟩
 ·obtain rfl : p = bs.length := by omega
  rw [List.drop_length, skipL] at he
  (repeat (first | (apply G.h; constructor <;> (first | exact Zc | apply gI | ((repeat' (first | exact Y0 | apply Y1 | ((first | apply Y4 | apply Y5); simp only [evs, Nat.reduceEqDiff, reduceIte, qn, qd, q0, q1, qm] <;> rfl))); done) | (apply Y6; (try simp only [evs, qn, qd, q0, q1, qm]); first | rfl)))))
  (refine g_fin (by repeat' first | exact Rs.nil | apply Rs.cons | (apply Y4; simp only [evs, Nat.reduceEqDiff, reduceIte, qn, qd, q0, q1, qm] <;> rfl)) (by (simp only [evs, Nat.reduceEqDiff, reduceIte, qn, qd, q0, q1, qm] <;> first | rfl | (congr 1; omega) | omega)) ?_)
  exact ⟨by rw [← he]; rfl, by (simp only [evs, Nat.reduceEqDiff, reduceIte, qm] <;> first | rfl | (congr 1; omega) | omega), by omega⟩
end Go.Proofs.YthhcnfgeacnfiaaGreatDoor

namespace Go.Ev
set_option linter.unusedSimpArgs false
open Go
set_option linter.unusedVariables false
theorem repeat_len2 (z : List Value) : ∀ n, (repeatList z n).length = n * z.length
 | 0 => by simp [repeatList]
 | n + 1 => by rw [repeatList, List.length_append, repeat_len2 z n, Nat.succ_mul, Nat.add_comm]
section
variable {E : Env} {all l : List Oper} {k : List Kont} {a : Act} {Q : Ex → Act → Prop} {d : Nat} {t : TypeId} {pos : String} {af : Array Edge}
theorem g_makeSlice {ts e : TypeId} {x y : Operand} {i : TypeInfo} {z : Value} {n : Nat} (hu : Rf (E.under ts) (some (.slice e))) (hi : Rf (E.ti e) (some i)) (hz : Rf i.zero (some z)) (hx : Ev a x (.int .i64 (Int.ofNat n))) (hy : Ev a y (.int .i64 (Int.ofNat n))) (hn : Om (n ≤ 100000)) (hb : Rf (Nat.ble i.bytes 1000 && Nat.ble i.size 1000) true) (hzl : Rf (Nat.beq (cellsOf z).length i.size) true) (hd : Dn a d)
  (h : wpO E all l k ((a.mem (a.m.new (rowObj (repeatList (cellsOf z) n) e 0))).upd d (.slice (some ⟨a.m.next, 0, none⟩) n n)) Q) : wpO E all (⟨some d, .makeSlice ts x y, t, pos, af, none⟩ :: l) k a Q := by
 refine ewpO_alloc rfl rfl ?_ hd.h h
 have hb := hb.h
 simp only [Bool.and_eq_true, Nat.ble_eq] at hb
 have hn := hn.h
 have h1 : n * i.bytes ≤ 100000 * 1000 := Nat.mul_le_mul hn hb.1
 have hzl' := Nat.eq_of_beq_eq_true hzl.h
 have h2 : n * i.size ≤ 100000 * 1000 := Nat.mul_le_mul hn hb.2
 have e1 : Nat.ble n n = true := Nat.ble_eq_true_of_le (Nat.le_refl n)
 have e2 : Nat.ble (n * i.bytes) 1000000000 = true := Nat.ble_eq_true_of_le (by omega)
 have e3 : Nat.blt n 1000000000 = true := by simp [Nat.blt_eq]; omega
 have e4 : Nat.ble (repeatList (cellsOf z) n).length 1000000000 = true := Nat.ble_eq_true_of_le (by rw [repeat_len2, hzl']; omega)
 have hx := hx.h
 have hy := hy.h
 simp only [allocs, hu.h, hx, hy, hi.h, hz.h, e1, e2, e3, hzl.h, Bool.and_true, cond_true, newCells, e4, withAddr]
 rfl
theorem g_fin3c {rs : List ResultVar} {Q : Value → Mem → Prop} {t0 ty t1 t2 b o : Nat} (v0 v1 v2 : Value) (hrs : rs = [.cell t0 ty, .tmp t1, .tmp t2]) (hd : a.defers = []) (h0 : a.tmp t0 = .pointer (some ⟨b, o, none⟩)) (hl : loadAt E a.m ty b o = some v0) (h1 : a.tmp t1 = v1) (h2 : a.tmp t2 = v2) (h : Q (.tuple ⟨[v0, v1, v2]⟩) a.m) : ret E [] .ret a (fin E rs Q) := by
 subst hrs
 exact eret_nil (fin_ret hd (res_cell h0 hl (res_tmp h1 (res_tmp h2 res_nil))) h)
end
end Go.Ev

namespace Go.Proofs.YthhcnfgeacnfiaaGreatDoor
open Go Go.Ev
set_option maxRecDepth 100000
set_option linter.unusedVariables false
set_option linter.unusedSimpArgs false
set_option pp.maxSteps 1500

def signsL : List UInt8 := [43, 45, 42, 47, 37, 60, 62, 61, 40, 41, 91, 93, 123, 125, 44, 59, 58, 46]
theorem cellsFrom_all2 {c : Tree Value} : ∀ (k o : Nat) (L : List Value), L.length = k → (∀ i, i < k → c.get (o + i) = L[i]?) → cellsFrom c o k = some L
 | 0, o, L, hl, h => by rw [List.length_eq_zero_iff.1 hl]; rfl
 | k + 1, o, [], hl, h => by simp at hl
 | k + 1, o, x :: L, hl, h => by
  have h0 := h 0 (by omega)
  rw [Nat.add_zero, List.getElem?_cons_zero] at h0
  rw [cellsFrom, h0, cellsFrom_all2 k (o + 1) L (by simpa using hl) fun i hi => by
   have := h (i + 1) (by omega)
   rw [List.getElem?_cons_succ] at this
   rw [← this]; congr 1; omega]
/-- a part of the bytes, as a string. -/
theorem bytes_cells : ∀ (r : List UInt8) (L : List Value), L = r.map (fun x => .int .u8 (x.toNat : Nat)) → bytesOfCells L = some r
 | [], L, h => by rw [h]; rfl
 | x :: r, L, h => by
  rw [h, List.map_cons, bytesOfCells, bytes_cells r _ rfl]
  simp
theorem Bts.part {m : Mem} {b off : Nat} {bs : List UInt8} (h : Bts m b off bs) {lo hi : Nat} (h1 : lo ≤ hi) (h2 : hi ≤ bs.length) :
  ∃ n c el kd L, m.get b = some (.cells n c el kd) ∧ Nat.ble (off + lo * 1 + (hi - lo)) n = true ∧ cellsFrom c (off + lo * 1) (hi - lo) = some L ∧ bytesOfCells L = some ((bs.drop lo).take (hi - lo)) := by
 obtain ⟨-, n, c, el, kd, e1, e2, e3⟩ := h
 refine ⟨n, c, el, kd, ((bs.drop lo).take (hi - lo)).map (fun x => .int .u8 (x.toNat : Nat)), e1, Nat.ble_eq_true_of_le (by omega), ?_, bytes_cells _ _ rfl⟩
 refine cellsFrom_all2 (hi - lo) _ _ (by rw [List.length_map, List.length_take, List.length_drop]; omega) fun i hi' => ?_
 have hx : bs[lo + i]? = some (bs[lo + i]'(by omega)) := List.getElem?_eq_getElem _
 rw [show off + lo * 1 + i = off + (lo + i) by omega, e3 _ _ hx, List.getElem?_map, List.getElem?_take_of_lt hi', List.getElem?_drop, hx]; rfl
attribute [local irreducible] quiet allocs effect wp ret wpO Runs Act.tmp Act.eval fin results Tree.set binOp loadAt storeAt target wanted cellsFrom

set_option maxHeartbeats 2000000 in
theorem sign42 (b off cap : Nat) (bs : List UInt8) (hl : bs.length ≤ 1000000) (hcap : bs.length ≤ cap) (at_ : Nat) (c : UInt8) (j : Nat) (m : Mem) (hB : Bts m b off bs) (hc : bs[at_]? = some c) (hj : signsL[j]? = some c) (hf : ∀ i, i < j → signsL[i]? ≠ some c) (h2 : ∀ x, bs[at_ + 1]? = some x → x.toNat ≠ 61) :
  Runs evEnv 49 [.slice (some ⟨b, off, none⟩) bs.length cap, I at_] m fun v m' => Grow m m' ∧ v = .tuple ⟨[.agg ⟨[I 5, encS [c], I 0, I at_]⟩, I (at_ + 1 : Nat), I 0]⟩ := by
 have hat := (List.getElem?_eq_some_iff.1 hc).1
 have hj18 : j < 18 := (List.getElem?_eq_some_iff.1 hj).1
 have r4 : Row (m.new (rowObj [I 0, encS [], I 0, I 0] 87 0)) m.next [I 0, encS [], I 0, I 0] 87 0 := row_new m [I 0, encS [], I 0, I 0] 87 0
 have g1 : Grow m (m.new (rowObj [I 0, encS [], I 0, I 0] 87 0)) := (Grow.refl m).new _
 refine runs_start rfl rfl rfl rfl ?_
 (repeat (first | (apply G.h; constructor <;> (first | exact Zc | apply gI | ((repeat' (first | exact Y0 | apply Y1 | ((first | apply Y4 | apply Y5); simp only [evs, Nat.reduceEqDiff, reduceIte] <;> rfl))); done) | (apply Y6; (try simp only [evs]); first | rfl)))))
 have z7 := row_new (m.new (rowObj [I 0, encS [], I 0, I 0] 87 0)) [I 0, encS [], I 0, I 0] 87 0
 (apply g_stR <;> (first | exact Zc | apply gI | ((repeat' (first | exact Y0 | apply Y1 | exact Y2 | apply Y3 | ((first | apply Y4 | apply Y5); simp only [evs, Nat.reduceEqDiff, reduceIte] <;> rfl))); done) | (apply Hy.mk; (try simp only [evs]); first | exact z7 | assumption) | (apply Om.mk; first | exact z7) | (apply Y6; (try simp only [evs]); first | rfl) | apply Cn.mk))
 intro m3 r7 o3 n3; simp only [evs] at r7 o3 n3
 replace r7 : Row m3 (m.next + 1) [I 5, encS [], I 0, I at_] 87 0 := r7
 have g3 : Grow m m3 := g1.trans (((Grow.refl _).new _).wrote (Nat.le_refl _) o3 n3)
 have r43 : Row m3 m.next [I 0, encS [], I 0, I 0] 87 0 := r4.grow (((Grow.refl _).new _).wrote (Nat.le_refl _) o3 n3)
 have hld := (hB.grow g3).load hc
 have hcond : ∀ (R : Prop), (at_ + 1 < bs.length → ∀ x, bs[at_ + 1]? = some x → R) → (¬ at_ + 1 < bs.length → R) → R := fun R h h' => by
  by_cases hh : at_ + 1 < bs.length
  ·exact h hh _ (List.getElem?_eq_getElem hh)
  ·exact h' hh
 rcases (show at_ + 1 < bs.length ∨ bs.length ≤ at_ + 1 by omega) with hh | hh
 case' inl =>
  obtain ⟨x, hx⟩ : ∃ x, bs[at_ + 1]? = some x := ⟨_, List.getElem?_eq_getElem hh⟩
  have hlx := (hB.grow g3).load hx
  have hx61 := h2 x hx
  (repeat (first | (apply G.h; constructor <;> (first | exact Zc | apply gI | ((repeat' (first | exact Y0 | apply Y1 | ((first | apply Y4 | apply Y5); simp only [evs, Nat.reduceEqDiff, reduceIte] <;> rfl))); done) | (apply Y6; (try simp only [evs]); first | exact hld | exact hlx)))))
 case' inr =>
  (repeat (first | (apply G.h; constructor <;> (first | exact Zc | apply gI | ((repeat' (first | exact Y0 | apply Y1 | ((first | apply Y4 | apply Y5); simp only [evs, Nat.reduceEqDiff, reduceIte] <;> rfl))); done) | (apply Y6; (try simp only [evs]); first | exact hld)))))
 all_goals
  refine ewp_loop (ι := Nat) (fun i a => (a.n = 84 ∧ a.defers = [] ∧ a.tmp 0 = .slice (some ⟨b, off, none⟩) bs.length cap ∧ a.tmp 1 = I at_ ∧ a.tmp 4 = ptr m.next ∧ a.tmp 7 = ptr (m.next + 1) ∧ a.tmp 8 = .int .u8 (c.toNat : Nat) ∧ a.tmp 9 = encS signsL ∧ a.tmp 10 = I i) ∧ a.m = m3 ∧ i ≤ j) (fun i => j - i) 0 ?_ ?_
  ·exact ⟨(by refine ⟨?_, ?_, ?_, ?_, ?_, ?_, ?_, ?_, ?_⟩ <;> (simp only [evs, Nat.reduceEqDiff, reduceIte] <;> first | rfl | (congr 1; omega) | omega)), by (simp only [evs, Nat.reduceEqDiff, reduceIte] <;> first | rfl | (congr 1; omega) | omega), Nat.zero_le _⟩
  rintro i a ⟨⟨qn, qd, q0, q1, q4, q7, q8, q9, q10⟩, qm, hij⟩ ih
  have hsl : signsL.length = 18 := rfl
  have hi18 : i < signsL.length := by omega
  obtain ⟨y, hy⟩ : ∃ y, signsL[i]? = some y := ⟨_, List.getElem?_eq_getElem hi18⟩
  have hny : nth signsL i = some y := by rw [nth_is]; exact hy
  by_cases hyc : y = c
  ·subst hyc
   obtain rfl : i = j := by
    rcases Nat.lt_or_ge i j with h | h
    ·exact absurd hy (hf i h)
    ·omega
   obtain ⟨n, cc, el, kd, L, p1, p2, p3, p4⟩ := (hB.grow g3).part (lo := at_) (hi := at_ + 1) (by omega) (by omega)
   have p5 : bytesOfCells L = some [y] := by rw [p4, drop_at hc, show at_ + 1 - at_ = 1 by omega]; rfl
   (repeat (first | (apply G.h; constructor <;> (first | exact Zc | apply gI | ((repeat' (first | exact Y0 | apply Y1 | ((first | apply Y4 | apply Y5); simp only [evs, Nat.reduceEqDiff, reduceIte, qn, qd, q0, q1, q4, q7, q8, q9, q10, qm] <;> rfl))); done) | (apply Y6; (try simp only [evs, qn, qd, q0, q1, q4, q7, q8, q9, q10, qm]); first | rfl)))))
   (apply g_slice2 <;> (first | exact Zc | apply gI | ((repeat' (first | exact Y0 | apply Y1 | exact Y2 | apply Y3 | ((first | apply Y4 | apply Y5); simp only [evs, Nat.reduceEqDiff, reduceIte, qn, qd, q0, q1, q4, q7, q8, q9, q10] <;> rfl))); done) | (apply Hy.mk; (try simp only [evs, qn, qd, q0, q1, q4, q7, q8, q9, q10]); first | fail | assumption) | (apply Om.mk; first | fail) | (apply Y6; (try simp only [evs, qn, qd, q0, q1, q4, q7, q8, q9, q10]); first | rfl) | apply Cn.mk))
   (repeat (first | (apply G.h; constructor <;> (first | exact Zc | apply gI | ((repeat' (first | exact Y0 | apply Y1 | ((first | apply Y4 | apply Y5); simp only [evs, Nat.reduceEqDiff, reduceIte, qn, qd, q0, q1, q4, q7, q8, q9, q10] <;> rfl))); done) | (apply Y6; (try simp only [evs, qn, qd, q0, q1, q4, q7, q8, q9, q10]); first | rfl)))))
   (apply g_bytesStr <;> (first | exact Zc | apply gI | ((repeat' (first | exact Y0 | apply Y1 | exact Y2 | apply Y3 | ((first | apply Y4 | apply Y5); simp only [evs, Nat.reduceEqDiff, reduceIte, qn, qd, q0, q1, q4, q7, q8, q9, q10, qm] <;> rfl))); done) | (apply Hy.mk; (try simp only [evs, qn, qd, q0, q1, q4, q7, q8, q9, q10, qm]); first | exact p1 | exact p2 | exact p3 | exact p5 | assumption) | (apply Om.mk; first | exact p1 | exact p2 | exact p3 | exact p5) | (apply Y6; (try simp only [evs, qn, qd, q0, q1, q4, q7, q8, q9, q10, qm]); first | rfl) | apply Cn.mk))
   (repeat (first | (apply G.h; constructor <;> (first | exact Zc | apply gI | ((repeat' (first | exact Y0 | apply Y1 | ((first | apply Y4 | apply Y5); simp only [evs, Nat.reduceEqDiff, reduceIte, qn, qd, q0, q1, q4, q7, q8, q9, q10] <;> rfl))); done) | (apply Y6; (try simp only [evs, qn, qd, q0, q1, q4, q7, q8, q9, q10]); first | rfl)))))
   (apply g_stR <;> (first | exact Zc | apply gI | ((repeat' (first | exact Y0 | apply Y1 | exact Y2 | apply Y3 | ((first | apply Y4 | apply Y5); simp only [evs, Nat.reduceEqDiff, reduceIte, qn, qd, q0, q1, q4, q7, q8, q9, q10, qm] <;> rfl))); done) | (apply Hy.mk; (try simp only [evs, qn, qd, q0, q1, q4, q7, q8, q9, q10, qm]); first | exact r7 | assumption) | (apply Om.mk; first | exact r7) | (apply Y6; (try simp only [evs, qn, qd, q0, q1, q4, q7, q8, q9, q10, qm]); first | rfl) | apply Cn.mk))
   intro m4 r8 o4 n4; simp only [evs, qn, qd, q0, q1, q4, q7, q8, q9, q10, qm] at r8 o4 n4
   replace r8 : Row m4 (m.next + 1) [I 5, encS [y], I 0, I at_] 87 0 := r8
   have r44 := r43.keep (m' := m4) (by rw [n4]; exact Nat.le_refl _) (o4 _ (by omega))
   (repeat (first | (apply G.h; constructor <;> (first | exact Zc | apply gI | ((repeat' (first | exact Y0 | apply Y1 | ((first | apply Y4 | apply Y5); simp only [evs, Nat.reduceEqDiff, reduceIte, qn, qd, q0, q1, q4, q7, q8, q9, q10] <;> rfl))); done) | (apply Y6; (try simp only [evs, qn, qd, q0, q1, q4, q7, q8, q9, q10]); first | exact r8.loadA rfl rfl rfl (Nat.le_refl 4) rfl)))))
   (apply g_stR <;> (first | exact Zc | apply gI | ((repeat' (first | exact Y0 | apply Y1 | exact Y2 | apply Y3 | ((first | apply Y4 | apply Y5); simp only [evs, Nat.reduceEqDiff, reduceIte, qn, qd, q0, q1, q4, q7, q8, q9, q10] <;> rfl))); done) | (apply Hy.mk; (try simp only [evs, qn, qd, q0, q1, q4, q7, q8, q9, q10]); first | exact r44 | assumption) | (apply Om.mk; first | exact r44) | (apply Y6; (try simp only [evs, qn, qd, q0, q1, q4, q7, q8, q9, q10]); first | rfl) | apply Cn.mk))
   intro m5 r9 o5 n5; simp only [evs, qn, qd, q0, q1, q4, q7, q8, q9, q10] at r9 o5 n5
   (repeat (first | (apply G.h; constructor <;> (first | exact Zc | apply gI | ((repeat' (first | exact Y0 | apply Y1 | ((first | apply Y4 | apply Y5); simp only [evs, Nat.reduceEqDiff, reduceIte, qn, qd, q0, q1, q4, q7, q8, q9, q10] <;> rfl))); done) | (apply Y6; (try simp only [evs, qn, qd, q0, q1, q4, q7, q8, q9, q10]); first | rfl)))))
   refine g_fin3c (b := m.next) (o := 0) _ (I (at_ + 1 : Nat)) (I 0) rfl ?_ ?_ (by simp only [evs]; exact r9.loadA rfl rfl rfl (Nat.le_refl 4) rfl) ?_ ?_ ?_
   ·(simp only [evs, Nat.reduceEqDiff, reduceIte, qn, qd, q0, q1, q4, q7, q8, q9, q10] <;> first | rfl | (congr 1; omega) | omega)
   ·(simp only [evs, Nat.reduceEqDiff, reduceIte, qn, qd, q0, q1, q4, q7, q8, q9, q10] <;> first | rfl | (congr 1; omega) | omega)
   ·(simp only [evs, Nat.reduceEqDiff, reduceIte, qn, qd, q0, q1, q4, q7, q8, q9, q10] <;> first | rfl | (congr 1; omega) | omega)
   ·(simp only [evs, Nat.reduceEqDiff, reduceIte, qn, qd, q0, q1, q4, q7, q8, q9, q10] <;> first | rfl | (congr 1; omega) | omega)
   ·refine ⟨?_, rfl⟩
    simp only [evs]
    exact (g3.wrote (b := m.next + 1) (by omega) o4 n4).wrote (b := m.next) (Nat.le_refl _) o5 n5
  ·have hlt : i < j := by
    rcases Nat.lt_or_ge i j with h | h
    ·exact h
    ·obtain rfl : i = j := by omega
     rw [hj] at hy; cases hy; exact absurd rfl hyc
   have hyn : y.toNat ≠ c.toNat := fun h => hyc (UInt8.toNat_inj.1 h)
   (repeat (first | (apply G.h; constructor <;> (first | exact Zc | apply gI | ((repeat' (first | exact Y0 | apply Y1 | ((first | apply Y4 | apply Y5); simp only [evs, Nat.reduceEqDiff, reduceIte, qn, qd, q0, q1, q4, q7, q8, q9, q10, qm] <;> rfl))); done) | (apply Y6; (try simp only [evs, qn, qd, q0, q1, q4, q7, q8, q9, q10, qm]); first | rfl)))))
   refine ih (i + 1) _ ⟨(by refine ⟨?_, ?_, ?_, ?_, ?_, ?_, ?_, ?_, ?_⟩ <;> (simp only [evs, Nat.reduceEqDiff, reduceIte, qn, qd, q0, q1, q4, q7, q8, q9, q10] <;> first | rfl | (congr 1; omega) | omega)), by (simp only [evs, Nat.reduceEqDiff, reduceIte, qm] <;> first | rfl | (congr 1; omega) | omega), hlt⟩ (by omega)
end Go.Proofs.YthhcnfgeacnfiaaGreatDoor
