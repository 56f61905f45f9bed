/- Part of a verified evaluator of the model's programs and of runs by it: SL4 SM SM2 SM5. -/
import Derived.Test.YtihokakelnfdgaaDoorSA
namespace Go.Proofs.YtihokakelnfdgaaDoor
open Go Go.Ev
set_option maxRecDepth 100000
set_option linter.unusedVariables false
set_option linter.unusedSimpArgs false
set_option pp.maxSteps 1500
attribute [local irreducible] quiet allocs effect wp ret wpO Runs Act.tmp Act.eval fin results Tree.set binOp loadAt storeAt target wanted cellsFrom

theorem words_len : words.length = 18 := rfl

set_option maxHeartbeats 2000000 in
theorem word46 (s : List UInt8) (m : Mem) : Runs evEnv 39 [.string ⟨⟨s⟩⟩] m fun v m' => v = .bool (wordB s) ∧ Grow m m' := by
 refine runs_start rfl rfl rfl rfl ?_
 (repeat (first | (apply G.h; constructor <;> (first | exact Zc | apply gI | ((repeat' (first | exact Y0 | apply Y1 | ((first | apply Y4 | apply Y5); simp only [evs, Nat.reduceEqDiff, reduceIte] <;> rfl))); done) | (apply Y6; (try simp only [evs]); first | rfl)))))
 obtain ⟨m2, hst, hrow, hoth, hnx⟩ := (row_new m (List.replicate 18 (.string ⟨⟨[]⟩⟩)) 127 0).fill (E := evEnv) (t := 127) (k := 18) (v := .agg ⟨words.map fun w => .string ⟨⟨w⟩⟩⟩) (by decide) rfl rfl rfl rfl rfl
 have hg : Grow m m2 := ((Grow.refl m).new _).wrote (Nat.le_refl _) hoth hnx
 apply ewpO_store
 focus exact want_none
 focus (simp only [evs, Nat.reduceEqDiff, reduceIte] <;> rfl)
 focus (simp only [evs, Nat.reduceEqDiff, reduceIte] <;> rfl)
 focus (simp only [m_upd, m_mem, m_start]; exact hst)
 (repeat (first | (apply G.h; constructor <;> (first | exact Zc | apply gI | ((repeat' (first | exact Y0 | apply Y1 | ((first | apply Y4 | apply Y5); simp only [evs, Nat.reduceEqDiff, reduceIte] <;> rfl))); done) | (apply Y6; (try simp only [evs]); first | rfl)))))
 refine ewp_loop (ι := Nat) (fun i a => a.n = 15 ∧ a.defers = [] ∧ a.m = m2 ∧ a.tmp 0 = .string ⟨⟨s⟩⟩ ∧ a.tmp 3 = .pointer (some ⟨m.next, 0, none⟩) ∧ a.tmp 4 = .int .i64 i ∧ i ≤ 18 ∧ ∀ j, j < i → words[j]? ≠ some s) (fun i => 18 - i) 0 ?_ ?_
 ·exact ⟨by (simp only [evs, Nat.reduceEqDiff, reduceIte] <;> first | rfl | (congr 1; omega) | omega), by (simp only [evs, Nat.reduceEqDiff, reduceIte] <;> first | rfl | (congr 1; omega) | omega), by (simp only [evs, Nat.reduceEqDiff, reduceIte] <;> first | rfl | (congr 1; omega) | omega), by (simp only [evs, Nat.reduceEqDiff, reduceIte] <;> first | rfl | (congr 1; omega) | omega), by (simp only [evs, Nat.reduceEqDiff, reduceIte] <;> first | rfl | (congr 1; omega) | omega), by (simp only [evs, Nat.reduceEqDiff, reduceIte] <;> first | rfl | (congr 1; omega) | omega), by omega, fun j hj => by omega⟩
 rintro p a ⟨hn, hd, hm, h0, h3, h4, hp, hj⟩ ih
 rcases Nat.lt_or_ge p 18 with hlt | hge
 ·have hw : words[p]? = some words[p] := List.getElem?_eq_getElem hlt
  generalize words[p] = w at hw
  have hx : (words.map fun w => Value.string ⟨⟨w⟩⟩)[0 + p * 1]? = some (.string ⟨⟨w⟩⟩) := by
   rw [show 0 + p * 1 = p by omega, List.getElem?_map, hw]; rfl
  (repeat' (first | (apply G.h; constructor <;> (first | exact Zc | apply gI | ((repeat' (first | exact Y0 | apply Y1 | ((first | apply Y4 | apply Y5); simp only [evs, Nat.reduceEqDiff, reduceIte, hn, hd, hm, h0, h3, h4] <;> rfl))); done) | (apply Y6; (try simp only [evs, hn, hd, hm, h0, h3, h4]); first | exact hrow.load1 rfl rfl hx))) | (apply g_split <;> (first | (apply Ev.mk; (simp only [evs, Nat.reduceEqDiff, reduceIte, hn, hd, hm, h0, h3, h4] <;> rfl)) | (apply Dn.mk; (simp only [evs, Nat.reduceEqDiff, reduceIte, hn, hd, hm, h0, h3, h4] <;> rfl)) | (apply g_wpO) | intro h | constructor | fail))))
  ·(refine g_fin (by repeat' first | exact Rs.nil | apply Rs.cons | (apply Y4; simp only [evs, Nat.reduceEqDiff, reduceIte, hn, hd, hm, h0, h3, h4] <;> rfl)) (by (simp only [evs, Nat.reduceEqDiff, reduceIte, hn, hd, hm, h0, h3, h4] <;> first | rfl | (congr 1; omega) | omega)) ?_)
   refine ⟨congrArg Value.bool ?_, by simp only [m_upd, hm]; exact hg⟩
   exact (decide_eq_true (List.mem_of_getElem? (by rw [hw, ‹w = s›]))).symm
  ·refine ih (p + 1) _ ?_ (by omega)
   refine ⟨by (simp only [evs, Nat.reduceEqDiff, reduceIte, hn] <;> first | rfl | (congr 1; omega) | omega), by (simp only [evs, Nat.reduceEqDiff, reduceIte, hd] <;> first | rfl | (congr 1; omega) | omega), by (simp only [evs, Nat.reduceEqDiff, reduceIte, hm] <;> first | rfl | (congr 1; omega) | omega), by (simp only [evs, Nat.reduceEqDiff, reduceIte, h0] <;> first | rfl | (congr 1; omega) | omega), by (simp only [evs, Nat.reduceEqDiff, reduceIte, h3] <;> first | rfl | (congr 1; omega) | omega), by (simp only [evs, Nat.reduceEqDiff, reduceIte, h4] <;> first | rfl | (congr 1; omega) | omega), hlt, fun j hjp => ?_⟩
   rcases Nat.lt_or_ge j p with h | h
   ·exact hj j h
   ·obtain rfl : j = p := by omega
    rw [hw]
    intro he
    exact absurd (Option.some.inj he) ‹_›
 ·(repeat (first | (apply G.h; constructor <;> (first | exact Zc | apply gI | ((repeat' (first | exact Y0 | apply Y1 | ((first | apply Y4 | apply Y5); simp only [evs, Nat.reduceEqDiff, reduceIte, hn, hd, hm, h0, h3, h4] <;> rfl))); done) | (apply Y6; (try simp only [evs, hn, hd, hm, h0, h3, h4]); first | rfl)))))
  (refine g_fin (by repeat' first | exact Rs.nil | apply Rs.cons | (apply Y4; simp only [evs, Nat.reduceEqDiff, reduceIte, hn, hd, hm, h0, h3, h4] <;> rfl)) (by (simp only [evs, Nat.reduceEqDiff, reduceIte, hn, hd, hm, h0, h3, h4] <;> first | rfl | (congr 1; omega) | omega)) ?_)
  refine ⟨congrArg Value.bool ?_, by simp only [m_upd, hm]; exact hg⟩
  refine (decide_eq_false fun hmem => ?_).symm
  obtain ⟨j, hj1, hj2⟩ := List.getElem_of_mem hmem
  have : j < 18 := hj1
  exact hj j (by omega) (by rw [List.getElem?_eq_getElem hj1, hj2])

set_option maxHeartbeats 2000000 in
theorem name80 (s : List UInt8) (m : Mem) (hs : s.length ≤ 9223372036854775807) : Runs evEnv 84 [.string ⟨⟨s⟩⟩] m fun v m' => v = .bool (nameB s) ∧ Grow m m' := by
 refine runs_start rfl rfl rfl rfl ?_
 cases s with
 | nil =>
  have hz : ([] : List UInt8).length = 0 := rfl
  (repeat (first | (apply G.h; constructor <;> (first | exact Zc | apply gI | ((repeat' (first | exact Y0 | apply Y1 | ((first | apply Y4 | apply Y5); simp only [evs, Nat.reduceEqDiff, reduceIte] <;> rfl))); done) | (apply Y6; (try simp only [evs]); first | rfl)))))
  (refine g_fin (by repeat' first | exact Rs.nil | apply Rs.cons | (apply Y4; simp only [evs, Nat.reduceEqDiff, reduceIte] <;> rfl)) (by (simp only [evs, Nat.reduceEqDiff, reduceIte] <;> first | rfl | (congr 1; omega) | omega)) ?_)
  exact ⟨rfl, by simp only [m_upd, m_start]; exact Grow.refl m⟩
 | cons c r =>
  have hl : (c :: r).length = r.length + 1 := List.length_cons
  have hc : nth (c :: r) 0 = some c := rfl
  generalize hsr : c :: r = s at hs hl hc
  have hemp : s.isEmpty = false := by rw [← hsr]; rfl
  have hg0 : goodAt s 0 = letterN c.toNat := by
   unfold goodAt
   rw [← nth_get, hc]
   simp
  have bad : ∀ p, p < s.length → goodAt s p = false → nameB s = false := by
   intro p hlt hb
   unfold nameB
   rw [Bool.and_eq_false_iff]
   right
   rw [List.all_eq_false]
   exact ⟨p, List.mem_range.2 hlt, by simp [hb]⟩
  cases hD : digitN c.toNat with
  | true =>
   have hL : letterN c.toNat = false := by
    unfold digitN at hD
    have := of_decide_eq_true hD
    exact decide_eq_false (by omega)
   have hb := bad 0 (by omega) (by rw [hg0, hL])
   (repeat (first | (apply G.h; constructor <;> (first | exact Zc | apply gI | ((repeat' (first | exact Y0 | apply Y1 | ((first | apply Y4 | apply Y5); simp only [evs, Nat.reduceEqDiff, reduceIte] <;> rfl))); done) | (apply Y6; (try simp only [evs]); first | rfl)))))
   ((first | apply g_run | apply g_run0) <;> (first | ((repeat' (first | exact Y0 | apply Y1 | exact Y2 | apply Y3 | ((first | apply Y4 | apply Y5); simp only [evs, Nat.reduceEqDiff, reduceIte] <;> rfl))); done) | exact Rn.mk (digit45 _ _) | apply Cn.mk))
   rintro v m' ⟨rfl, rfl⟩
   (repeat (first | (apply G.h; constructor <;> (first | exact Zc | apply gI | ((repeat' (first | exact Y0 | apply Y1 | ((first | apply Y4 | apply Y5); simp only [evs, Nat.reduceEqDiff, reduceIte, hD] <;> rfl))); done) | (apply Y6; (try simp only [evs, hD]); first | rfl)))))
   (refine g_fin (by repeat' first | exact Rs.nil | apply Rs.cons | (apply Y4; simp only [evs, Nat.reduceEqDiff, reduceIte, hD] <;> rfl)) (by (simp only [evs, Nat.reduceEqDiff, reduceIte, hD] <;> first | rfl | (congr 1; omega) | omega)) ?_)
   exact ⟨by rw [hb]; rfl, by simp only [m_upd, m_mem, m_start]; exact Grow.refl m⟩
  | false =>
   (repeat (first | (apply G.h; constructor <;> (first | exact Zc | apply gI | ((repeat' (first | exact Y0 | apply Y1 | ((first | apply Y4 | apply Y5); simp only [evs, Nat.reduceEqDiff, reduceIte] <;> rfl))); done) | (apply Y6; (try simp only [evs]); first | rfl)))))
   ((first | apply g_run | apply g_run0) <;> (first | ((repeat' (first | exact Y0 | apply Y1 | exact Y2 | apply Y3 | ((first | apply Y4 | apply Y5); simp only [evs, Nat.reduceEqDiff, reduceIte] <;> rfl))); done) | exact Rn.mk (digit45 _ _) | apply Cn.mk))
   rintro v m' ⟨rfl, rfl⟩
   (repeat (first | (apply G.h; constructor <;> (first | exact Zc | apply gI | ((repeat' (first | exact Y0 | apply Y1 | ((first | apply Y4 | apply Y5); simp only [evs, Nat.reduceEqDiff, reduceIte, hD] <;> rfl))); done) | (apply Y6; (try simp only [evs, hD]); first | rfl)))))
   ((first | apply g_run | apply g_run0) <;> (first | ((repeat' (first | exact Y0 | apply Y1 | exact Y2 | apply Y3 | ((first | apply Y4 | apply Y5); simp only [evs, Nat.reduceEqDiff, reduceIte, hD] <;> rfl))); done) | exact Rn.mk (word46 _ _) | apply Cn.mk))
   rintro v m2 ⟨rfl, hg⟩
   simp only [m_upd, m_mem, m_start] at hg
   cases hw : wordB s with
   | true =>
    have hb : nameB s = false := by unfold nameB; rw [hw]; simp
    (repeat (first | (apply G.h; constructor <;> (first | exact Zc | apply gI | ((repeat' (first | exact Y0 | apply Y1 | ((first | apply Y4 | apply Y5); simp only [evs, Nat.reduceEqDiff, reduceIte, hD, hw] <;> rfl))); done) | (apply Y6; (try simp only [evs, hD, hw]); first | rfl)))))
    (refine g_fin (by repeat' first | exact Rs.nil | apply Rs.cons | (apply Y4; simp only [evs, Nat.reduceEqDiff, reduceIte, hD, hw] <;> rfl)) (by (simp only [evs, Nat.reduceEqDiff, reduceIte, hD, hw] <;> first | rfl | (congr 1; omega) | omega)) ?_)
    exact ⟨by rw [hb]; rfl, by simp only [m_upd, m_mem, m_start]; exact hg⟩
   | false =>
    have hnb : nameB s = (List.range s.length).all (goodAt s) := by unfold nameB; rw [hemp, hw]; simp
    (repeat (first | (apply G.h; constructor <;> (first | exact Zc | apply gI | ((repeat' (first | exact Y0 | apply Y1 | ((first | apply Y4 | apply Y5); simp only [evs, Nat.reduceEqDiff, reduceIte, hD, hw] <;> rfl))); done) | (apply Y6; (try simp only [evs, hD, hw]); first | rfl)))))
    refine ewp_loop (ι := Nat) (fun i a => a.n = 34 ∧ a.defers = [] ∧ a.m = m2 ∧ a.tmp 0 = .string ⟨⟨s⟩⟩ ∧ a.tmp 3 = .int .i64 i ∧ i ≤ s.length ∧ ∀ j, j < i → goodAt s j = true) (fun i => s.length - i) 0 ?_ ?_
    ·exact ⟨by (simp only [evs, Nat.reduceEqDiff, reduceIte] <;> first | rfl | (congr 1; omega) | omega), by (simp only [evs, Nat.reduceEqDiff, reduceIte] <;> first | rfl | (congr 1; omega) | omega), by (simp only [evs, Nat.reduceEqDiff, reduceIte] <;> first | rfl | (congr 1; omega) | omega), by (simp only [evs, Nat.reduceEqDiff, reduceIte] <;> first | rfl | (congr 1; omega) | omega), by (simp only [evs, Nat.reduceEqDiff, reduceIte] <;> first | rfl | (congr 1; omega) | omega), by omega, fun j hj => by omega⟩
    rintro p a ⟨hn, hd, hm, h0, h3, hp, hgd⟩ ih
    rcases Nat.lt_or_ge p s.length with hlt | hge
    ·have hc2 : nth s p = some s[p] := by rw [nth_get, List.getElem?_eq_getElem hlt]
     have hga : goodAt s p = (letterN s[p].toNat || (decide (p ≠ 0) && digitN s[p].toNat)) := by
      unfold goodAt; rw [List.getElem?_eq_getElem hlt]
     have h00 : p = 0 → s[p] = c := by
      intro h
      subst h
      rw [nth_get, List.getElem?_eq_getElem hlt] at hc
      exact Option.some.inj hc
     generalize s[p] = c2 at hc2 hga h00
     have next : goodAt s p = true → ∀ j, j < p + 1 → goodAt s j = true := by
      intro hb j hj
      rcases Nat.lt_or_ge j p with h | h
      ·exact hgd j h
      ·obtain rfl : j = p := by omega
       exact hb
     cases hL2 : letterN c2.toNat with
     | true =>
      (repeat (first | (apply G.h; constructor <;> (first | exact Zc | apply gI | ((repeat' (first | exact Y0 | apply Y1 | ((first | apply Y4 | apply Y5); simp only [evs, Nat.reduceEqDiff, reduceIte, hn, hd, hm, h0, h3] <;> rfl))); done) | (apply Y6; (try simp only [evs, hn, hd, hm, h0, h3]); first | rfl)))))
      ((first | apply g_run | apply g_run0) <;> (first | ((repeat' (first | exact Y0 | apply Y1 | exact Y2 | apply Y3 | ((first | apply Y4 | apply Y5); simp only [evs, Nat.reduceEqDiff, reduceIte, hn, hd, hm, h0, h3] <;> rfl))); done) | exact Rn.mk (letter44 _ _) | apply Cn.mk))
      rintro v m' ⟨rfl, rfl⟩
      (repeat (first | (apply G.h; constructor <;> (first | exact Zc | apply gI | ((repeat' (first | exact Y0 | apply Y1 | ((first | apply Y4 | apply Y5); simp only [evs, Nat.reduceEqDiff, reduceIte, hn, hd, hm, h0, h3, hL2] <;> rfl))); done) | (apply Y6; (try simp only [evs, hn, hd, hm, h0, h3, hL2]); first | rfl)))))
      refine ih (p + 1) _ ?_ (by omega)
      exact ⟨by (simp only [evs, Nat.reduceEqDiff, reduceIte, hn] <;> first | rfl | (congr 1; omega) | omega), by (simp only [evs, Nat.reduceEqDiff, reduceIte, hd] <;> first | rfl | (congr 1; omega) | omega), by (simp only [evs, Nat.reduceEqDiff, reduceIte, hm] <;> first | rfl | (congr 1; omega) | omega), by (simp only [evs, Nat.reduceEqDiff, reduceIte, h0] <;> first | rfl | (congr 1; omega) | omega), by (simp only [evs, Nat.reduceEqDiff, reduceIte, h3] <;> first | rfl | (congr 1; omega) | omega), hlt, next (by rw [hga, hL2]; rfl)⟩
     | false =>
      cases hD2 : digitN c2.toNat with
      | true =>
       have hp0 : p ≠ 0 := by
        intro h
        rw [h00 h, hD] at hD2
        cases hD2
       have hpd : decide (p ≠ 0) = true := decide_eq_true hp0
       (repeat (first | (apply G.h; constructor <;> (first | exact Zc | apply gI | ((repeat' (first | exact Y0 | apply Y1 | ((first | apply Y4 | apply Y5); simp only [evs, Nat.reduceEqDiff, reduceIte, hn, hd, hm, h0, h3] <;> rfl))); done) | (apply Y6; (try simp only [evs, hn, hd, hm, h0, h3]); first | rfl)))))
       ((first | apply g_run | apply g_run0) <;> (first | ((repeat' (first | exact Y0 | apply Y1 | exact Y2 | apply Y3 | ((first | apply Y4 | apply Y5); simp only [evs, Nat.reduceEqDiff, reduceIte, hn, hd, hm, h0, h3] <;> rfl))); done) | exact Rn.mk (letter44 _ _) | apply Cn.mk))
       rintro v m' ⟨rfl, rfl⟩
       (repeat (first | (apply G.h; constructor <;> (first | exact Zc | apply gI | ((repeat' (first | exact Y0 | apply Y1 | ((first | apply Y4 | apply Y5); simp only [evs, Nat.reduceEqDiff, reduceIte, hn, hd, hm, h0, h3, hL2] <;> rfl))); done) | (apply Y6; (try simp only [evs, hn, hd, hm, h0, h3, hL2]); first | rfl)))))
       ((first | apply g_run | apply g_run0) <;> (first | ((repeat' (first | exact Y0 | apply Y1 | exact Y2 | apply Y3 | ((first | apply Y4 | apply Y5); simp only [evs, Nat.reduceEqDiff, reduceIte, hn, hd, hm, h0, h3, hL2] <;> rfl))); done) | exact Rn.mk (digit45 _ _) | apply Cn.mk))
       rintro v m' ⟨rfl, rfl⟩
       (repeat (first | (apply G.h; constructor <;> (first | exact Zc | apply gI | ((repeat' (first | exact Y0 | apply Y1 | ((first | apply Y4 | apply Y5); simp only [evs, Nat.reduceEqDiff, reduceIte, hn, hd, hm, h0, h3, hL2, hD2] <;> rfl))); done) | (apply Y6; (try simp only [evs, hn, hd, hm, h0, h3, hL2, hD2]); first | rfl)))))
       refine ih (p + 1) _ ?_ (by omega)
       exact ⟨by (simp only [evs, Nat.reduceEqDiff, reduceIte, hn] <;> first | rfl | (congr 1; omega) | omega), by (simp only [evs, Nat.reduceEqDiff, reduceIte, hd] <;> first | rfl | (congr 1; omega) | omega), by (simp only [evs, Nat.reduceEqDiff, reduceIte, hm] <;> first | rfl | (congr 1; omega) | omega), by (simp only [evs, Nat.reduceEqDiff, reduceIte, h0] <;> first | rfl | (congr 1; omega) | omega), by (simp only [evs, Nat.reduceEqDiff, reduceIte, h3] <;> first | rfl | (congr 1; omega) | omega), hlt, next (by rw [hga, hL2, hD2, hpd]; rfl)⟩
      | false =>
       have hb := bad p hlt (by rw [hga, hL2, hD2]; simp)
       (repeat (first | (apply G.h; constructor <;> (first | exact Zc | apply gI | ((repeat' (first | exact Y0 | apply Y1 | ((first | apply Y4 | apply Y5); simp only [evs, Nat.reduceEqDiff, reduceIte, hn, hd, hm, h0, h3] <;> rfl))); done) | (apply Y6; (try simp only [evs, hn, hd, hm, h0, h3]); first | rfl)))))
       ((first | apply g_run | apply g_run0) <;> (first | ((repeat' (first | exact Y0 | apply Y1 | exact Y2 | apply Y3 | ((first | apply Y4 | apply Y5); simp only [evs, Nat.reduceEqDiff, reduceIte, hn, hd, hm, h0, h3] <;> rfl))); done) | exact Rn.mk (letter44 _ _) | apply Cn.mk))
       rintro v m' ⟨rfl, rfl⟩
       (repeat (first | (apply G.h; constructor <;> (first | exact Zc | apply gI | ((repeat' (first | exact Y0 | apply Y1 | ((first | apply Y4 | apply Y5); simp only [evs, Nat.reduceEqDiff, reduceIte, hn, hd, hm, h0, h3, hL2] <;> rfl))); done) | (apply Y6; (try simp only [evs, hn, hd, hm, h0, h3, hL2]); first | rfl)))))
       ((first | apply g_run | apply g_run0) <;> (first | ((repeat' (first | exact Y0 | apply Y1 | exact Y2 | apply Y3 | ((first | apply Y4 | apply Y5); simp only [evs, Nat.reduceEqDiff, reduceIte, hn, hd, hm, h0, h3, hL2] <;> rfl))); done) | exact Rn.mk (digit45 _ _) | apply Cn.mk))
       rintro v m' ⟨rfl, rfl⟩
       (repeat (first | (apply G.h; constructor <;> (first | exact Zc | apply gI | ((repeat' (first | exact Y0 | apply Y1 | ((first | apply Y4 | apply Y5); simp only [evs, Nat.reduceEqDiff, reduceIte, hn, hd, hm, h0, h3, hL2, hD2] <;> rfl))); done) | (apply Y6; (try simp only [evs, hn, hd, hm, h0, h3, hL2, hD2]); first | rfl)))))
       (refine g_fin (by repeat' first | exact Rs.nil | apply Rs.cons | (apply Y4; simp only [evs, Nat.reduceEqDiff, reduceIte, hn, hd, hm, h0, h3, hL2, hD2] <;> rfl)) (by (simp only [evs, Nat.reduceEqDiff, reduceIte, hn, hd, hm, h0, h3, hL2, hD2] <;> first | rfl | (congr 1; omega) | omega)) ?_)
       exact ⟨by rw [hb]; rfl, by simp only [m_upd, m_mem, hm]; exact hg⟩
    ·have hall : (List.range s.length).all (goodAt s) = true := by
      rw [List.all_eq_true]
      intro j hj
      exact hgd j (by have := List.mem_range.1 hj; omega)
     (repeat (first | (apply G.h; constructor <;> (first | exact Zc | apply gI | ((repeat' (first | exact Y0 | apply Y1 | ((first | apply Y4 | apply Y5); simp only [evs, Nat.reduceEqDiff, reduceIte, hn, hd, hm, h0, h3] <;> rfl))); done) | (apply Y6; (try simp only [evs, hn, hd, hm, h0, h3]); first | rfl)))))
     (refine g_fin (by repeat' first | exact Rs.nil | apply Rs.cons | (apply Y4; simp only [evs, Nat.reduceEqDiff, reduceIte, hn, hd, hm, h0, h3] <;> rfl)) (by (simp only [evs, Nat.reduceEqDiff, reduceIte, hn, hd, hm, h0, h3] <;> first | rfl | (congr 1; omega) | omega)) ?_)
     exact ⟨by rw [hnb, hall]; rfl, by simp only [m_upd, m_mem, hm]; exact hg⟩
end Go.Proofs.YtihokakelnfdgaaDoor

namespace Go.Proofs.YtihokakelnfdgaaDoor
open Go Go.Ev
set_option maxRecDepth 100000
set_option linter.unusedVariables false
set_option linter.unusedSimpArgs false
set_option pp.maxSteps 1500
attribute [local irreducible] quiet allocs effect wp ret wpO Runs Act.tmp Act.eval fin results Tree.set binOp loadAt storeAt target wanted cellsFrom

def mayB (kind : Int) (p : Nat) : Bool :=
 if p = 0 then decide (kind = 1) else if p = 1 then decide (2 ≤ kind ∧ kind ≤ 13) else if p = 2 then decide (14 ≤ kind ∧ kind ≤ 32 ∧ kind ≠ 22) else if p = 3 then decide (kind = 2) else
 if p = 4 then decide (kind = 2 ∨ kind = 5) else if p = 5 then decide (kind = 19 ∨ kind = 29 ∨ kind = 30) else if p = 6 then decide (kind = 19) else decide (kind = 22)

set_option maxHeartbeats 2000000 in
theorem may29 (kind : Int) (p : Nat) (m : Mem) (hp : p ≤ 7) : Runs evEnv 55 [.int .i64 kind, .int .i64 p] m fun v m' => v = .bool (mayB kind p) ∧ m' = m := by
 refine runs_start rfl rfl rfl rfl ?_
 (repeat' (first | (apply G.h; constructor <;> (first | exact Zc | apply gI | ((repeat' (first | exact Y0 | apply Y1 | ((first | apply Y4 | apply Y5); simp only [evs, Nat.reduceEqDiff, reduceIte] <;> rfl))); done) | (apply Y6; (try simp only [evs]); first | rfl))) | (apply g_split <;> (first | (apply Ev.mk; (simp only [evs, Nat.reduceEqDiff, reduceIte] <;> rfl)) | (apply Dn.mk; (simp only [evs, Nat.reduceEqDiff, reduceIte] <;> rfl)) | (apply g_wpO) | intro h | constructor | fail))))
 all_goals
  (refine g_fin (by repeat' first | exact Rs.nil | apply Rs.cons | (apply Y4; simp only [evs, Nat.reduceEqDiff, reduceIte] <;> rfl)) (by (simp only [evs, Nat.reduceEqDiff, reduceIte] <;> first | rfl | (congr 1; omega) | omega)) ?_)
  refine ⟨congrArg Value.bool ?_, by (simp only [evs, Nat.reduceEqDiff, reduceIte] <;> first | rfl | (congr 1; omega) | omega)⟩
  unfold mayB
  (repeat' split) <;> first | (exfalso; omega) | exact (decide_eq_true (by omega)).symm | exact (decide_eq_false (by omega)).symm

set_option maxHeartbeats 2000000 in
theorem may62 (kind : Int) (p : Nat) (m : Mem) (hp : p ≤ 7) : Runs evEnv 63 [.int .i64 kind, .int .i64 p] m fun v m' => v = .bool (mayB kind p) ∧ m' = m := by
 refine runs_start rfl rfl rfl rfl ?_
 (repeat' (first | (apply G.h; constructor <;> (first | exact Zc | apply gI | ((repeat' (first | exact Y0 | apply Y1 | ((first | apply Y4 | apply Y5); simp only [evs, Nat.reduceEqDiff, reduceIte] <;> rfl))); done) | (apply Y6; (try simp only [evs]); first | rfl))) | (apply g_split <;> (first | (apply Ev.mk; (simp only [evs, Nat.reduceEqDiff, reduceIte] <;> rfl)) | (apply Dn.mk; (simp only [evs, Nat.reduceEqDiff, reduceIte] <;> rfl)) | (apply g_wpO) | intro h | constructor | fail))))
 all_goals
  (refine g_fin (by repeat' first | exact Rs.nil | apply Rs.cons | (apply Y4; simp only [evs, Nat.reduceEqDiff, reduceIte] <;> rfl)) (by (simp only [evs, Nat.reduceEqDiff, reduceIte] <;> first | rfl | (congr 1; omega) | omega)) ?_)
  refine ⟨congrArg Value.bool ?_, by (simp only [evs, Nat.reduceEqDiff, reduceIte] <;> first | rfl | (congr 1; omega) | omega)⟩
  unfold mayB
  (repeat' split) <;> first | (exfalso; omega) | exact (decide_eq_true (by omega)).symm | exact (decide_eq_false (by omega)).symm

def placeN (kind n i : Int) : Nat := if kind = 1 ∨ kind = 2 then 1 else if kind = 12 ∨ kind = 31 then (if i < n - 1 then 6 else 3) else if kind = 21 then 7 else 2

set_option maxHeartbeats 2000000 in
theorem place28 (x : Nd) (i : Nat) (m : Mem) (h0 : 0 ≤ x.n) (h1 : x.n ≤ 9223372036854775807) : Runs evEnv 54 [.agg ⟨x.val⟩, .int .i64 i] m fun v m' => v = .int .i64 (placeN x.kind x.n i) ∧ Grow m m' := by
 refine runs_start rfl rfl rfl rfl ?_
 (repeat' (first | (apply G.h; constructor <;> (first | exact Zc | apply gI | ((repeat' (first | exact Y0 | apply Y1 | ((first | apply Y4 | apply Y5); simp only [evs, Nat.reduceEqDiff, reduceIte] <;> rfl))); done) | (apply Y6; (try simp only [evs]); first | exact Row.load1 (row_new _ _ _ _) rfl rfl rfl))) | (apply g_split <;> (first | (apply Ev.mk; (simp only [evs, Nat.reduceEqDiff, reduceIte] <;> rfl)) | (apply Dn.mk; (simp only [evs, Nat.reduceEqDiff, reduceIte] <;> rfl)) | (apply g_wpO) | intro h | constructor | fail))))
 all_goals
  (refine g_fin (by repeat' first | exact Rs.nil | apply Rs.cons | (apply Y4; simp only [evs, Nat.reduceEqDiff, reduceIte] <;> rfl)) (by (simp only [evs, Nat.reduceEqDiff, reduceIte] <;> first | rfl | (congr 1; omega) | omega)) ?_)
  refine ⟨congrArg (Value.int .i64) ?_, ?_⟩
  ·unfold placeN
   (repeat' split) <;> first | rfl | (exfalso; omega)
  ·simp only [m_upd, m_mem, m_start]
   exact (Grow.refl _).new _

end Go.Proofs.YtihokakelnfdgaaDoor

namespace Go.Proofs.YtihokakelnfdgaaDoor
open Go Go.Ev
set_option maxRecDepth 100000
set_option linter.unusedVariables false
set_option linter.unusedSimpArgs false
set_option pp.maxSteps 1500
attribute [local irreducible] quiet allocs effect wp ret wpO Runs Act.tmp Act.eval fin results Tree.set binOp loadAt storeAt target wanted cellsFrom

def signs : List (List UInt8) := [[61, 61], [33, 61], [60], [60, 61], [62], [62, 61], [43], [45], [42], [47], [37]]
def rightB (x : Nd) : Bool :=
 if x.kind = 3 ∨ x.kind = 11 ∨ x.kind = 19 ∨ x.kind = 22 ∨ x.kind = 30 then nameB x.text else
 if x.kind = 12 then nameB x.text && decide (0 ≤ x.num ∧ x.num ≤ 16 ∧ x.n = x.num + 1) else
 if x.kind = 31 then decide (0 ≤ x.num ∧ x.num ≤ 16 ∧ x.n = x.num + 1) else
 if x.kind = 14 then decide (0 ≤ x.num ∧ x.num ≤ 2305843009213693951) else
 if x.kind = 28 ∨ x.kind = 32 then decide (1 ≤ x.n ∧ x.n ≤ 17) else
 if x.kind = 23 then decide (x.text ∈ signs) else true

set_option maxHeartbeats 2000000 in
theorem right31 (x : Nd) (m : Mem) (hx : x.ok) (hs : x.text.length ≤ 9223372036854775807) : Runs evEnv 57 [.agg ⟨x.val⟩] m fun v m' => v = .bool (rightB x) ∧ Grow m m' := by
 obtain ⟨⟨k1, k2⟩, ⟨n1, n2⟩, ⟨u1, u2⟩, ⟨p1, p2⟩⟩ := hx
 refine runs_start rfl rfl rfl rfl ?_
 cases hN : nameB x.text
 all_goals
  (repeat' (first | (apply G.h; constructor <;> (first | exact Zc | apply gI | ((repeat' (first | exact Y0 | apply Y1 | ((first | apply Y4 | apply Y5); simp only [evs, Nat.reduceEqDiff, reduceIte, hN] <;> rfl))); done) | (apply Y6; (try simp only [evs, hN]); first | exact Row.load1 (row_new _ _ _ _) rfl rfl rfl))) | (apply g_split <;> (first | (apply Ev.mk; (simp only [evs, Nat.reduceEqDiff, reduceIte, hN] <;> rfl)) | (apply Dn.mk; (simp only [evs, Nat.reduceEqDiff, reduceIte, hN] <;> rfl)) | (apply g_wpO) | intro h | constructor | fail)) | (((first | apply g_run | apply g_run0) <;> (first | ((repeat' (first | exact Y0 | apply Y1 | exact Y2 | apply Y3 | ((first | apply Y4 | apply Y5); simp only [evs, Nat.reduceEqDiff, reduceIte, hN] <;> rfl))); done) | exact Rn.mk (name61 _ _ hs) | apply Cn.mk)); rintro v m' ⟨rfl, rfl⟩)))
  all_goals
   (refine g_fin (by repeat' first | exact Rs.nil | apply Rs.cons | (apply Y4; simp only [evs, Nat.reduceEqDiff, reduceIte, hN] <;> rfl)) (by (simp only [evs, Nat.reduceEqDiff, reduceIte, hN] <;> first | rfl | (congr 1; omega) | omega)) ?_)
   refine ⟨congrArg Value.bool ?_, by simp only [m_upd, m_mem, m_start]; exact (Grow.refl _).new _⟩
   unfold rightB
   simp only [hN]
   (repeat' split) <;> first | rfl | (exfalso; omega) | exact (decide_eq_true (by omega)).symm | exact (decide_eq_false (by omega)).symm | (simp only [Bool.true_and, Bool.false_and]; first | rfl | exact (decide_eq_true (by omega)).symm | exact (decide_eq_false (by omega)).symm) | exact (decide_eq_true (by simp_all [signs])).symm | exact (decide_eq_false (by simp_all [signs])).symm
end Go.Proofs.YtihokakelnfdgaaDoor

namespace Go.Proofs.YtihokakelnfdgaaDoor
open Go Go.Ev
set_option maxRecDepth 100000
set_option linter.unusedVariables false
set_option linter.unusedSimpArgs false
set_option pp.maxSteps 1500
attribute [local irreducible] quiet allocs effect wp ret wpO Runs Act.tmp Act.eval fin results Tree.set binOp loadAt storeAt target wanted cellsFrom
def fieldsB (x : Nd) : Bool :=
 if x.kind = 3 ∨ x.kind = 11 ∨ x.kind = 12 ∨ x.kind = 19 ∨ x.kind = 22 ∨ x.kind = 30 then nameB x.text else
 if x.kind = 14 then decide (0 ≤ x.num ∧ x.num ≤ 2305843009213693951) else
 if x.kind = 23 then decide (x.text ∈ signs) else true

set_option maxHeartbeats 2000000 in
theorem fields64 (x : Nd) (m : Mem) (hx : x.ok) (hs : x.text.length ≤ 9223372036854775807) : Runs evEnv 65 [.agg ⟨x.val⟩] m fun v m' => v = .bool (fieldsB x) ∧ Grow m m' := by
 obtain ⟨⟨k1, k2⟩, ⟨n1, n2⟩, ⟨u1, u2⟩, ⟨p1, p2⟩⟩ := hx
 refine runs_start rfl rfl rfl rfl ?_
 by_cases h23 : x.kind = 23
 ·have hf : fieldsB x = decide (x.text ∈ signs) := by simp [fieldsB, h23]
  (repeat (first | (apply G.h; constructor <;> (first | exact Zc | apply gI | ((repeat' (first | exact Y0 | apply Y1 | ((first | apply Y4 | apply Y5); simp only [evs, Nat.reduceEqDiff, reduceIte, h23] <;> rfl))); done) | (apply Y6; (try simp only [evs, h23]); first | exact Row.load1 (row_new _ _ _ _) rfl rfl rfl)))))
  obtain ⟨m2, hst, hrow, hoth, hnx⟩ := (row_new (m.new (rowObj x.val 43 0)) (List.replicate 11 (.string ⟨⟨[]⟩⟩)) 140 0).fill (E := evEnv) (t := 140) (k := 11) (v := .agg ⟨signs.map fun w => .string ⟨⟨w⟩⟩⟩) (by decide) rfl rfl rfl rfl rfl
  have hg : Grow m m2 := (((Grow.refl m).new _).new _).wrote (Nat.le_succ _) hoth hnx
  have hbox : Row m2 m.next x.val 43 0 := ((row_new m x.val 43 0).keep_new _).keep (by rw [hnx]; exact Nat.le_refl _) (hoth _ (Nat.ne_of_lt (Nat.lt_succ_self _)))
  apply ewpO_store
  focus exact want_none
  focus (simp only [evs, Nat.reduceEqDiff, reduceIte] <;> rfl)
  focus (simp only [evs, Nat.reduceEqDiff, reduceIte] <;> rfl)
  focus (simp only [evs]; exact hst)
  (repeat (first | (apply G.h; constructor <;> (first | exact Zc | apply gI | ((repeat' (first | exact Y0 | apply Y1 | ((first | apply Y4 | apply Y5); simp only [evs, Nat.reduceEqDiff, reduceIte] <;> rfl))); done) | (apply Y6; (try simp only [evs]); first | rfl)))))
  refine ewp_loop (ι := Nat) (fun i a => a.n = 40 ∧ a.defers = [] ∧ a.m = m2 ∧ a.tmp 1 = .pointer (some ⟨m.next, 0, none⟩) ∧ a.tmp 3 = .pointer (some ⟨m.next + 1, 0, none⟩) ∧ a.tmp 4 = .int .i64 i ∧ i ≤ 11 ∧ ∀ j, j < i → signs[j]? ≠ some x.text) (fun i => 11 - i) 0 ?_ ?_
  ·exact ⟨by (simp only [evs, Nat.reduceEqDiff, reduceIte] <;> first | rfl | (congr 1; omega) | omega), by (simp only [evs, Nat.reduceEqDiff, reduceIte] <;> first | rfl | (congr 1; omega) | omega), by (simp only [evs, Nat.reduceEqDiff, reduceIte] <;> first | rfl | (congr 1; omega) | omega), by (simp only [evs, Nat.reduceEqDiff, reduceIte] <;> first | rfl | (congr 1; omega) | omega), by (simp only [evs, Nat.reduceEqDiff, reduceIte] <;> first | rfl | (congr 1; omega) | omega), by (simp only [evs, Nat.reduceEqDiff, reduceIte] <;> first | rfl | (congr 1; omega) | omega), by omega, fun j hj => by omega⟩
  rintro p a ⟨hn, hd, hm, h1, h3, h4, hp, hj⟩ ih
  rcases Nat.lt_or_ge p 11 with hlt | hge
  ·have hw : signs[p]? = some signs[p] := List.getElem?_eq_getElem hlt
   generalize signs[p] = w at hw
   have hxx : (signs.map fun w => Value.string ⟨⟨w⟩⟩)[0 + p * 1]? = some (.string ⟨⟨w⟩⟩) := by
    rw [show 0 + p * 1 = p by omega, List.getElem?_map, hw]; rfl
   (repeat' (first | (apply G.h; constructor <;> (first | exact Zc | apply gI | ((repeat' (first | exact Y0 | apply Y1 | ((first | apply Y4 | apply Y5); simp only [evs, Nat.reduceEqDiff, reduceIte, hn, hd, hm, h1, h3, h4] <;> rfl))); done) | (apply Y6; (try simp only [evs, hn, hd, hm, h1, h3, h4]); first | exact hrow.load1 rfl rfl hxx | exact hbox.load1 rfl rfl rfl))) | (apply g_split <;> (first | (apply Ev.mk; (simp only [evs, Nat.reduceEqDiff, reduceIte, hn, hd, hm, h1, h3, h4] <;> rfl)) | (apply Dn.mk; (simp only [evs, Nat.reduceEqDiff, reduceIte, hn, hd, hm, h1, h3, h4] <;> rfl)) | (apply g_wpO) | intro h | constructor | fail))))
   ·(refine g_fin (by repeat' first | exact Rs.nil | apply Rs.cons | (apply Y4; simp only [evs, Nat.reduceEqDiff, reduceIte, hn, hd, hm, h1, h3, h4] <;> rfl)) (by (simp only [evs, Nat.reduceEqDiff, reduceIte, hn, hd, hm, h1, h3, h4] <;> first | rfl | (congr 1; omega) | omega)) ?_)
    refine ⟨congrArg Value.bool ?_, by simp only [evs, hm]; exact hg⟩
    rw [hf]
    exact (decide_eq_true (List.mem_of_getElem? (by rw [hw, ‹w = x.text›]))).symm
   ·refine ih (p + 1) _ ?_ (by omega)
    refine ⟨by (simp only [evs, Nat.reduceEqDiff, reduceIte, hn] <;> first | rfl | (congr 1; omega) | omega), by (simp only [evs, Nat.reduceEqDiff, reduceIte, hd] <;> first | rfl | (congr 1; omega) | omega), by (simp only [evs, Nat.reduceEqDiff, reduceIte, hm] <;> first | rfl | (congr 1; omega) | omega), by (simp only [evs, Nat.reduceEqDiff, reduceIte, h1] <;> first | rfl | (congr 1; omega) | omega), by (simp only [evs, Nat.reduceEqDiff, reduceIte, h3] <;> first | rfl | (congr 1; omega) | omega), by (simp only [evs, Nat.reduceEqDiff, reduceIte, h4] <;> first | rfl | (congr 1; omega) | omega), hlt, fun j hjp => ?_⟩
    rcases Nat.lt_or_ge j p with h | h
    ·exact hj j h
    ·obtain rfl : j = p := by omega
     rw [hw]
     intro he
     exact absurd (Option.some.inj he) ‹_›
  ·(repeat (first | (apply G.h; constructor <;> (first | exact Zc | apply gI | ((repeat' (first | exact Y0 | apply Y1 | ((first | apply Y4 | apply Y5); simp only [evs, Nat.reduceEqDiff, reduceIte, hn, hd, hm, h1, h3, h4] <;> rfl))); done) | (apply Y6; (try simp only [evs, hn, hd, hm, h1, h3, h4]); first | rfl)))))
   (refine g_fin (by repeat' first | exact Rs.nil | apply Rs.cons | (apply Y4; simp only [evs, Nat.reduceEqDiff, reduceIte, hn, hd, hm, h1, h3, h4] <;> rfl)) (by (simp only [evs, Nat.reduceEqDiff, reduceIte, hn, hd, hm, h1, h3, h4] <;> first | rfl | (congr 1; omega) | omega)) ?_)
   refine ⟨congrArg Value.bool ?_, by simp only [evs, hm]; exact hg⟩
   rw [hf]
   refine (decide_eq_false fun hmem => ?_).symm
   obtain ⟨j, hj1, hj2⟩ := List.getElem_of_mem hmem
   have : j < 11 := hj1
   exact hj j (by omega) (by rw [List.getElem?_eq_getElem hj1, hj2])
 ·(repeat' (first | (apply G.h; constructor <;> (first | exact Zc | apply gI | ((repeat' (first | exact Y0 | apply Y1 | ((first | apply Y4 | apply Y5); simp only [evs, Nat.reduceEqDiff, reduceIte] <;> rfl))); done) | (apply Y6; (try simp only [evs]); first | exact Row.load1 (row_new _ _ _ _) rfl rfl rfl))) | (apply g_split <;> (first | (apply Ev.mk; (simp only [evs, Nat.reduceEqDiff, reduceIte] <;> rfl)) | (apply Dn.mk; (simp only [evs, Nat.reduceEqDiff, reduceIte] <;> rfl)) | (apply g_wpO) | intro h | constructor | fail)) | (((first | apply g_run | apply g_run0) <;> (first | ((repeat' (first | exact Y0 | apply Y1 | exact Y2 | apply Y3 | ((first | apply Y4 | apply Y5); simp only [evs, Nat.reduceEqDiff, reduceIte] <;> rfl))); done) | exact Rn.mk (name80 _ _ hs) | apply Cn.mk)); rintro v m2 ⟨rfl, hg⟩)))
  all_goals
   (refine g_fin (by repeat' first | exact Rs.nil | apply Rs.cons | (apply Y4; simp only [evs, Nat.reduceEqDiff, reduceIte] <;> rfl)) (by (simp only [evs, Nat.reduceEqDiff, reduceIte] <;> first | rfl | (congr 1; omega) | omega)) ?_)
   refine ⟨congrArg Value.bool ?_, ?_⟩
   ·unfold fieldsB
    (repeat' split) <;> first | rfl | (exfalso; omega) | exact (decide_eq_true (by omega)).symm | exact (decide_eq_false (by omega)).symm
   ·simp only [m_upd, m_mem, m_start] at *
    first | exact (Grow.refl _).new _ | exact ((Grow.refl _).new _).trans ‹_›
end Go.Proofs.YtihokakelnfdgaaDoor
