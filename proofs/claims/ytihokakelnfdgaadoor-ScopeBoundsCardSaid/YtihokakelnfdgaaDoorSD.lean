/- Part of a verified evaluator of the model's programs and of runs by it: SD0 SD1 SD SN0 SN. -/
import Derived.Test.YtihokakelnfdgaaDoorSCy
import Derived.Test.YtihokakelnfdgaaDoorEvU
namespace Go.Proofs.YtihokakelnfdgaaDoor
set_option linter.unusedSimpArgs false
open Go Go.Ev
set_option linter.unusedVariables false
set_option maxRecDepth 100000

/-- both ask the same of a node. -/
theorem ok_same (x : Nd) (h1 : 1 ≤ x.kind) (h2 : x.kind ≤ 32) : (okN x && rightB x) = okR x := by
 obtain ⟨kind, n, text, num, pos⟩ := x
 simp only at h1 h2
 revert n text num pos
 refine kinds h1 h2 (P := fun kind => ∀ (n : Int) (text : List UInt8) (num pos : Int), (okN ⟨kind, n, text, num, pos⟩ && rightB ⟨kind, n, text, num, pos⟩) = okR ⟨kind, n, text, num, pos⟩) ?_ ?_ ?_ ?_ ?_ ?_ ?_ ?_ ?_ ?_ ?_ ?_ ?_ ?_ ?_ ?_ ?_ ?_ ?_ ?_ ?_ ?_ ?_ ?_ ?_ ?_ ?_ ?_ ?_ ?_ ?_ ?_
 all_goals
  intro n text num pos
  simp [okN, fixedL, rightB, okR, countB, fieldsB]
 all_goals first
  | (intros; omega)
  | (by_cases h : n ≤ 2 <;> simp only [h, if_true, if_false] <;> rw [Bool.eq_iff_iff] <;> simp <;> omega)
  | (by_cases h : n ≤ 0 <;> simp only [h, if_true, if_false] <;> rw [Bool.eq_iff_iff] <;> simp <;> omega)
  | (cases nameB text <;> rw [Bool.eq_iff_iff] <;> simp <;> omega)

theorem place_many (x : Nd) (h : fixedL x = none) (h1 : 1 ≤ x.kind) (h2 : x.kind ≤ 32) (i : Nat) : placeN x.kind x.n i = placeR x i := by
 obtain ⟨kind, n, text, num, pos⟩ := x
 simp only at h1 h2
 revert h
 refine kinds h1 h2 (P := fun kind => fixedL ⟨kind, n, text, num, pos⟩ = none → placeN kind n i = placeR ⟨kind, n, text, num, pos⟩ i) ?_ ?_ ?_ ?_ ?_ ?_ ?_ ?_ ?_ ?_ ?_ ?_ ?_ ?_ ?_ ?_ ?_ ?_ ?_ ?_ ?_ ?_ ?_ ?_ ?_ ?_ ?_ ?_ ?_ ?_ ?_ ?_
 all_goals
  intro h
  first
  | (simp [fixedL] at h; done)
  | (exfalso; by_cases hn : n ≤ 2 <;> simp [fixedL, hn] at h; done)
  | (exfalso; by_cases hn : n ≤ 0 <;> simp [fixedL, hn] at h; done)
  | (simp [placeN, placeR]; done)
  | (simp [placeN, placeR])
theorem place_few (x : Nd) (ks : List Nat) (h : fixedL x = some ks) (h1 : 1 ≤ x.kind) (h2 : x.kind ≤ 32) (i : Nat) (hi : i < ks.length) : ks[i] = placeR x i := by
 obtain ⟨kind, n, text, num, pos⟩ := x
 simp only at h1 h2
 revert h
 refine kinds h1 h2 (P := fun kind => fixedL ⟨kind, n, text, num, pos⟩ = some ks → ks[i] = placeR ⟨kind, n, text, num, pos⟩ i) ?_ ?_ ?_ ?_ ?_ ?_ ?_ ?_ ?_ ?_ ?_ ?_ ?_ ?_ ?_ ?_ ?_ ?_ ?_ ?_ ?_ ?_ ?_ ?_ ?_ ?_ ?_ ?_ ?_ ?_ ?_ ?_
 all_goals
  intro h
  first
  | (simp [fixedL] at h; done)
  | (simp [fixedL] at h; subst h; rcases i with _ | _ | _ | i <;> first | (simp [placeR]; done) | (simp at hi; done) | (simp at hi; omega))
  | (simp [fixedL] at h; split at h <;> (cases h; rcases i with _ | _ | _ | i <;> first | (simp [placeR]; done) | (simp at hi; done) | (simp at hi; omega)))
end Go.Proofs.YtihokakelnfdgaaDoor

namespace Go.Proofs.YtihokakelnfdgaaDoor
set_option linter.unusedSimpArgs false
open Go Go.Ev
set_option linter.unusedVariables false
set_option maxRecDepth 100000

/-- one that waits: its node, what it is made of as a slice, how many were there. -/
structure WE where
  x : Nd
  lv : Value
  c : Nat
  du : Du
def WE.enc (w : WE) : List Value := w.x.val ++ [w.lv, .int .i64 w.c]
def WE.dc (w : WE) : Du × Nat := (w.du, w.c)
theorem enc_len (w : WE) : w.enc.length = 7 := rfl

/-- what a waiting one's slice says is what its rule says. -/
def PL (m : Mem) (w : WE) : Prop :=
  w.x.n = w.du.n ∧ (w.c : Int) ≤ w.x.n ∧ w.x.n ≤ 9223372036854775807 ∧ oneCell w.lv = true ∧ (∀ c : Nat, (c : Int) < w.x.n → w.du.pl c ≤ 7) ∧
  ((w.lv = .slice none 0 0 ∧ ∀ c : Nat, (c : Int) < w.x.n → placeN w.x.kind w.x.n c = w.du.pl c) ∨
   ∃ (kb cap : Nat) (ks : List Nat) (r : List Value), w.lv = .slice (some ⟨kb, 0, none⟩) ks.length cap ∧ Row m kb r 3 0 ∧ (∀ (i : Nat) (h : i < ks.length), r[i]? = some (.int .i64 ks[i])) ∧ w.x.n = ks.length ∧ ∀ (i : Nat) (h : i < ks.length), ks[i] = w.du.pl i)

theorem PL.keep {m m' : Mem} {w : WE} {wb : Nat} {r : List Value} (h : PL m w) (hr : Row m wb r 117 0) (hn : m.next ≤ m'.next) (hg : ∀ b, b ≠ wb → b < m.next → m'.get b = m.get b) : PL m' w := by
  obtain ⟨h1, h2, h3, h4, h5, h6⟩ := h
  refine ⟨h1, h2, h3, h4, h5, ?_⟩
  rcases h6 with h6 | ⟨kb, cap, ks, rk, e1, e2, e3, e4, e5⟩
  · exact .inl h6
  · exact .inr ⟨kb, cap, ks, rk, e1, e2.keep hn (hg kb (e2.ne hr (by decide)) e2.1), e3, e4, e5⟩
theorem PL.grow {m m' : Mem} {w : WE} (h : PL m w) (g : Grow m m') : PL m' w := by
  obtain ⟨h1, h2, h3, h4, h5, h6⟩ := h
  refine ⟨h1, h2, h3, h4, h5, ?_⟩
  rcases h6 with h6 | ⟨kb, cap, ks, rk, e1, e2, e3, e4, e5⟩
  · exact .inl h6
  · exact .inr ⟨kb, cap, ks, rk, e1, e2.grow g, e3, e4, e5⟩

theorem flat_get : ∀ (rs : List WE) (j f : Nat) (hj : j < rs.length) (hf : f < 7), (rs.flatMap WE.enc)[j * 7 + f]? = (rs[j].enc)[f]?
  | w :: rs, 0, f, hj, hf => by
    rw [List.flatMap_cons, List.getElem?_append_left (by rw [enc_len]; omega)]; simp
  | w :: rs, j + 1, f, hj, hf => by
    rw [List.flatMap_cons, List.getElem?_append_right (by rw [enc_len]; omega), enc_len, show (j + 1) * 7 + f - 7 = j * 7 + f by omega]
    have := flat_get rs j f (by simpa using hj) hf
    simpa using this
theorem flat_len : ∀ (rs : List WE), (rs.flatMap WE.enc).length = rs.length * 7
  | [] => rfl
  | w :: rs => by rw [List.flatMap_cons, List.length_append, enc_len, flat_len rs, List.length_cons]; omega

/-- those that wait, the last one first, in a block. -/
def Stk (m : Mem) (wb cap : Nat) (st : List WE) : Prop := ∃ r, Row m wb r 117 0 ∧ r.length = cap * 7 ∧ st.length ≤ cap ∧ r.take (st.length * 7) = st.reverse.flatMap WE.enc

theorem Stk.get {m : Mem} {wb cap : Nat} {st : List WE} (h : Stk m wb cap st) : ∃ r, Row m wb r 117 0 ∧ r.length = cap * 7 ∧ ∀ (j f : Nat) (hj : j < st.reverse.length), f < 7 → r[j * 7 + f]? = (st.reverse[j].enc)[f]? := by
  obtain ⟨r, h1, h2, h3, h4⟩ := h
  refine ⟨r, h1, h2, fun j f hj hf => ?_⟩
  have hj' : j < st.length := by simpa using hj
  rw [← flat_get _ j f hj hf, ← h4, List.getElem?_take_of_lt (by omega)]
theorem Stk.top {m : Mem} {wb cap : Nat} {w : WE} {st : List WE} (h : Stk m wb cap (w :: st)) : ∃ r, Row m wb r 117 0 ∧ r.length = cap * 7 ∧ st.length * 7 + 7 ≤ r.length ∧ ∀ f, f < 7 → r[0 + st.length * 7 + f]? = (w.enc)[f]? := by
  obtain ⟨r, h1, h2, h3⟩ := h.get
  obtain ⟨_, _, _, h4, _⟩ := h
  refine ⟨r, h1, h2, by simp only [List.length_cons] at h4; omega, fun f hf => ?_⟩
  have := h3 st.length f (by simp) hf
  rw [Nat.zero_add, this]
  congr 2
  simp
theorem Stk.pop {m : Mem} {wb cap : Nat} {w : WE} {st : List WE} (h : Stk m wb cap (w :: st)) : Stk m wb cap st := by
  obtain ⟨r, h1, h2, h3, h4⟩ := h
  simp only [List.length_cons] at h3 h4
  refine ⟨r, h1, h2, by omega, ?_⟩
  have : r.take (st.length * 7) = (r.take ((st.length + 1) * 7)).take (st.length * 7) := by rw [List.take_take]; congr 1; omega
  rw [this, h4, List.reverse_cons, List.flatMap_append, List.take_append_of_le_length (by rw [flat_len]; simp), List.take_of_length_le (by rw [flat_len]; simp)]
theorem Stk.keep {m m' : Mem} {wb cap : Nat} {st : List WE} (h : Stk m wb cap st) (hn : m.next ≤ m'.next) (hg : m'.get wb = m.get wb) : Stk m' wb cap st := by
  obtain ⟨r, h1, h2, h3, h4⟩ := h
  exact ⟨r, h1.keep hn hg, h2, h3, h4⟩
theorem Stk.grow {m m' : Mem} {wb cap : Nat} {st : List WE} (h : Stk m wb cap st) (g : Grow m m') : Stk m' wb cap st := by
  obtain ⟨r, h1, h2, h3, h4⟩ := h
  exact ⟨r, h1.grow g, h2, h3, h4⟩
/-- one more was there. -/
theorem Stk.more {m : Mem} {wb cap : Nat} {w : WE} {st : List WE} (h : Stk m wb cap (w :: st)) :
    ∃ m', storeAt evEnv m 3 wb (0 + st.length * 7 + 6) (.int .i64 ((w.c + 1 : Nat) : Int)) = some m' ∧ Stk m' wb cap ({ w with c := w.c + 1 } :: st) ∧ (∀ b, b ≠ wb → m'.get b = m.get b) ∧ m'.next = m.next := by
  obtain ⟨r, h1, h2, h3, h4⟩ := h
  simp only [List.length_cons] at h3 h4
  obtain ⟨m', e1, e2, e3, e4⟩ := h1.store (E := evEnv) (t := 3) (o := 0 + st.length * 7 + 6) (k := 1) (v := .int .i64 ((w.c + 1 : Nat) : Int)) (by decide) rfl rfl rfl (by omega) rfl
  refine ⟨m', e1, ⟨_, e2, by rw [put_length, h2], by simp only [List.length_cons]; omega, ?_⟩, e3, e4⟩
  simp only [List.length_cons, cellsOf, put]
  rw [List.take_set, h4, List.reverse_cons, List.reverse_cons, List.flatMap_append, List.flatMap_append]
  have hl : (st.reverse.flatMap WE.enc).length = st.length * 7 := by rw [flat_len]; simp
  rw [List.set_append_right _ _ (by omega), hl, show 0 + st.length * 7 + 6 - st.length * 7 = 6 by omega]
  rfl
/-- one that waits, behind the others. -/
theorem Stk.push {m : Mem} {wb cap : Nat} {st : List WE} (h : Stk m wb cap st) (w : WE) (hw : oneCell w.lv = true) (hs : st.length ≤ 1000000) :
    ∃ wb' cap' m', effect.append m 117 7 80 (.slice (some ⟨wb, 0, none⟩) st.length cap) 1 w.enc = some (.slice (some ⟨wb', 0, none⟩) (st.length + 1) cap', m') ∧ Stk m' wb' cap' (w :: st) ∧ (∀ b, b ≠ wb → b < m.next → m'.get b = m.get b) ∧ m.next ≤ m'.next ∧ (wb' = wb ∨ wb' = m.next) := by
  obtain ⟨r, h1, h2, h3, h4⟩ := h
  obtain ⟨wb', cap', m', r', e1, e2, e3, e4, e5, e6, e7, e8⟩ := append_row (bytes := 80) (k := 1) (new := w.enc) h1 h2 h3 rfl (by unfold oneCell at hw; simp [WE.enc, Nd.val, oneCell]; exact hw) (by omega) (by omega) (by omega)
  refine ⟨wb', cap', m', e1, ⟨r', e2, e3, by simpa using e4, ?_⟩, e6, e7, e8⟩
  rw [List.length_cons, e5, h4, List.reverse_cons, List.flatMap_append]
  simp

theorem pop_empty : ∀ (st : List (Du × Nat)), (pop st).isEmpty = true ↔ ∀ q ∈ st, (q.2 : Int) = q.1.n
  | [] => by simp [pop]
  | (x, c) :: st => by
    simp only [pop]
    by_cases h : (c : Int) = x.n
    · rw [if_pos h, pop_empty st]; simp [h]
    · rw [if_neg h]; simp [h]

/-- what places answers makes one that waits. -/
theorem PL.of {m : Mem} {x : Nd} {lv : Value} (h : LV m lv (fixedL x)) (hk1 : 1 ≤ x.kind) (hk2 : x.kind ≤ 32) (ho : okN x = true) (hr : okR x = true) (hn : x.n ≤ 9223372036854775807) :
    (lv = .slice none 0 0 ∨ ∃ kb n c, lv = .slice (some ⟨kb, 0, none⟩) n c) ∧ PL m ⟨x, lv, 0, x.du⟩ := by
  have hcnt : countB x = true := by unfold okR at hr; exact (Bool.and_eq_true_iff.1 hr).1
  have h0 := count_pos hcnt
  have hle : ∀ c : Nat, (c : Int) < x.n → x.du.pl c ≤ 7 := fun c hc => placeR_le hcnt c hc
  cases hf : fixedL x with
  | none =>
    rw [hf] at h
    obtain rfl : lv = .slice none 0 0 := h
    exact ⟨.inl rfl, rfl, h0, hn, rfl, hle, .inl ⟨rfl, fun c _ => place_many x hf hk1 hk2 c⟩⟩
  | some ks =>
    rw [hf] at h
    have hnk : x.n = ks.length := by
      unfold okN at ho
      rw [hf] at ho
      exact of_decide_eq_true ho
    rcases h with ⟨rfl, rfl⟩ | ⟨kb, cap, r, rfl, hrow, hget⟩
    · refine ⟨.inl rfl, rfl, h0, hn, rfl, hle, .inl ⟨rfl, fun c hc => ?_⟩⟩
      have hc' : (c : Int) < x.n := hc
      simp only [List.length_nil] at hnk
      omega
    · exact ⟨.inr ⟨kb, _, cap, rfl⟩, rfl, h0, hn, rfl, hle, .inr ⟨kb, cap, ks, r, rfl, hrow, hget, hnk, fun i hi => place_few x ks hf hk1 hk2 i hi⟩⟩
theorem LV.grow {m m' : Mem} {lv : Value} {o : Option (List Nat)} (h : LV m lv o) (g : Grow m m') : LV m' lv o := by
  cases o with
  | none => exact h
  | some ks =>
    rcases h with h | ⟨kb, cap, r, e1, e2, e3⟩
    · exact .inl h
    · exact .inr ⟨kb, cap, r, e1, e2.grow g, e3⟩
end Go.Proofs.YtihokakelnfdgaaDoor

namespace Go.Proofs.YtihokakelnfdgaaDoor
open Go Go.Ev
set_option maxRecDepth 100000
set_option linter.unusedVariables false
set_option linter.unusedSimpArgs false
set_option pp.maxSteps 1500
attribute [local irreducible] quiet allocs effect wp ret wpO Runs Act.tmp Act.eval fin results Tree.set binOp loadAt storeAt target wanted cellsFrom

theorem len_w (st : List WE) (w : WE) : (w :: st).length = st.length + 1 := List.length_cons

def rootNd : Nd := ⟨0, 1, [], 0, 0⟩

set_option maxHeartbeats 4000000 in
theorem check14 (b off cap : Nat) (l : List Nd) (hok : ∀ x ∈ l, x.ok ∧ x.text.length ≤ 9223372036854775807) (hl : l.length ≤ 100000) (m : Mem) (hN : Nodes m b off l) (hbn : b < m.next) (h0 : l ≠ []) :
  Runs evEnv 27 [.slice (some ⟨b, off, none⟩) l.length cap] m fun v m' => Grow m m' ∧ ∃ p e : Nat, v = .tuple ⟨[.int .i64 p, .int .i64 e]⟩ ∧ (e = 0 ↔ okProg l = true) := by
 have hpos : 0 < l.length := List.length_pos_iff.2 h0
 refine runs_start rfl rfl rfl rfl ?_
 (repeat (first | (apply G.h; constructor <;> (first | exact Zc | apply gI | ((repeat' (first | exact Y0 | apply Y1 | ((first | apply Y4 | apply Y5); simp only [evs, Nat.reduceEqDiff, reduceIte] <;> rfl))); done) | (apply Y6; (try simp only [evs]); first | rfl)))))
 refine ewp_loop (ι := Nat × Nat × Nat × List WE × Mem) (fun i a => a.n = 134 ∧ a.defers = [] ∧ a.m = i.2.2.2.2 ∧ Grow m i.2.2.2.2 ∧ m.next ≤ i.2.1 ∧ Stk i.2.2.2.2 i.2.1 i.2.2.1 i.2.2.2.1 ∧ (∀ w ∈ i.2.2.2.1, PL i.2.2.2.2 w) ∧
   a.tmp 0 = .slice (some ⟨b, off, none⟩) l.length cap ∧ a.tmp 20 = .slice (some ⟨b, off, none⟩) l.length cap ∧ a.tmp 21 = .int .i64 l.length ∧ a.tmp 22 = .int .i64 i.1 ∧ a.tmp 4 = .slice (some ⟨i.2.1, 0, none⟩) i.2.2.2.1.length i.2.2.1 ∧
   i.1 ≤ l.length ∧ i.2.2.2.1.length ≤ i.1 + 1 ∧ okProg l = accept (l.drop i.1) (i.2.2.2.1.map WE.dc)) (fun i => l.length - i.1) (0, m.next + 1, 1, [⟨rootNd, .slice (some ⟨m.next, 0, none⟩) 1 1, 0, root⟩], (m.new (rowObj [.int .i64 0] 3 0)).new (rowObj (WE.enc ⟨rootNd, .slice (some ⟨m.next, 0, none⟩) 1 1, 0, root⟩) 117 0)) ?_ ?_
 ·refine ⟨by (simp only [evs, Nat.reduceEqDiff, reduceIte] <;> first | rfl | (congr 1; omega) | omega), by (simp only [evs, Nat.reduceEqDiff, reduceIte] <;> first | rfl | (congr 1; omega) | omega), by (simp only [evs, Nat.reduceEqDiff, reduceIte] <;> first | rfl | (congr 1; omega) | omega), ((Grow.refl m).new _).new _, Nat.le_succ _, ⟨_, row_new _ _ _ _, rfl, Nat.le_refl _, rfl⟩, ?_, by (simp only [evs, Nat.reduceEqDiff, reduceIte] <;> first | rfl | (congr 1; omega) | omega), by (simp only [evs, Nat.reduceEqDiff, reduceIte] <;> first | rfl | (congr 1; omega) | omega), by (simp only [evs, Nat.reduceEqDiff, reduceIte] <;> first | rfl | (congr 1; omega) | omega), by (simp only [evs, Nat.reduceEqDiff, reduceIte] <;> first | rfl | (congr 1; omega) | omega), by (simp only [evs, Nat.reduceEqDiff, reduceIte] <;> first | rfl | (congr 1; omega) | omega), Nat.zero_le _, Nat.le_refl _, by simp only [List.drop_zero]; rfl⟩
  intro w hw
  obtain rfl := List.mem_singleton.1 hw
  refine ⟨rfl, (by decide : (0 : Int) ≤ 1), (by decide : (1 : Int) ≤ 9223372036854775807), rfl, fun c _ => Nat.zero_le _, .inr ⟨m.next, 1, [0], [.int .i64 0], rfl, (row_new _ _ _ _).keep_new _, ?_, rfl, ?_⟩⟩
  ·intro i h; (rcases i with _ | i) <;> first | rfl | (simp only [List.length_cons, List.length_nil] at h; omega)
  ·intro i h; (rcases i with _ | i) <;> first | rfl | (simp only [List.length_cons, List.length_nil] at h; omega)
 rintro ⟨i, wb, wc, st, mi⟩ a ⟨hn, hd, hm, hg, hwb, hst, hpl, t0, t20, t21, t22, t4, hil, hsl, hacc⟩ ih
 simp only at hn hd hm hg hwb hst hpl t0 t20 t21 t22 t4 hil hsl hacc ih
 rcases Nat.lt_or_ge i l.length with hlt | hge
 ·have hx := (hN.grow hbn hg).all i hlt
  have hxok := hok l[i] (List.getElem_mem hlt)
  have hdrop : l.drop i = l[i] :: l.drop (i + 1) := List.drop_eq_getElem_cons hlt
  generalize l[i] = x at hx hxok hdrop
  obtain ⟨hxo, hxt⟩ := hxok
  (repeat (first | (apply G.h; constructor <;> (first | exact Zc | apply gI | ((repeat' (first | exact Y0 | apply Y1 | ((first | apply Y4 | apply Y5); simp only [evs, Nat.reduceEqDiff, reduceIte, hn, hd, hm, t0, t20, t21, t22, t4] <;> rfl))); done) | (apply Y6; (try simp only [evs, hn, hd, hm, t0, t20, t21, t22, t4]); first | exact hx)))))
  obtain ⟨m2, hst2, hrow, hoth, hnx⟩ := (row_new mi zeroNode 43 0).fill (E := evEnv) (t := 43) (k := 5) (v := .agg ⟨x.val⟩) (by decide) rfl rfl rfl rfl rfl
  have hg2 : Grow mi m2 := ((Grow.refl mi).new _).wrote (Nat.le_refl _) hoth hnx
  apply ewpO_store
  focus exact want_none
  focus (simp only [evs, Nat.reduceEqDiff, reduceIte] <;> rfl)
  focus (simp only [evs, Nat.reduceEqDiff, reduceIte] <;> rfl)
  focus (simp only [evs, hm]; exact hst2)
  (repeat (first | (apply G.h; constructor <;> (first | exact Zc | apply gI | ((repeat' (first | exact Y0 | apply Y1 | ((first | apply Y4 | apply Y5); simp only [evs, Nat.reduceEqDiff, reduceIte, hn, hd, hm, t0, t20, t21, t22, t4] <;> rfl))); done) | (apply Y6; (try simp only [evs, hn, hd, hm, t0, t20, t21, t22, t4]); first | rfl)))))
  refine ewp_loop (ι := List WE) (fun st a => a.n = 134 ∧ a.defers = [] ∧ a.m = m2 ∧ a.tmp 0 = .slice (some ⟨b, off, none⟩) l.length cap ∧ a.tmp 20 = .slice (some ⟨b, off, none⟩) l.length cap ∧ a.tmp 21 = .int .i64 l.length ∧ a.tmp 22 = .int .i64 i ∧ a.tmp 4 = .slice (some ⟨wb, 0, none⟩) st.length wc ∧ a.tmp 5 = .int .i64 i ∧ a.tmp 6 = .pointer (some ⟨mi.next, 0, none⟩) ∧
   Stk m2 wb wc st ∧ (∀ w ∈ st, PL m2 w) ∧ st.length ≤ i + 1 ∧ okProg l = accept (l.drop i) (st.map WE.dc)) (fun st => st.length) st ?_ ?_
  ·exact ⟨by (simp only [evs, Nat.reduceEqDiff, reduceIte, hn, hd, hm, t0, t20, t21, t22, t4] <;> first | rfl | (congr 1; omega) | omega), by (simp only [evs, Nat.reduceEqDiff, reduceIte, hn, hd, hm, t0, t20, t21, t22, t4] <;> first | rfl | (congr 1; omega) | omega), by (simp only [evs, Nat.reduceEqDiff, reduceIte, hn, hd, hm, t0, t20, t21, t22, t4] <;> first | rfl | (congr 1; omega) | omega), by (simp only [evs, Nat.reduceEqDiff, reduceIte, hn, hd, hm, t0, t20, t21, t22, t4] <;> first | rfl | (congr 1; omega) | omega), by (simp only [evs, Nat.reduceEqDiff, reduceIte, hn, hd, hm, t0, t20, t21, t22, t4] <;> first | rfl | (congr 1; omega) | omega), by (simp only [evs, Nat.reduceEqDiff, reduceIte, hn, hd, hm, t0, t20, t21, t22, t4] <;> first | rfl | (congr 1; omega) | omega), by (simp only [evs, Nat.reduceEqDiff, reduceIte, hn, hd, hm, t0, t20, t21, t22, t4] <;> first | rfl | (congr 1; omega) | omega), by (simp only [evs, Nat.reduceEqDiff, reduceIte, hn, hd, hm, t0, t20, t21, t22, t4] <;> first | rfl | (congr 1; omega) | omega), by (simp only [evs, Nat.reduceEqDiff, reduceIte, hn, hd, hm, t0, t20, t21, t22, t4] <;> first | rfl | (congr 1; omega) | omega), by (simp only [evs, Nat.reduceEqDiff, reduceIte, hn, hd, hm, t0, t20, t21, t22, t4] <;> first | rfl | (congr 1; omega) | omega), hst.grow hg2, fun w hw => (hpl w hw).grow hg2, hsl, hacc⟩
  clear hst hpl hsl hacc t4 st
  rintro st a ⟨jn, jd, jm, j0, j20, j21, j22, j4, j5, j6, hst, hpl, hsl, hacc⟩ ih2
  rw [hdrop] at hacc
  cases st with
  | nil =>
   have hz : ([] : List WE).length = 0 := rfl
   (repeat (first | (apply G.h; constructor <;> (first | exact Zc | apply gI | ((repeat' (first | exact Y0 | apply Y1 | ((first | apply Y4 | apply Y5); simp only [evs, Nat.reduceEqDiff, reduceIte, jn, jd, jm, j0, j20, j21, j22, j4, j5, j6] <;> rfl))); done) | (apply Y6; (try simp only [evs, jn, jd, jm, j0, j20, j21, j22, j4, j5, j6]); first | rfl)))))
   (refine g_fin (by repeat' first | exact Rs.nil | apply Rs.cons | (apply Y4; simp only [evs, Nat.reduceEqDiff, reduceIte, jn, jd, jm, j0, j20, j21, j22, j4, j5, j6] <;> rfl)) (by (simp only [evs, Nat.reduceEqDiff, reduceIte, jn, jd, jm, j0, j20, j21, j22, j4, j5, j6] <;> first | rfl | (congr 1; omega) | omega)) ?_)
   refine ⟨by simp only [evs, jm]; exact hg.trans hg2, i, 6, rfl, ?_⟩
   rw [hacc]
   simp [accept, pop]
  | cons w st =>
   have hlw : (w :: st).length = st.length + 1 := List.length_cons
   obtain ⟨r, hr, hrl, hr7, hrf⟩ := hst.top
   have r5 : r[0 + st.length * 7 + 5]? = some w.lv := hrf 5 (by omega)
   have r6 : r[0 + st.length * 7 + 6]? = some (.int .i64 w.c) := hrf 6 (by omega)
   have r1 : r[0 + st.length * 7 + 1]? = some (.int .i64 w.x.n) := hrf 1 (by omega)
   have hcap : st.length + 1 ≤ wc := by omega
   have hplw := hpl w List.mem_cons_self
   obtain ⟨p1, p2, p3, p4, p5, p6⟩ := hplw
   by_cases hcn : (w.c : Int) = w.x.n
   ·(repeat (first | (apply G.h; constructor <;> (first | exact Zc | apply gI | ((repeat' (first | exact Y0 | apply Y1 | ((first | apply Y4 | apply Y5); simp only [evs, Nat.reduceEqDiff, reduceIte, jn, jd, jm, j0, j20, j21, j22, j4, j5, j6] <;> rfl))); done) | (apply Y6; (try simp only [evs, jn, jd, jm, j0, j20, j21, j22, j4, j5, j6]); first | exact hr.load1 rfl rfl r6 | exact hr.load1 rfl rfl r1)))))
    refine ih2 st _ ?_ (by rw [hlw]; omega)
    refine ⟨by (simp only [evs, Nat.reduceEqDiff, reduceIte, jn, jd, jm, j0, j20, j21, j22, j4, j5, j6] <;> first | rfl | (congr 1; omega) | omega), by (simp only [evs, Nat.reduceEqDiff, reduceIte, jn, jd, jm, j0, j20, j21, j22, j4, j5, j6] <;> first | rfl | (congr 1; omega) | omega), by (simp only [evs, Nat.reduceEqDiff, reduceIte, jn, jd, jm, j0, j20, j21, j22, j4, j5, j6] <;> first | rfl | (congr 1; omega) | omega), by (simp only [evs, Nat.reduceEqDiff, reduceIte, jn, jd, jm, j0, j20, j21, j22, j4, j5, j6] <;> first | rfl | (congr 1; omega) | omega), by (simp only [evs, Nat.reduceEqDiff, reduceIte, jn, jd, jm, j0, j20, j21, j22, j4, j5, j6] <;> first | rfl | (congr 1; omega) | omega), by (simp only [evs, Nat.reduceEqDiff, reduceIte, jn, jd, jm, j0, j20, j21, j22, j4, j5, j6] <;> first | rfl | (congr 1; omega) | omega), by (simp only [evs, Nat.reduceEqDiff, reduceIte, jn, jd, jm, j0, j20, j21, j22, j4, j5, j6] <;> first | rfl | (congr 1; omega) | omega), by (simp only [evs, Nat.reduceEqDiff, reduceIte, jn, jd, jm, j0, j20, j21, j22, j4, j5, j6] <;> first | rfl | (congr 1; omega) | omega), by (simp only [evs, Nat.reduceEqDiff, reduceIte, jn, jd, jm, j0, j20, j21, j22, j4, j5, j6] <;> first | rfl | (congr 1; omega) | omega), by (simp only [evs, Nat.reduceEqDiff, reduceIte, jn, jd, jm, j0, j20, j21, j22, j4, j5, j6] <;> first | rfl | (congr 1; omega) | omega), hst.pop, fun w' hw' => hpl w' (List.mem_cons_of_mem _ hw'), by omega, ?_⟩
    rw [hacc, ← hdrop, List.map_cons]
    exact accept_pop _ _ _ _ (show (w.c : Int) = w.du.n by omega)
   ·have hclt : (w.c : Int) < w.x.n := by omega
    have hclt' : (w.c : Int) < w.du.n := by omega
    rw [List.map_cons, show w.dc = (w.du, w.c) from rfl, accept_cons _ _ _ _ _ hclt'] at hacc
    (repeat (first | (apply G.h; constructor <;> (first | exact Zc | apply gI | ((repeat' (first | exact Y0 | apply Y1 | ((first | apply Y4 | apply Y5); simp only [evs, Nat.reduceEqDiff, reduceIte, jn, jd, jm, j0, j20, j21, j22, j4, j5, j6] <;> rfl))); done) | (apply Y6; (try simp only [evs, jn, jd, jm, j0, j20, j21, j22, j4, j5, j6]); first | exact hr.load1 rfl rfl r6 | exact hr.load1 rfl rfl r1)))))
    have hagg : loadAt evEnv m2 43 wb (0 + st.length * 7) = some (.agg ⟨w.x.val⟩) := by
     refine hr.loadA (k := 5) rfl rfl rfl (by omega) ?_
     apply List.ext_getElem?
     intro f
     by_cases hf5 : f < 5
     ·rw [List.getElem?_take_of_lt hf5, List.getElem?_drop, hrf f (by omega)]
      unfold WE.enc
      rw [List.getElem?_append_left (show f < w.x.val.length from hf5)]
     ·rw [List.getElem?_eq_none (by rw [List.length_take]; omega), List.getElem?_eq_none (show w.x.val.length ≤ f by show 5 ≤ f; omega)]
    refine ewpO_cut (fun a' => ∃ m3, Grow m2 m3 ∧ a'.n = 134 ∧ a'.defers = [] ∧ a'.m = m3 ∧ a'.tmp 0 = .slice (some ⟨b, off, none⟩) l.length cap ∧ a'.tmp 20 = .slice (some ⟨b, off, none⟩) l.length cap ∧ a'.tmp 21 = .int .i64 l.length ∧ a'.tmp 22 = .int .i64 i ∧ a'.tmp 4 = .slice (some ⟨wb, 0, none⟩) (w :: st).length wc ∧ a'.tmp 5 = .int .i64 i ∧ a'.tmp 6 = .pointer (some ⟨mi.next, 0, none⟩) ∧
     a'.tmp 7 = .pointer (some ⟨wb, 0 + st.length * 7, none⟩) ∧ a'.tmp 8 = .int .i64 (w.du.pl w.c : Nat)) ?_ ?_
    ·clear ih ih2
     rcases p6 with ⟨hlv, hA⟩ | ⟨kb, kc, ks, rk, hlv, hk, hk2, hk3, hk4⟩
     ·rw [hlv] at r5
      (repeat (first | (apply G.h; constructor <;> (first | exact Zc | apply gI | ((repeat' (first | exact Y0 | apply Y1 | ((first | apply Y4 | apply Y5); simp only [evs, Nat.reduceEqDiff, reduceIte, jn, jd, jm, j0, j20, j21, j22, j4, j5, j6] <;> rfl))); done) | (apply Y6; (try simp only [evs, jn, jd, jm, j0, j20, j21, j22, j4, j5, j6]); first | exact hr.load1 rfl rfl r6 | exact hr.load1 rfl rfl r1 | exact hr.load1 rfl rfl r5 | exact hagg)))))
      ((first | apply g_run | apply g_run0) <;> (first | ((repeat' (first | exact Y0 | apply Y1 | exact Y2 | apply Y3 | ((first | apply Y4 | apply Y5); simp only [evs, Nat.reduceEqDiff, reduceIte, jn, jd, jm, j0, j20, j21, j22, j4, j5, j6] <;> rfl))); done) | exact Rn.mk (place28 w.x w.c _ (by omega) p3) | apply Cn.mk))
      rintro v m3 ⟨rfl, hg3⟩
      simp only [evs, jm] at hg3
      (repeat (first | (apply G.h; constructor <;> (first | exact Zc | apply gI | ((repeat' (first | exact Y0 | apply Y1 | ((first | apply Y4 | apply Y5); simp only [evs, Nat.reduceEqDiff, reduceIte, jn, jd, jm, j0, j20, j21, j22, j4, j5, j6] <;> rfl))); done) | (apply Y6; (try simp only [evs, jn, jd, jm, j0, j20, j21, j22, j4, j5, j6]); first | rfl)))))
      refine eret_nil ?_
      refine ⟨rfl, m3, hg3, by (simp only [evs, Nat.reduceEqDiff, reduceIte, jn, jd, jm, j0, j20, j21, j22, j4, j5, j6] <;> first | rfl | (congr 1; omega) | omega), by (simp only [evs, Nat.reduceEqDiff, reduceIte, jn, jd, jm, j0, j20, j21, j22, j4, j5, j6] <;> first | rfl | (congr 1; omega) | omega), by (simp only [evs, Nat.reduceEqDiff, reduceIte, jn, jd, jm, j0, j20, j21, j22, j4, j5, j6] <;> first | rfl | (congr 1; omega) | omega), by (simp only [evs, Nat.reduceEqDiff, reduceIte, jn, jd, jm, j0, j20, j21, j22, j4, j5, j6] <;> first | rfl | (congr 1; omega) | omega), by (simp only [evs, Nat.reduceEqDiff, reduceIte, jn, jd, jm, j0, j20, j21, j22, j4, j5, j6] <;> first | rfl | (congr 1; omega) | omega), by (simp only [evs, Nat.reduceEqDiff, reduceIte, jn, jd, jm, j0, j20, j21, j22, j4, j5, j6] <;> first | rfl | (congr 1; omega) | omega), by (simp only [evs, Nat.reduceEqDiff, reduceIte, jn, jd, jm, j0, j20, j21, j22, j4, j5, j6] <;> first | rfl | (congr 1; omega) | omega), by (simp only [evs, Nat.reduceEqDiff, reduceIte, jn, jd, jm, j0, j20, j21, j22, j4, j5, j6] <;> first | rfl | (congr 1; omega) | omega), by (simp only [evs, Nat.reduceEqDiff, reduceIte, jn, jd, jm, j0, j20, j21, j22, j4, j5, j6] <;> first | rfl | (congr 1; omega) | omega), by (simp only [evs, Nat.reduceEqDiff, reduceIte, jn, jd, jm, j0, j20, j21, j22, j4, j5, j6] <;> first | rfl | (congr 1; omega) | omega), by (simp only [evs, Nat.reduceEqDiff, reduceIte, jn, jd, jm, j0, j20, j21, j22, j4, j5, j6] <;> first | rfl | (congr 1; omega) | omega), ?_⟩
      rw [← hA w.c hclt]
      (simp only [evs, Nat.reduceEqDiff, reduceIte, jn, jd, jm, j0, j20, j21, j22, j4, j5, j6] <;> first | rfl | (congr 1; omega) | omega)
     ·rw [hlv] at r5
      have hci : w.c < ks.length := by omega
      have hk5 : rk[0 + w.c * 1]? = some (.int .i64 ks[w.c]) := by rw [show 0 + w.c * 1 = w.c by omega]; exact hk2 w.c hci
      (repeat (first | (apply G.h; constructor <;> (first | exact Zc | apply gI | ((repeat' (first | exact Y0 | apply Y1 | ((first | apply Y4 | apply Y5); simp only [evs, Nat.reduceEqDiff, reduceIte, jn, jd, jm, j0, j20, j21, j22, j4, j5, j6] <;> rfl))); done) | (apply Y6; (try simp only [evs, jn, jd, jm, j0, j20, j21, j22, j4, j5, j6]); first | exact hr.load1 rfl rfl r6 | exact hr.load1 rfl rfl r1 | exact hr.load1 rfl rfl r5 | exact hk.load1 rfl rfl hk5)))))
      refine eret_nil ?_
      refine ⟨rfl, m2, Grow.refl m2, by (simp only [evs, Nat.reduceEqDiff, reduceIte, jn, jd, jm, j0, j20, j21, j22, j4, j5, j6] <;> first | rfl | (congr 1; omega) | omega), by (simp only [evs, Nat.reduceEqDiff, reduceIte, jn, jd, jm, j0, j20, j21, j22, j4, j5, j6] <;> first | rfl | (congr 1; omega) | omega), by (simp only [evs, Nat.reduceEqDiff, reduceIte, jn, jd, jm, j0, j20, j21, j22, j4, j5, j6] <;> first | rfl | (congr 1; omega) | omega), by (simp only [evs, Nat.reduceEqDiff, reduceIte, jn, jd, jm, j0, j20, j21, j22, j4, j5, j6] <;> first | rfl | (congr 1; omega) | omega), by (simp only [evs, Nat.reduceEqDiff, reduceIte, jn, jd, jm, j0, j20, j21, j22, j4, j5, j6] <;> first | rfl | (congr 1; omega) | omega), by (simp only [evs, Nat.reduceEqDiff, reduceIte, jn, jd, jm, j0, j20, j21, j22, j4, j5, j6] <;> first | rfl | (congr 1; omega) | omega), by (simp only [evs, Nat.reduceEqDiff, reduceIte, jn, jd, jm, j0, j20, j21, j22, j4, j5, j6] <;> first | rfl | (congr 1; omega) | omega), by (simp only [evs, Nat.reduceEqDiff, reduceIte, jn, jd, jm, j0, j20, j21, j22, j4, j5, j6] <;> first | rfl | (congr 1; omega) | omega), by (simp only [evs, Nat.reduceEqDiff, reduceIte, jn, jd, jm, j0, j20, j21, j22, j4, j5, j6] <;> first | rfl | (congr 1; omega) | omega), by (simp only [evs, Nat.reduceEqDiff, reduceIte, jn, jd, jm, j0, j20, j21, j22, j4, j5, j6] <;> first | rfl | (congr 1; omega) | omega), by (simp only [evs, Nat.reduceEqDiff, reduceIte, jn, jd, jm, j0, j20, j21, j22, j4, j5, j6] <;> first | rfl | (congr 1; omega) | omega), ?_⟩
      rw [← hk4 w.c hci]
      (simp only [evs, Nat.reduceEqDiff, reduceIte, jn, jd, jm, j0, j20, j21, j22, j4, j5, j6] <;> first | rfl | (congr 1; omega) | omega)
    ·clear hagg jn jd jm j0 j20 j21 j22 j4 j5 j6
     rintro a ⟨m3, hg3, qn, qd, qm, q0, q20, q21, q22, q4, q5, q6, q7, q8⟩
     have hr3 := hr.grow hg3
     have hst3 := hst.grow hg3
     obtain ⟨m4, hs4, hst4, ho4, hn4⟩ := hst3.more
     have hg4 : Grow m m4 := ((hg.trans hg2).trans hg3).wrote hwb ho4 hn4
     have hb3 := hrow.grow hg3
     have hb4 : Row m4 mi.next x.val 43 0 := hb3.keep (Nat.le_of_eq hn4.symm) (ho4 _ (hb3.ne hr3 (by decide)))
     have hpl4 : ∀ w' ∈ ({ w with c := w.c + 1 } :: st : List WE), PL m4 w' := by
      have old : ∀ w' ∈ (w :: st), PL m4 w' := fun w' hw' => ((hpl w' hw').grow hg3).keep hr3 (Nat.le_of_eq hn4.symm) fun b hb _ => ho4 b hb
      intro w' hw'
      rcases List.mem_cons.1 hw' with rfl | hw'
      ·obtain ⟨z1, z2, z3, z4, z5, z6⟩ := old w List.mem_cons_self
       exact ⟨z1, show ((w.c + 1 : Nat) : Int) ≤ w.x.n by omega, z3, z4, z5, z6⟩
      ·exact old w' (List.mem_cons_of_mem _ hw')
     (repeat (first | (apply G.h; constructor <;> (first | exact Zc | apply gI | ((repeat' (first | exact Y0 | apply Y1 | ((first | apply Y4 | apply Y5); simp only [evs, Nat.reduceEqDiff, reduceIte, qn, qd, qm, q0, q20, q21, q22, q4, q5, q6, q7, q8] <;> rfl))); done) | (apply Y6; (try simp only [evs, qn, qd, qm, q0, q20, q21, q22, q4, q5, q6, q7, q8]); first | exact hr3.load1 rfl rfl r6)))))
     apply ewpO_store
     focus exact want_none
     focus (simp only [evs, Nat.reduceEqDiff, reduceIte, qn, qd, qm, q0, q20, q21, q22, q4, q5, q6, q7, q8] <;> rfl)
     focus (simp only [evs, Nat.reduceEqDiff, reduceIte, qn, qd, qm, q0, q20, q21, q22, q4, q5, q6, q7, q8] <;> rfl)
     focus (simp only [evs, qm]; exact hs4)
     (repeat (first | (apply G.h; constructor <;> (first | exact Zc | apply gI | ((repeat' (first | exact Y0 | apply Y1 | ((first | apply Y4 | apply Y5); simp only [evs, Nat.reduceEqDiff, reduceIte, qn, qd, qm, q0, q20, q21, q22, q4, q5, q6, q7, q8] <;> rfl))); done) | (apply Y6; (try simp only [evs, qn, qd, qm, q0, q20, q21, q22, q4, q5, q6, q7, q8]); first | exact hb4.load1 rfl rfl rfl)))))
     have hp7 := p5 w.c hclt
     ((first | apply g_run | apply g_run0) <;> (first | ((repeat' (first | exact Y0 | apply Y1 | exact Y2 | apply Y3 | ((first | apply Y4 | apply Y5); simp only [evs, Nat.reduceEqDiff, reduceIte, qn, qd, qm, q0, q20, q21, q22, q4, q5, q6, q7, q8] <;> rfl))); done) | exact Rn.mk (may29 _ _ _ hp7) | apply Cn.mk))
     rintro v m' ⟨rfl, rfl⟩
     cases hmay : mayB x.kind (w.du.pl w.c) with
     | false =>
      (repeat (first | (apply G.h; constructor <;> (first | exact Zc | apply gI | ((repeat' (first | exact Y0 | apply Y1 | ((first | apply Y4 | apply Y5); simp only [evs, Nat.reduceEqDiff, reduceIte, qn, qd, qm, q0, q20, q21, q22, q4, q5, q6, q7, q8, hmay] <;> rfl))); done) | (apply Y6; (try simp only [evs, qn, qd, qm, q0, q20, q21, q22, q4, q5, q6, q7, q8, hmay]); first | rfl)))))
      (refine g_fin (by repeat' first | exact Rs.nil | apply Rs.cons | (apply Y4; simp only [evs, Nat.reduceEqDiff, reduceIte, qn, qd, qm, q0, q20, q21, q22, q4, q5, q6, q7, q8, hmay] <;> rfl)) (by (simp only [evs, Nat.reduceEqDiff, reduceIte, qn, qd, qm, q0, q20, q21, q22, q4, q5, q6, q7, q8, hmay] <;> first | rfl | (congr 1; omega) | omega)) ?_)
      refine ⟨by simp only [evs]; exact hg4, i, 8, rfl, ?_⟩
      rw [hacc, hmay]
      simp
     | true =>
     obtain ⟨k1, k2⟩ := may_range hmay
     rw [hmay, Bool.true_and, ← ok_same x k1 k2] at hacc
     (repeat (first | (apply G.h; constructor <;> (first | exact Zc | apply gI | ((repeat' (first | exact Y0 | apply Y1 | ((first | apply Y4 | apply Y5); simp only [evs, Nat.reduceEqDiff, reduceIte, qn, qd, qm, q0, q20, q21, q22, q4, q5, q6, q7, q8, hmay] <;> rfl))); done) | (apply Y6; (try simp only [evs, qn, qd, qm, q0, q20, q21, q22, q4, q5, q6, q7, q8, hmay]); first | exact hb4.loadA rfl rfl rfl (Nat.le_refl 5) rfl)))))
     ((first | apply g_run | apply g_run0) <;> (first | ((repeat' (first | exact Y0 | apply Y1 | exact Y2 | apply Y3 | ((first | apply Y4 | apply Y5); simp only [evs, Nat.reduceEqDiff, reduceIte, qn, qd, qm, q0, q20, q21, q22, q4, q5, q6, q7, q8, hmay] <;> rfl))); done) | exact Rn.mk (places30 x _ hxo k1 k2) | apply Cn.mk))
     rintro v m5 ⟨lv, rfl, hg5, hlv⟩
     simp only [evs] at hg5
     have hb5 := hb4.grow hg5
     cases hokn : okN x with
     | false =>
      (repeat (first | (apply G.h; constructor <;> (first | exact Zc | apply gI | ((repeat' (first | exact Y0 | apply Y1 | ((first | apply Y4 | apply Y5); simp only [evs, Nat.reduceEqDiff, reduceIte, qn, qd, qm, q0, q20, q21, q22, q4, q5, q6, q7, q8, hmay, hokn] <;> rfl))); done) | (apply Y6; (try simp only [evs, qn, qd, qm, q0, q20, q21, q22, q4, q5, q6, q7, q8, hmay, hokn]); first | rfl)))))
      (refine g_fin (by repeat' first | exact Rs.nil | apply Rs.cons | (apply Y4; simp only [evs, Nat.reduceEqDiff, reduceIte, qn, qd, qm, q0, q20, q21, q22, q4, q5, q6, q7, q8, hmay, hokn] <;> rfl)) (by (simp only [evs, Nat.reduceEqDiff, reduceIte, qn, qd, qm, q0, q20, q21, q22, q4, q5, q6, q7, q8, hmay, hokn] <;> first | rfl | (congr 1; omega) | omega)) ?_)
      refine ⟨by simp only [evs]; exact hg4.trans hg5, i, 1, rfl, ?_⟩
      rw [hacc, hokn]
      simp
     | true =>
     (repeat (first | (apply G.h; constructor <;> (first | exact Zc | apply gI | ((repeat' (first | exact Y0 | apply Y1 | ((first | apply Y4 | apply Y5); simp only [evs, Nat.reduceEqDiff, reduceIte, qn, qd, qm, q0, q20, q21, q22, q4, q5, q6, q7, q8, hmay, hokn] <;> rfl))); done) | (apply Y6; (try simp only [evs, qn, qd, qm, q0, q20, q21, q22, q4, q5, q6, q7, q8, hmay, hokn]); first | exact hb5.loadA rfl rfl rfl (Nat.le_refl 5) rfl)))))
     ((first | apply g_run | apply g_run0) <;> (first | ((repeat' (first | exact Y0 | apply Y1 | exact Y2 | apply Y3 | ((first | apply Y4 | apply Y5); simp only [evs, Nat.reduceEqDiff, reduceIte, qn, qd, qm, q0, q20, q21, q22, q4, q5, q6, q7, q8, hmay, hokn] <;> rfl))); done) | exact Rn.mk (right31 x _ hxo hxt) | apply Cn.mk))
     rintro v m6 ⟨rfl, hg6⟩
     simp only [evs] at hg6
     have hb6 := hb5.grow hg6
     have hg46 := (hg4.trans hg5).trans hg6
     cases hri : rightB x with
     | false =>
      (repeat (first | (apply G.h; constructor <;> (first | exact Zc | apply gI | ((repeat' (first | exact Y0 | apply Y1 | ((first | apply Y4 | apply Y5); simp only [evs, Nat.reduceEqDiff, reduceIte, qn, qd, qm, q0, q20, q21, q22, q4, q5, q6, q7, q8, hmay, hokn, hri] <;> rfl))); done) | (apply Y6; (try simp only [evs, qn, qd, qm, q0, q20, q21, q22, q4, q5, q6, q7, q8, hmay, hokn, hri]); first | rfl)))))
      (refine g_fin (by repeat' first | exact Rs.nil | apply Rs.cons | (apply Y4; simp only [evs, Nat.reduceEqDiff, reduceIte, qn, qd, qm, q0, q20, q21, q22, q4, q5, q6, q7, q8, hmay, hokn, hri] <;> rfl)) (by (simp only [evs, Nat.reduceEqDiff, reduceIte, qn, qd, qm, q0, q20, q21, q22, q4, q5, q6, q7, q8, hmay, hokn, hri] <;> first | rfl | (congr 1; omega) | omega)) ?_)
      refine ⟨by simp only [evs]; exact hg46, i, 1, rfl, ?_⟩
      rw [hacc, hri]
      simp
     | true =>
     have hokr : okR x = true := by rw [← ok_same x k1 k2, hokn, hri]; rfl
     obtain ⟨hform, hplx⟩ := PL.of (hlv.grow hg6) k1 k2 hokn hokr hxo.2.1.2
     have hst6 := (hst4.grow hg5).grow hg6
     have hpl6 : ∀ w' ∈ ({ w with c := w.c + 1 } :: st : List WE), PL m6 w' := fun w' hw' => ((hpl4 w' hw').grow hg5).grow hg6
     have hlen4 : ({ w with c := w.c + 1 } :: st : List WE).length = (w :: st).length := rfl
     clear hlv
     rcases hform with rfl | ⟨kb, ln, kc, rfl⟩
     ·(repeat (first | (apply G.h; constructor <;> (first | exact Zc | apply gI | ((repeat' (first | exact Y0 | apply Y1 | ((first | apply Y4 | apply Y5); simp only [evs, Nat.reduceEqDiff, reduceIte, qn, qd, qm, q0, q20, q21, q22, q4, q5, q6, q7, q8, hmay, hokn, hri] <;> rfl))); done) | (apply Y6; (try simp only [evs, qn, qd, qm, q0, q20, q21, q22, q4, q5, q6, q7, q8, hmay, hokn, hri]); first | exact hb6.loadA rfl rfl rfl (Nat.le_refl 5) rfl)))))
      obtain ⟨wb', wc', m8, e1, e2, e3, e4, e5⟩ := (hst6.grow ((Grow.refl m6).new (rowObj (WE.enc (⟨x, .slice none 0 0, 0, x.du⟩ : WE)) 117 0))).push (⟨x, .slice none 0 0, 0, x.du⟩ : WE) rfl (by rw [hlen4, hlw]; omega)
      have hrn := row_new m6 (WE.enc (⟨x, .slice none 0 0, 0, x.du⟩ : WE)) 117 0
      apply ewpO_append
      focus exact want_none
      focus rfl
      focus rfl
      focus rfl
      focus rfl
      focus rfl
      focus rfl
      focus rfl
      focus rfl
      focus rfl
      focus (simp only [evs, Nat.reduceEqDiff, reduceIte, qn, qd, qm, q0, q20, q21, q22, q4, q5, q6, q7, q8, hmay, hokn, hri] <;> rfl)
      focus (simp only [evs, Nat.reduceEqDiff, reduceIte, qn, qd, qm, q0, q20, q21, q22, q4, q5, q6, q7, q8, hmay, hokn, hri] <;> rfl)
      focus (simp only [evs]; exact cellsIn_row (kc := 1) (new := WE.enc (⟨x, .slice none 0 0, 0, x.du⟩ : WE)) hrn (Nat.le_refl 7) rfl)
      focus (simp only [evs]; exact e1)
      focus (simp only [evs, qn]; rfl)
      (repeat (first | (apply G.h; constructor <;> (first | exact Zc | apply gI | ((repeat' (first | exact Y0 | apply Y1 | ((first | apply Y4 | apply Y5); simp only [evs, Nat.reduceEqDiff, reduceIte, qn, qd, qm, q0, q20, q21, q22, q4, q5, q6, q7, q8, hmay, hokn, hri] <;> rfl))); done) | (apply Y6; (try simp only [evs, qn, qd, qm, q0, q20, q21, q22, q4, q5, q6, q7, q8, hmay, hokn, hri]); first | rfl)))))
      have hg7 : Grow m6 (m6.new (rowObj (WE.enc (⟨x, .slice none 0 0, 0, x.du⟩ : WE)) 117 0)) := (Grow.refl m6).new _
      have hg07 := hg46.trans hg7
      have hg8 : Grow m m8 := ⟨Nat.le_trans hg07.1 e4, fun b' hb' => (e3 b' (by omega) (Nat.lt_of_lt_of_le hb' hg07.1)).trans (hg07.2 b' hb')⟩
      obtain ⟨rr, hrr, -⟩ := hst6.grow hg7
      refine ih (i + 1, wb', wc', (⟨x, .slice none 0 0, 0, x.du⟩ : WE) :: { w with c := w.c + 1 } :: st, m8) _ ?_ (by simp only; omega)
      refine ⟨by (simp only [evs, Nat.reduceEqDiff, reduceIte, qn, qd, qm, q0, q20, q21, q22, q4, q5, q6, q7, q8, hmay, hokn, hri] <;> first | rfl | (congr 1; omega) | omega), by (simp only [evs, Nat.reduceEqDiff, reduceIte, qn, qd, qm, q0, q20, q21, q22, q4, q5, q6, q7, q8, hmay, hokn, hri] <;> first | rfl | (congr 1; omega) | omega), by (simp only [evs, Nat.reduceEqDiff, reduceIte, qn, qd, qm, q0, q20, q21, q22, q4, q5, q6, q7, q8, hmay, hokn, hri] <;> first | rfl | (congr 1; omega) | omega), hg8, ?_, e2, ?_, by (simp only [evs, Nat.reduceEqDiff, reduceIte, qn, qd, qm, q0, q20, q21, q22, q4, q5, q6, q7, q8, hmay, hokn, hri] <;> first | rfl | (congr 1; omega) | omega), by (simp only [evs, Nat.reduceEqDiff, reduceIte, qn, qd, qm, q0, q20, q21, q22, q4, q5, q6, q7, q8, hmay, hokn, hri] <;> first | rfl | (congr 1; omega) | omega), by (simp only [evs, Nat.reduceEqDiff, reduceIte, qn, qd, qm, q0, q20, q21, q22, q4, q5, q6, q7, q8, hmay, hokn, hri] <;> first | rfl | (congr 1; omega) | omega), by (simp only [evs, Nat.reduceEqDiff, reduceIte, qn, qd, qm, q0, q20, q21, q22, q4, q5, q6, q7, q8, hmay, hokn, hri] <;> first | rfl | (congr 1; omega) | omega), by (simp only [evs, Nat.reduceEqDiff, reduceIte, qn, qd, qm, q0, q20, q21, q22, q4, q5, q6, q7, q8, hmay, hokn, hri] <;> first | rfl | (congr 1; omega) | omega), hlt, ?_, ?_⟩
      ·rcases e5 with rfl | rfl
       ·exact hwb
       ·exact hg07.1
      ·intro w' hw'
       rcases List.mem_cons.1 hw' with rfl | hw'
       ·exact (hplx.grow hg7).keep hrr e4 e3
       ·exact ((hpl6 w' hw').grow hg7).keep hrr e4 e3
      ·simp only [List.length_cons] at hsl ⊢; omega
      ·rw [hacc, hokn, hri]; rfl
     ·(repeat (first | (apply G.h; constructor <;> (first | exact Zc | apply gI | ((repeat' (first | exact Y0 | apply Y1 | ((first | apply Y4 | apply Y5); simp only [evs, Nat.reduceEqDiff, reduceIte, qn, qd, qm, q0, q20, q21, q22, q4, q5, q6, q7, q8, hmay, hokn, hri] <;> rfl))); done) | (apply Y6; (try simp only [evs, qn, qd, qm, q0, q20, q21, q22, q4, q5, q6, q7, q8, hmay, hokn, hri]); first | exact hb6.loadA rfl rfl rfl (Nat.le_refl 5) rfl)))))
      obtain ⟨wb', wc', m8, e1, e2, e3, e4, e5⟩ := (hst6.grow ((Grow.refl m6).new (rowObj (WE.enc (⟨x, .slice (some ⟨kb, 0, none⟩) ln kc, 0, x.du⟩ : WE)) 117 0))).push (⟨x, .slice (some ⟨kb, 0, none⟩) ln kc, 0, x.du⟩ : WE) rfl (by rw [hlen4, hlw]; omega)
      have hrn := row_new m6 (WE.enc (⟨x, .slice (some ⟨kb, 0, none⟩) ln kc, 0, x.du⟩ : WE)) 117 0
      apply ewpO_append
      focus exact want_none
      focus rfl
      focus rfl
      focus rfl
      focus rfl
      focus rfl
      focus rfl
      focus rfl
      focus rfl
      focus rfl
      focus (simp only [evs, Nat.reduceEqDiff, reduceIte, qn, qd, qm, q0, q20, q21, q22, q4, q5, q6, q7, q8, hmay, hokn, hri] <;> rfl)
      focus (simp only [evs, Nat.reduceEqDiff, reduceIte, qn, qd, qm, q0, q20, q21, q22, q4, q5, q6, q7, q8, hmay, hokn, hri] <;> rfl)
      focus (simp only [evs]; exact cellsIn_row (kc := 1) (new := WE.enc (⟨x, .slice (some ⟨kb, 0, none⟩) ln kc, 0, x.du⟩ : WE)) hrn (Nat.le_refl 7) rfl)
      focus (simp only [evs]; exact e1)
      focus (simp only [evs, qn]; rfl)
      (repeat (first | (apply G.h; constructor <;> (first | exact Zc | apply gI | ((repeat' (first | exact Y0 | apply Y1 | ((first | apply Y4 | apply Y5); simp only [evs, Nat.reduceEqDiff, reduceIte, qn, qd, qm, q0, q20, q21, q22, q4, q5, q6, q7, q8, hmay, hokn, hri] <;> rfl))); done) | (apply Y6; (try simp only [evs, qn, qd, qm, q0, q20, q21, q22, q4, q5, q6, q7, q8, hmay, hokn, hri]); first | rfl)))))
      have hg7 : Grow m6 (m6.new (rowObj (WE.enc (⟨x, .slice (some ⟨kb, 0, none⟩) ln kc, 0, x.du⟩ : WE)) 117 0)) := (Grow.refl m6).new _
      have hg07 := hg46.trans hg7
      have hg8 : Grow m m8 := ⟨Nat.le_trans hg07.1 e4, fun b' hb' => (e3 b' (by omega) (Nat.lt_of_lt_of_le hb' hg07.1)).trans (hg07.2 b' hb')⟩
      obtain ⟨rr, hrr, -⟩ := hst6.grow hg7
      refine ih (i + 1, wb', wc', (⟨x, .slice (some ⟨kb, 0, none⟩) ln kc, 0, x.du⟩ : WE) :: { w with c := w.c + 1 } :: st, m8) _ ?_ (by simp only; omega)
      refine ⟨by (simp only [evs, Nat.reduceEqDiff, reduceIte, qn, qd, qm, q0, q20, q21, q22, q4, q5, q6, q7, q8, hmay, hokn, hri] <;> first | rfl | (congr 1; omega) | omega), by (simp only [evs, Nat.reduceEqDiff, reduceIte, qn, qd, qm, q0, q20, q21, q22, q4, q5, q6, q7, q8, hmay, hokn, hri] <;> first | rfl | (congr 1; omega) | omega), by (simp only [evs, Nat.reduceEqDiff, reduceIte, qn, qd, qm, q0, q20, q21, q22, q4, q5, q6, q7, q8, hmay, hokn, hri] <;> first | rfl | (congr 1; omega) | omega), hg8, ?_, e2, ?_, by (simp only [evs, Nat.reduceEqDiff, reduceIte, qn, qd, qm, q0, q20, q21, q22, q4, q5, q6, q7, q8, hmay, hokn, hri] <;> first | rfl | (congr 1; omega) | omega), by (simp only [evs, Nat.reduceEqDiff, reduceIte, qn, qd, qm, q0, q20, q21, q22, q4, q5, q6, q7, q8, hmay, hokn, hri] <;> first | rfl | (congr 1; omega) | omega), by (simp only [evs, Nat.reduceEqDiff, reduceIte, qn, qd, qm, q0, q20, q21, q22, q4, q5, q6, q7, q8, hmay, hokn, hri] <;> first | rfl | (congr 1; omega) | omega), by (simp only [evs, Nat.reduceEqDiff, reduceIte, qn, qd, qm, q0, q20, q21, q22, q4, q5, q6, q7, q8, hmay, hokn, hri] <;> first | rfl | (congr 1; omega) | omega), by (simp only [evs, Nat.reduceEqDiff, reduceIte, qn, qd, qm, q0, q20, q21, q22, q4, q5, q6, q7, q8, hmay, hokn, hri] <;> first | rfl | (congr 1; omega) | omega), hlt, ?_, ?_⟩
      ·rcases e5 with rfl | rfl
       ·exact hwb
       ·exact hg07.1
      ·intro w' hw'
       rcases List.mem_cons.1 hw' with rfl | hw'
       ·exact (hplx.grow hg7).keep hrr e4 e3
       ·exact ((hpl6 w' hw').grow hg7).keep hrr e4 e3
      ·simp only [List.length_cons] at hsl ⊢; omega
      ·rw [hacc, hokn, hri]; rfl
 ·(repeat (first | (apply G.h; constructor <;> (first | exact Zc | apply gI | ((repeat' (first | exact Y0 | apply Y1 | ((first | apply Y4 | apply Y5); simp only [evs, Nat.reduceEqDiff, reduceIte, hn, hd, hm, t0, t20, t21, t22, t4] <;> rfl))); done) | (apply Y6; (try simp only [evs, hn, hd, hm, t0, t20, t21, t22, t4]); first | rfl)))))
  have hdr : l.drop i = [] := List.drop_of_length_le hge
  rw [hdr] at hacc
  refine ewp_loop (ι := Nat × Mem) (fun q a => a.n = 134 ∧ a.defers = [] ∧ a.m = q.2 ∧ Grow mi q.2 ∧ a.tmp 0 = .slice (some ⟨b, off, none⟩) l.length cap ∧ a.tmp 119 = .slice (some ⟨wb, 0, none⟩) st.length wc ∧ a.tmp 120 = .int .i64 st.length ∧ a.tmp 121 = .int .i64 q.1 ∧ q.1 ≤ st.length ∧
   ∀ (j : Nat) (hj : j < st.reverse.length), j < q.1 → (st.reverse[j].c : Int) = st.reverse[j].x.n) (fun q => st.length - q.1) (0, mi) ?_ ?_
  ·exact ⟨by (simp only [evs, Nat.reduceEqDiff, reduceIte, hn, hd, hm, t0, t20, t21, t22, t4] <;> first | rfl | (congr 1; omega) | omega), by (simp only [evs, Nat.reduceEqDiff, reduceIte, hn, hd, hm, t0, t20, t21, t22, t4] <;> first | rfl | (congr 1; omega) | omega), by (simp only [evs, Nat.reduceEqDiff, reduceIte, hn, hd, hm, t0, t20, t21, t22, t4] <;> first | rfl | (congr 1; omega) | omega), Grow.refl mi, by (simp only [evs, Nat.reduceEqDiff, reduceIte, hn, hd, hm, t0, t20, t21, t22, t4] <;> first | rfl | (congr 1; omega) | omega), by (simp only [evs, Nat.reduceEqDiff, reduceIte, hn, hd, hm, t0, t20, t21, t22, t4] <;> first | rfl | (congr 1; omega) | omega), by (simp only [evs, Nat.reduceEqDiff, reduceIte, hn, hd, hm, t0, t20, t21, t22, t4] <;> first | rfl | (congr 1; omega) | omega), by (simp only [evs, Nat.reduceEqDiff, reduceIte, hn, hd, hm, t0, t20, t21, t22, t4] <;> first | rfl | (congr 1; omega) | omega), Nat.zero_le _, fun j hj h => absurd h (Nat.not_lt_zero j)⟩
  clear ih
  rintro ⟨j, mj⟩ a ⟨zn, zd, zm, zg, z0, z119, z120, z121, zj, zall⟩ ih
  simp only at zn zd zm zg z0 z119 z120 z121 zj zall ih
  obtain ⟨r, hr, hrl, hrf⟩ := (hst.grow zg).get
  obtain ⟨_, _, _, hcap, _⟩ := hst
  rcases Nat.lt_or_ge j st.length with hj | hj
  ·have hjr : j < st.reverse.length := by simpa using hj
   have hw : st.reverse[j] ∈ st := List.mem_reverse.1 (List.getElem_mem hjr)
   have hrj := hrf j
   have zall' := zall
   generalize hwj : st.reverse[j] = w at hw hrj
   have hagg : loadAt evEnv mj 117 wb (0 + j * 7) = some (.agg ⟨w.enc⟩) := by
    refine hr.loadA (k := 7) rfl rfl rfl (by omega) ?_
    apply List.ext_getElem?
    intro f
    by_cases hf7 : f < 7
    ·rw [List.getElem?_take_of_lt hf7, List.getElem?_drop, Nat.zero_add, hrj f hjr hf7, hwj]
    ·rw [List.getElem?_eq_none (by rw [List.length_take]; omega), List.getElem?_eq_none (by rw [enc_len]; omega)]
   obtain ⟨p1, p2, p3, p4, p5, p6⟩ := hpl w hw
   obtain ⟨m2, hst2, hrow, hoth, hnx⟩ := (row_new mj (WE.enc ⟨⟨0, 0, [], 0, 0⟩, .slice none 0 0, 0, root⟩) 117 0).fill (E := evEnv) (t := 117) (k := 7) (v := .agg ⟨w.enc⟩) (by decide) rfl rfl rfl rfl (by unfold oneCell at p4; simp [WE.enc, Nd.val, cellsOf, oneCell]; exact p4)
   have hg2 : Grow mj m2 := ((Grow.refl mj).new _).wrote (Nat.le_refl _) hoth hnx
   by_cases hlt2 : (w.c : Int) < w.x.n
   ·(repeat (first | (apply G.h; constructor <;> (first | exact Zc | apply gI | ((repeat' (first | exact Y0 | apply Y1 | ((first | apply Y4 | apply Y5); simp only [evs, Nat.reduceEqDiff, reduceIte, zn, zd, zm, z0, z119, z120, z121] <;> rfl))); done) | (apply Y6; (try simp only [evs, zn, zd, zm, z0, z119, z120, z121]); first | exact hagg)))))
    apply ewpO_store
    focus exact want_none
    focus (simp only [evs, Nat.reduceEqDiff, reduceIte, zn, zd, zm, z0, z119, z120, z121] <;> rfl)
    focus (simp only [evs, Nat.reduceEqDiff, reduceIte, zn, zd, zm, z0, z119, z120, z121] <;> rfl)
    focus (simp only [evs, zm]; exact hst2)
    (repeat (first | (apply G.h; constructor <;> (first | exact Zc | apply gI | ((repeat' (first | exact Y0 | apply Y1 | ((first | apply Y4 | apply Y5); simp only [evs, Nat.reduceEqDiff, reduceIte, zn, zd, zm, z0, z119, z120, z121] <;> rfl))); done) | (apply Y6; (try simp only [evs, zn, zd, zm, z0, z119, z120, z121]); first | exact hrow.load1 rfl rfl (show (WE.enc w)[6]? = _ from rfl) | exact hrow.load1 rfl rfl (show (WE.enc w)[1]? = _ from rfl))))))
    (refine g_fin (by repeat' first | exact Rs.nil | apply Rs.cons | (apply Y4; simp only [evs, Nat.reduceEqDiff, reduceIte, zn, zd, zm, z0, z119, z120, z121] <;> rfl)) (by (simp only [evs, Nat.reduceEqDiff, reduceIte, zn, zd, zm, z0, z119, z120, z121] <;> first | rfl | (congr 1; omega) | omega)) ?_)
    refine ⟨by simp only [evs]; exact hg.trans (zg.trans hg2), l.length, 6, rfl, ?_⟩
    rw [hacc]
    have : accept [] (st.map WE.dc) = false := by
     simp only [accept]
     cases hp : (pop (st.map WE.dc)).isEmpty with
     | false => rfl
     | true =>
      have := (pop_empty _).1 hp (w.dc) (List.mem_map_of_mem hw)
      simp only [WE.dc] at this
      omega
    simp [this]
   ·(repeat (first | (apply G.h; constructor <;> (first | exact Zc | apply gI | ((repeat' (first | exact Y0 | apply Y1 | ((first | apply Y4 | apply Y5); simp only [evs, Nat.reduceEqDiff, reduceIte, zn, zd, zm, z0, z119, z120, z121] <;> rfl))); done) | (apply Y6; (try simp only [evs, zn, zd, zm, z0, z119, z120, z121]); first | exact hagg)))))
    apply ewpO_store
    focus exact want_none
    focus (simp only [evs, Nat.reduceEqDiff, reduceIte, zn, zd, zm, z0, z119, z120, z121] <;> rfl)
    focus (simp only [evs, Nat.reduceEqDiff, reduceIte, zn, zd, zm, z0, z119, z120, z121] <;> rfl)
    focus (simp only [evs, zm]; exact hst2)
    (repeat (first | (apply G.h; constructor <;> (first | exact Zc | apply gI | ((repeat' (first | exact Y0 | apply Y1 | ((first | apply Y4 | apply Y5); simp only [evs, Nat.reduceEqDiff, reduceIte, zn, zd, zm, z0, z119, z120, z121] <;> rfl))); done) | (apply Y6; (try simp only [evs, zn, zd, zm, z0, z119, z120, z121]); first | exact hrow.load1 rfl rfl (show (WE.enc w)[6]? = _ from rfl) | exact hrow.load1 rfl rfl (show (WE.enc w)[1]? = _ from rfl))))))
    refine ih (j + 1, m2) _ ?_ (by simp only; omega)
    refine ⟨by (simp only [evs, Nat.reduceEqDiff, reduceIte, zn, zd, zm, z0, z119, z120, z121] <;> first | rfl | (congr 1; omega) | omega), by (simp only [evs, Nat.reduceEqDiff, reduceIte, zn, zd, zm, z0, z119, z120, z121] <;> first | rfl | (congr 1; omega) | omega), by (simp only [evs, Nat.reduceEqDiff, reduceIte, zn, zd, zm, z0, z119, z120, z121] <;> first | rfl | (congr 1; omega) | omega), zg.trans hg2, by (simp only [evs, Nat.reduceEqDiff, reduceIte, zn, zd, zm, z0, z119, z120, z121] <;> first | rfl | (congr 1; omega) | omega), by (simp only [evs, Nat.reduceEqDiff, reduceIte, zn, zd, zm, z0, z119, z120, z121] <;> first | rfl | (congr 1; omega) | omega), by (simp only [evs, Nat.reduceEqDiff, reduceIte, zn, zd, zm, z0, z119, z120, z121] <;> first | rfl | (congr 1; omega) | omega), by (simp only [evs, Nat.reduceEqDiff, reduceIte, zn, zd, zm, z0, z119, z120, z121] <;> first | rfl | (congr 1; omega) | omega), hj, fun j' hj' hlt' => ?_⟩
    rcases Nat.lt_or_ge j' j with h | h
    ·exact zall j' hj' h
    ·obtain rfl : j' = j := by simp only at hlt'; omega
     rw [hwj]; omega
  ·(repeat (first | (apply G.h; constructor <;> (first | exact Zc | apply gI | ((repeat' (first | exact Y0 | apply Y1 | ((first | apply Y4 | apply Y5); simp only [evs, Nat.reduceEqDiff, reduceIte, zn, zd, zm, z0, z119, z120, z121] <;> rfl))); done) | (apply Y6; (try simp only [evs, zn, zd, zm, z0, z119, z120, z121]); first | rfl)))))
   (refine g_fin (by repeat' first | exact Rs.nil | apply Rs.cons | (apply Y4; simp only [evs, Nat.reduceEqDiff, reduceIte, zn, zd, zm, z0, z119, z120, z121] <;> rfl)) (by (simp only [evs, Nat.reduceEqDiff, reduceIte, zn, zd, zm, z0, z119, z120, z121] <;> first | rfl | (congr 1; omega) | omega)) ?_)
   refine ⟨by simp only [evs, zm]; exact hg.trans zg, 0, 0, rfl, ?_⟩
   rw [hacc]
   have : accept [] (st.map WE.dc) = true := by
    simp only [accept]
    rw [pop_empty]
    intro q hq
    obtain ⟨w, hw, rfl⟩ := List.mem_map.1 hq
    obtain ⟨j', hj', rfl⟩ := List.getElem_of_mem (List.mem_reverse.2 hw)
    have := zall j' hj' (by simp at hj'; omega)
    have p1 := (hpl _ hw).1
    simp only [WE.dc]
    omega
   simp [this]
end Go.Proofs.YtihokakelnfdgaaDoor

namespace Go.Proofs.YtihokakelnfdgaaDoor
set_option linter.unusedSimpArgs false
open Go Go.Ev
set_option linter.unusedVariables false

/-- how many nodes so many trees take. -/
def D : List Nd → Nat → Option Nat
 | _, 0 => some 0
 | [], _ + 1 => none
 | x :: r, d + 1 => (D r (d + x.n.toNat)).map (· + 1)

theorem D_zero (l : List Nd) : D l 0 = some 0 := by cases l <;> rfl
theorem D_add : ∀ (l : List Nd) (a b k : Nat), D l (a + b) = some k → ∃ k1 k2, D l a = some k1 ∧ D (l.drop k1) b = some k2 ∧ k = k1 + k2
 | l, 0, b, k, h => ⟨0, k, D_zero l, by simpa using h, by omega⟩
 | [], a + 1, b, k, h => by rw [show a + 1 + b = (a + b) + 1 by omega] at h; simp [D] at h
 | x :: r, a + 1, b, k, h => by
  rw [show a + 1 + b = (a + b) + 1 by omega] at h
  simp only [D, Option.map_eq_some_iff] at h
  obtain ⟨k', h1, rfl⟩ := h
  rw [show a + b + x.n.toNat = (a + x.n.toNat) + b by omega] at h1
  obtain ⟨k1, k2, e1, e2, e3⟩ := D_add r _ b k' h1
  exact ⟨k1 + 1, k2, by simp only [D, e1, Option.map_some], by simpa using e2, by omega⟩
theorem D_le : ∀ (l : List Nd) (d k : Nat), D l d = some k → d ≤ k ∧ k ≤ l.length
 | l, 0, k, h => by rw [D_zero] at h; cases h; omega
 | [], d + 1, k, h => by simp [D] at h
 | x :: r, d + 1, k, h => by
  simp only [D, Option.map_eq_some_iff] at h
  obtain ⟨k', h1, rfl⟩ := h
  have := D_le r _ k' h1
  simp only [List.length_cons]; omega
theorem D_at : ∀ (l : List Nd) (d k j : Nat), D l d = some k → j < k → ∃ k', D (l.drop j) 1 = some k'
 | l, 0, k, j, h, hj => by rw [D_zero] at h; cases h; omega
 | [], d + 1, k, j, h, hj => by simp [D] at h
 | x :: r, d + 1, k, 0, h, hj => by
  rw [show d + 1 = 1 + d by omega] at h
  obtain ⟨k1, k2, e1, _⟩ := D_add _ _ _ _ h
  exact ⟨k1, by simpa using e1⟩
 | x :: r, d + 1, k, j + 1, h, hj => by
  simp only [D, Option.map_eq_some_iff] at h
  obtain ⟨k', h1, rfl⟩ := h
  have := D_at r _ k' j h1 (by omega)
  simpa using this

def rem : List (Du × Nat) → Nat
 | [] => 0
 | (y, c) :: st => (y.n - c).toNat + rem st
theorem rem_pop : ∀ st : List (Du × Nat), rem (pop st) = rem st
 | [] => rfl
 | (y, c) :: st => by
  simp only [pop]
  by_cases h : (c : Int) = y.n
  ·rw [if_pos h, rem_pop st, rem, show y.n - c = 0 by omega]; simp
  ·rw [if_neg h]
theorem pop_le : ∀ st : List (Du × Nat), (∀ q ∈ st, (q.2 : Int) ≤ q.1.n) → ∀ q ∈ pop st, (q.2 : Int) ≤ q.1.n
 | [], h => h
 | (y, c) :: st, h => by
  simp only [pop]
  by_cases hc : (c : Int) = y.n
  ·rw [if_pos hc]; exact pop_le st fun q hq => h q (List.mem_cons_of_mem _ hq)
  ·rw [if_neg hc]; exact h
theorem pop_head : ∀ (st : List (Du × Nat)) (y : Du) (c : Nat) (st' : List (Du × Nat)), pop st = (y, c) :: st' → (c : Int) ≠ y.n
 | [], y, c, st', h => by cases h
 | (z, d) :: st, y, c, st', h => by
  simp only [pop] at h
  by_cases hc : (d : Int) = z.n
  ·rw [if_pos hc] at h; exact pop_head st y c st' h
  ·rw [if_neg hc] at h; cases h; exact hc

theorem okR_pos {x : Nd} (h : okR x = true) : 0 ≤ x.n := by
 unfold okR at h; exact count_pos (Bool.and_eq_true_iff.1 h).1

theorem accept_D : ∀ (l : List Nd) (st : List (Du × Nat)), (∀ q ∈ st, (q.2 : Int) ≤ q.1.n) → accept l st = true → D l (rem st) = some l.length ∧ ∀ x ∈ l, okR x = true
 | [], st, hle, h => by
  simp only [accept] at h
  have : pop st = [] := List.isEmpty_iff.1 h
  rw [← rem_pop, this]
  exact ⟨rfl, fun x hx => by cases hx⟩
 | x :: r, st, hle, h => by
  simp only [accept] at h
  split at h
  ·cases h
  ·rename_i y c st' hp
   simp only [Bool.and_eq_true] at h
   obtain ⟨_, hok, hacc⟩ := h
   have hle' := pop_le st hle
   rw [hp] at hle'
   have hc := hle' (y, c) List.mem_cons_self
   have hne := pop_head st y c st' hp
   simp only at hc
   have hx0 := okR_pos hok
   obtain ⟨ih1, ih2⟩ := accept_D r ((x.du, 0) :: (y, c + 1) :: st') (fun q hq => by
    rcases List.mem_cons.1 hq with rfl | hq
    ·exact hx0
    ·rcases List.mem_cons.1 hq with rfl | hq
     ·show ((c + 1 : Nat) : Int) ≤ y.n; omega
     ·exact hle' q (List.mem_cons_of_mem _ hq)) hacc
   refine ⟨?_, fun z hz => ?_⟩
   ·rw [← rem_pop, hp]
    have e : rem ((y, c) :: st') = rem ((y, c + 1) :: st') + 1 := by simp only [rem]; omega
    have e2 : rem ((x.du, 0) :: (y, c + 1) :: st') = rem ((y, c + 1) :: st') + x.n.toNat := by
     have : x.du.n = x.n := rfl
     simp only [rem, this]; omega
    rw [e2] at ih1
    rw [e, D, ih1]; rfl
   ·rcases List.mem_cons.1 hz with rfl | hz
    ·exact hok
    ·exact ih2 z hz

theorem prog_D {l : List Nd} (h : okProg l = true) : D l 1 = some l.length ∧ ∀ x ∈ l, okR x = true := by
 have := accept_D l [(root, 0)] (fun q hq => by obtain rfl := List.mem_singleton.1 hq; decide) h
 exact this

/-- of each node: where what is behind it begins. -/
theorem prog_at {l : List Nd} (h : okProg l = true) (j : Nat) (hj : j < l.length) : ∃ k, D (l.drop j) 1 = some k :=
 D_at l 1 l.length j (prog_D h).1 hj

/-- the places of what a node is made of. -/
def kidsP (l : List Nd) : Nat → Nat → List Nat
 | 0, _ => []
 | c + 1, p => p :: kidsP l c (p + (D (l.drop p) 1).getD 0)
theorem kidsP_len (l : List Nd) : ∀ (c p : Nat), (kidsP l c p).length = c
 | 0, _ => rfl
 | c + 1, p => by simp [kidsP, kidsP_len l c]

def needL (g : Nat → Int) (x : Nd) : List Nat → Nat → Int → Int
 | [], _, most => most
 | p :: ps, i, most => needL g x ps (i + 1) (max most (if x.kind ≠ 24 ∧ x.kind ≠ 25 then g p + i else g p))
def needF (l : List Nd) : Nat → Nat → Int
 | 0, _ => 1
 | f + 1, at_ => match l[at_]? with
  | none => 1
  | some x => if x.kind = 31 then 1 else needL (needF l f) x (kidsP l x.n.toNat (at_ + 1)) 0 1

/-- behind a node of a program: what it is made of. -/
theorem D_kids {l : List Nd} {at_ k : Nat} (hlt : at_ < l.length) (h : D (l.drop at_) 1 = some k) : 1 ≤ k ∧ at_ + k ≤ l.length ∧ D (l.drop (at_ + 1)) l[at_].n.toNat = some (k - 1) := by
 rw [List.drop_eq_getElem_cons hlt] at h
 simp only [D, Option.map_eq_some_iff, Nat.zero_add] at h
 obtain ⟨k', h1, rfl⟩ := h
 have := D_le _ _ _ h1
 rw [List.length_drop] at this
 exact ⟨by omega, by omega, by simpa using h1⟩
theorem D_next {l : List Nd} {p c k : Nat} (h : D (l.drop p) (c + 1) = some k) : ∃ k1 k2, D (l.drop p) 1 = some k1 ∧ D (l.drop (p + k1)) c = some k2 ∧ k = k1 + k2 ∧ 1 ≤ k1 ∧ p < l.length ∧ p + k1 ≤ l.length := by
 rw [show c + 1 = 1 + c by omega] at h
 obtain ⟨k1, k2, e1, e2, e3⟩ := D_add _ _ _ _ h
 have := D_le _ _ _ e1
 rw [List.length_drop] at this
 rw [List.drop_drop] at e2
 exact ⟨k1, k2, e1, e2, e3, by omega, by omega, by omega⟩
end Go.Proofs.YtihokakelnfdgaaDoor

namespace Go.Proofs.YtihokakelnfdgaaDoor
open Go Go.Ev
set_option maxRecDepth 100000
set_option linter.unusedVariables false
set_option linter.unusedSimpArgs false
set_option pp.maxSteps 1500
attribute [local irreducible] quiet allocs effect wp ret wpO Runs Act.tmp Act.eval fin results Tree.set binOp loadAt storeAt target wanted cellsFrom

set_option maxHeartbeats 4000000 in
theorem behind66 (b off cap : Nat) (l : List Nd) (hpos : ∀ x ∈ l, 0 ≤ x.n ∧ x.n ≤ 9223372036854775807) (hl : l.length ≤ 100000) :
  ∀ (d at_ k : Nat) (m : Mem), l.length - at_ ≤ d → at_ < l.length → Nodes m b off l → D (l.drop at_) 1 = some k →
   Runs evEnv 35 [.slice (some ⟨b, off, none⟩) l.length cap, .int .i64 at_] m fun v m' => v = .tuple ⟨[.int .i64 ((at_ + k : Nat) : Int), .int .i64 0]⟩ ∧ m' = m := by
 intro d
 induction d with
 | zero => intro at_ k m hd hlt; omega
 | succ d ihd =>
  intro at_ k m hd hlt hN hD
  have hx := hN.n at_ hlt
  obtain ⟨hk1, hk2, hDk⟩ := D_kids hlt hD
  obtain ⟨n0, n1⟩ := hpos l[at_] (List.getElem_mem hlt)
  generalize l[at_] = x at hx hDk n0 n1
  refine runs_start rfl rfl rfl rfl ?_
  (repeat (first | (apply G.h; constructor <;> (first | exact Zc | apply gI | ((repeat' (first | exact Y0 | apply Y1 | ((first | apply Y4 | apply Y5); simp only [evs, Nat.reduceEqDiff, reduceIte] <;> rfl))); done) | (apply Y6; (try simp only [evs]); first | rfl)))))
  refine ewp_loop (ι := Nat × Nat) (fun i a => a.n = 39 ∧ a.defers = [] ∧ a.m = m ∧ a.tmp 0 = .slice (some ⟨b, off, none⟩) l.length cap ∧ a.tmp 1 = .int .i64 at_ ∧ a.tmp 6 = .int .i64 i.2 ∧ a.tmp 7 = .int .i64 i.1 ∧ (i.1 : Int) ≤ x.n ∧ at_ < i.2 ∧ i.2 ≤ l.length ∧ ∃ r, D (l.drop i.2) (x.n.toNat - i.1) = some r ∧ i.2 + r = at_ + k) (fun i => x.n.toNat - i.1) (0, at_ + 1) ?_ ?_
  ·exact ⟨by (simp only [evs, Nat.reduceEqDiff, reduceIte] <;> first | rfl | (congr 1; omega) | omega), by (simp only [evs, Nat.reduceEqDiff, reduceIte] <;> first | rfl | (congr 1; omega) | omega), by (simp only [evs, Nat.reduceEqDiff, reduceIte] <;> first | rfl | (congr 1; omega) | omega), by (simp only [evs, Nat.reduceEqDiff, reduceIte] <;> first | rfl | (congr 1; omega) | omega), by (simp only [evs, Nat.reduceEqDiff, reduceIte] <;> first | rfl | (congr 1; omega) | omega), by (simp only [evs, Nat.reduceEqDiff, reduceIte] <;> first | rfl | (congr 1; omega) | omega), by (simp only [evs, Nat.reduceEqDiff, reduceIte] <;> first | rfl | (congr 1; omega) | omega), n0, Nat.lt_succ_self _, hlt, k - 1, by simpa using hDk, by simp only; omega⟩
  rintro ⟨i, p⟩ a ⟨hn, hd2, hm, t0, t1, t6, t7, hi, hp1, hp2, r, hr, hrk⟩ ih
  simp only at hn hd2 hm t0 t1 t6 t7 hi hp1 hp2 hr hrk ih
  rcases Int.lt_or_le (i : Int) x.n with hin | hin
  ·rw [show x.n.toNat - i = (x.n.toNat - (i + 1)) + 1 by omega] at hr
   obtain ⟨q1, q2, e1, e2, e3, e4, e5, e6⟩ := D_next hr
   (repeat (first | (apply G.h; constructor <;> (first | exact Zc | apply gI | ((repeat' (first | exact Y0 | apply Y1 | ((first | apply Y4 | apply Y5); simp only [evs, Nat.reduceEqDiff, reduceIte, hn, hd2, hm, t0, t1, t6, t7] <;> rfl))); done) | (apply Y6; (try simp only [evs, hn, hd2, hm, t0, t1, t6, t7]); first | exact hx)))))
   ((first | apply g_run | apply g_run0) <;> (first | ((repeat' (first | exact Y0 | apply Y1 | exact Y2 | apply Y3 | ((first | apply Y4 | apply Y5); simp only [evs, Nat.reduceEqDiff, reduceIte, hn, hd2, hm, t0, t1, t6, t7] <;> rfl))); done) | exact Rn.mk (ihd p q1 _ (by omega) e5 (by simp only [evs, hm]; exact hN) e1) | apply Cn.mk))
   rintro v m' ⟨rfl, rfl⟩
   (repeat (first | (apply G.h; constructor <;> (first | exact Zc | apply gI | ((repeat' (first | exact Y0 | apply Y1 | ((first | apply Y4 | apply Y5); simp only [evs, Nat.reduceEqDiff, reduceIte, hn, hd2, hm, t0, t1, t6, t7] <;> rfl))); done) | (apply Y6; (try simp only [evs, hn, hd2, hm, t0, t1, t6, t7]); first | rfl)))))
   refine ih (i + 1, p + q1) _ ?_ (by simp only; omega)
   exact ⟨by (simp only [evs, Nat.reduceEqDiff, reduceIte, hn] <;> first | rfl | (congr 1; omega) | omega), by (simp only [evs, Nat.reduceEqDiff, reduceIte, hd2] <;> first | rfl | (congr 1; omega) | omega), by (simp only [evs, Nat.reduceEqDiff, reduceIte, hm] <;> first | rfl | (congr 1; omega) | omega), by (simp only [evs, Nat.reduceEqDiff, reduceIte, t0] <;> first | rfl | (congr 1; omega) | omega), by (simp only [evs, Nat.reduceEqDiff, reduceIte, t1] <;> first | rfl | (congr 1; omega) | omega), by (simp only [evs, Nat.reduceEqDiff, reduceIte, t6] <;> first | rfl | (congr 1; omega) | omega), by (simp only [evs, Nat.reduceEqDiff, reduceIte, t7] <;> first | rfl | (congr 1; omega) | omega), by simp only; omega, by simp only; omega, e6, q2, e2, by simp only; omega⟩
  ·rw [show x.n.toNat - i = 0 by omega, D_zero] at hr
   cases hr
   (repeat (first | (apply G.h; constructor <;> (first | exact Zc | apply gI | ((repeat' (first | exact Y0 | apply Y1 | ((first | apply Y4 | apply Y5); simp only [evs, Nat.reduceEqDiff, reduceIte, hn, hd2, hm, t0, t1, t6, t7] <;> rfl))); done) | (apply Y6; (try simp only [evs, hn, hd2, hm, t0, t1, t6, t7]); first | exact hx)))))
   (refine g_fin (by repeat' first | exact Rs.nil | apply Rs.cons | (apply Y4; simp only [evs, Nat.reduceEqDiff, reduceIte, hn, hd2, hm, t0, t1, t6, t7] <;> rfl)) (by (simp only [evs, Nat.reduceEqDiff, reduceIte, hn, hd2, hm, t0, t1, t6, t7] <;> first | rfl | (congr 1; omega) | omega)) ?_)
   refine ⟨?_, by (simp only [evs, Nat.reduceEqDiff, reduceIte, hm] <;> first | rfl | (congr 1; omega) | omega)⟩
   rw [← hrk]; rfl

/-- places in a block, as a slice. -/
def Ints (m : Mem) (v : Value) (ps : List Nat) : Prop := (v = .slice none 0 0 ∧ ps = []) ∨ ∃ kb cap r, v = .slice (some ⟨kb, 0, none⟩) ps.length cap ∧ Row m kb r 3 0 ∧ r.length = cap * 1 ∧ ps.length ≤ cap ∧ r.take (ps.length * 1) = ps.map fun p => .int .i64 (p : Nat)

theorem Ints.new {m : Mem} {v : Value} {ps : List Nat} (h : Ints m v ps) (o : AObj) : Ints (m.new o) v ps := by
 rcases h with h | ⟨kb, cap, r, e1, e2, e3⟩
 ·exact .inl h
 ·exact .inr ⟨kb, cap, r, e1, e2.keep_new o, e3⟩
theorem Ints.grow {m m' : Mem} {v : Value} {ps : List Nat} (h : Ints m v ps) (g : Grow m m') : Ints m' v ps := by
 rcases h with h | ⟨kb, cap, r, e1, e2, e3⟩
 ·exact .inl h
 ·exact .inr ⟨kb, cap, r, e1, e2.grow g, e3⟩
/-- one place more. -/
theorem Ints.push {m0 m : Mem} {v : Value} {ps : List Nat} (h : Ints m v ps) (hkb : ∀ kb c n, v = .slice (some ⟨kb, 0, none⟩) n c → m0.next ≤ kb) (hg : Grow m0 m) (hs : ps.length ≤ 1000000) (p : Nat) :
  ∃ v' m', effect.append m 3 1 8 v 1 [.int .i64 (p : Nat)] = some (v', m') ∧ Ints m' v' (ps ++ [p]) ∧ (∀ kb c n, v' = .slice (some ⟨kb, 0, none⟩) n c → m0.next ≤ kb) ∧ Grow m0 m' := by
 rcases h with ⟨rfl, rfl⟩ | ⟨kb, cap, r, rfl, hr, hrl, hc, ht⟩
 ·refine ⟨_, _, append_nil (by decide) (show 1 ≤ 1000000000 by decide) (by decide) (by decide), .inr ⟨m.next, 1, _, rfl, row_new _ _ _ _, rfl, Nat.le_refl _, rfl⟩, fun kb c n h => ?_, hg.new _⟩
  cases h
  exact hg.1
 ·obtain ⟨wb', cap', m', r', e1, e2, e3, e4, e5, e6, e7, e8⟩ := append_row (bytes := 8) (k := 1) (new := [.int .i64 (p : Nat)]) hr hrl hc rfl rfl (by omega) (by omega) (by omega)
  have hb := hkb kb cap ps.length rfl
  refine ⟨_, m', e1, .inr ⟨wb', cap', r', by rw [List.length_append]; rfl, e2, e3, by rw [List.length_append]; exact e4, ?_⟩, fun kb' c n h => ?_, ⟨Nat.le_trans hg.1 e7, fun x hx => (e6 x (by omega) (Nat.lt_of_lt_of_le hx hg.1)).trans (hg.2 x hx)⟩⟩
  ·rw [List.length_append, List.length_singleton, e5, ht, List.map_append]; rfl
  ·cases h
   rcases e8 with rfl | rfl
   ·exact hb
   ·exact hg.1

set_option maxHeartbeats 4000000 in
theorem kids34 (b off cap : Nat) (l : List Nd) (hpos : ∀ x ∈ l, 0 ≤ x.n ∧ x.n ≤ 9223372036854775807) (hl : l.length ≤ 100000) (at_ k : Nat) (m : Mem) (hlt : at_ < l.length) (hN : Nodes m b off l) (hbn : b < m.next) (hD : D (l.drop at_) 1 = some k) :
  Runs evEnv 20 [.slice (some ⟨b, off, none⟩) l.length cap, .int .i64 at_] m fun v m' => Grow m m' ∧ Ints m' v (kidsP l l[at_].n.toNat (at_ + 1)) := by
 have hx : ∀ m', Grow m m' → loadAt evEnv m' 3 b (off + at_ * 5 + 1) = some (.int .i64 l[at_].n) := fun m' g => (hN.grow hbn g).n at_ hlt
 obtain ⟨hk1, hk2, hDk⟩ := D_kids hlt hD
 obtain ⟨n0, n1⟩ := hpos l[at_] (List.getElem_mem hlt)
 generalize l[at_] = x at hx hDk n0 n1
 refine runs_start rfl rfl rfl rfl ?_
 (repeat (first | (apply G.h; constructor <;> (first | exact Zc | apply gI | ((repeat' (first | exact Y0 | apply Y1 | ((first | apply Y4 | apply Y5); simp only [evs, Nat.reduceEqDiff, reduceIte] <;> rfl))); done) | (apply Y6; (try simp only [evs]); first | rfl)))))
 refine ewp_loop (ι := Nat × Nat × List Nat × Value × Mem) (fun i a => a.n = 30 ∧ a.defers = [] ∧ a.m = i.2.2.2.2 ∧ Grow m i.2.2.2.2 ∧ a.tmp 0 = .slice (some ⟨b, off, none⟩) l.length cap ∧ a.tmp 1 = .int .i64 at_ ∧ a.tmp 5 = i.2.2.2.1 ∧ a.tmp 6 = .int .i64 i.2.1 ∧ a.tmp 7 = .int .i64 i.1 ∧
  Ints i.2.2.2.2 i.2.2.2.1 i.2.2.1 ∧ (∀ kb c n, i.2.2.2.1 = .slice (some ⟨kb, 0, none⟩) n c → m.next ≤ kb) ∧ i.2.2.1.length = i.1 ∧ (i.1 : Int) ≤ x.n ∧ i.1 + at_ < i.2.1 ∧ i.2.1 ≤ l.length ∧ (∃ r, D (l.drop i.2.1) (x.n.toNat - i.1) = some r) ∧ kidsP l x.n.toNat (at_ + 1) = i.2.2.1 ++ kidsP l (x.n.toNat - i.1) i.2.1) (fun i => x.n.toNat - i.1) (0, at_ + 1, [], .slice none 0 0, m) ?_ ?_
 ·refine ⟨by (simp only [evs, Nat.reduceEqDiff, reduceIte] <;> first | rfl | (congr 1; omega) | omega), by (simp only [evs, Nat.reduceEqDiff, reduceIte] <;> first | rfl | (congr 1; omega) | omega), by (simp only [evs, Nat.reduceEqDiff, reduceIte] <;> first | rfl | (congr 1; omega) | omega), Grow.refl m, by (simp only [evs, Nat.reduceEqDiff, reduceIte] <;> first | rfl | (congr 1; omega) | omega), by (simp only [evs, Nat.reduceEqDiff, reduceIte] <;> first | rfl | (congr 1; omega) | omega), by (simp only [evs, Nat.reduceEqDiff, reduceIte] <;> first | rfl | (congr 1; omega) | omega), by (simp only [evs, Nat.reduceEqDiff, reduceIte] <;> first | rfl | (congr 1; omega) | omega), by (simp only [evs, Nat.reduceEqDiff, reduceIte] <;> first | rfl | (congr 1; omega) | omega), .inl ⟨rfl, rfl⟩, ?_, rfl, n0, ?_, hlt, ⟨k - 1, by simpa using hDk⟩, by simp⟩
  ·intro kb c n h; cases h
  ·simp only; omega
 rintro ⟨i, p, ps, v, mi⟩ a ⟨hn, hd2, hm, hg, t0, t1, t5, t6, t7, hv, hkb, hlen, hi, hp1, hp2, ⟨r, hr⟩, hks⟩ ih
 simp only at hn hd2 hm hg t0 t1 t5 t6 t7 hv hkb hlen hi hp1 hp2 hr hks ih
 have hxi := hx mi hg
 rcases Int.lt_or_le (i : Int) x.n with hin | hin
 ·rw [show x.n.toNat - i = (x.n.toNat - (i + 1)) + 1 by omega] at hr hks
  obtain ⟨q1, q2, e1, e2, e3, e4, e5, e6⟩ := D_next hr
  obtain ⟨v', m', a1, a2, a3, a4⟩ := (hv.new (rowObj [.int .i64 (p : Nat)] 3 0)).push hkb (hg.new _) (by omega) p
  (repeat (first | (apply G.h; constructor <;> (first | exact Zc | apply gI | ((repeat' (first | exact Y0 | apply Y1 | ((first | apply Y4 | apply Y5); simp only [evs, Nat.reduceEqDiff, reduceIte, hn, hd2, hm, t0, t1, t5, t6, t7] <;> rfl))); done) | (apply Y6; (try simp only [evs, hn, hd2, hm, t0, t1, t5, t6, t7]); first | exact hxi)))))
  apply ewpO_append
  focus exact want_none
  focus rfl
  focus rfl
  focus rfl
  focus rfl
  focus rfl
  focus rfl
  focus rfl
  focus rfl
  focus rfl
  focus (simp only [evs, Nat.reduceEqDiff, reduceIte, hn, hd2, hm, t0, t1, t5, t6, t7] <;> rfl)
  focus (simp only [evs, Nat.reduceEqDiff, reduceIte, hn, hd2, hm, t0, t1, t5, t6, t7] <;> rfl)
  focus (simp only [evs, hm]; exact cellsIn_row (kc := 1) (new := [.int .i64 (p : Nat)]) (row_new _ _ _ _) (Nat.le_refl 1) rfl)
  focus (simp only [evs, hm]; exact a1)
  focus (simp only [evs, hn]; rfl)
  (repeat (first | (apply G.h; constructor <;> (first | exact Zc | apply gI | ((repeat' (first | exact Y0 | apply Y1 | ((first | apply Y4 | apply Y5); simp only [evs, Nat.reduceEqDiff, reduceIte, hn, hd2, hm, t0, t1, t5, t6, t7] <;> rfl))); done) | (apply Y6; (try simp only [evs, hn, hd2, hm, t0, t1, t5, t6, t7]); first | rfl)))))
  ((first | apply g_run | apply g_run0) <;> (first | ((repeat' (first | exact Y0 | apply Y1 | exact Y2 | apply Y3 | ((first | apply Y4 | apply Y5); simp only [evs, Nat.reduceEqDiff, reduceIte, hn, hd2, hm, t0, t1, t5, t6, t7] <;> rfl))); done) | exact Rn.mk (behind66 b off cap l hpos hl _ p q1 _ (Nat.le_refl _) e5 (by simp only [evs]; exact hN.grow hbn a4) e1) | apply Cn.mk))
  rintro v2 m2 ⟨rfl, rfl⟩
  (repeat (first | (apply G.h; constructor <;> (first | exact Zc | apply gI | ((repeat' (first | exact Y0 | apply Y1 | ((first | apply Y4 | apply Y5); simp only [evs, Nat.reduceEqDiff, reduceIte, hn, hd2, hm, t0, t1, t5, t6, t7] <;> rfl))); done) | (apply Y6; (try simp only [evs, hn, hd2, hm, t0, t1, t5, t6, t7]); first | rfl)))))
  refine ih (i + 1, p + q1, ps ++ [p], v', m') _ ?_ (by simp only; omega)
  refine ⟨by (simp only [evs, Nat.reduceEqDiff, reduceIte, hn] <;> first | rfl | (congr 1; omega) | omega), by (simp only [evs, Nat.reduceEqDiff, reduceIte, hd2] <;> first | rfl | (congr 1; omega) | omega), by (simp only [evs, Nat.reduceEqDiff, reduceIte, hm] <;> first | rfl | (congr 1; omega) | omega), a4, by (simp only [evs, Nat.reduceEqDiff, reduceIte, t0] <;> first | rfl | (congr 1; omega) | omega), by (simp only [evs, Nat.reduceEqDiff, reduceIte, t1] <;> first | rfl | (congr 1; omega) | omega), by (simp only [evs, Nat.reduceEqDiff, reduceIte, t5] <;> first | rfl | (congr 1; omega) | omega), by (simp only [evs, Nat.reduceEqDiff, reduceIte, t6] <;> first | rfl | (congr 1; omega) | omega), by (simp only [evs, Nat.reduceEqDiff, reduceIte, t7] <;> first | rfl | (congr 1; omega) | omega), a2, a3, by simp [hlen], by simp only; omega, by simp only; omega, e6, ⟨q2, e2⟩, ?_⟩
  rw [hks, kidsP, e1]
  simp
 ·rw [show x.n.toNat - i = 0 by omega, kidsP, List.append_nil] at hks
  (repeat (first | (apply G.h; constructor <;> (first | exact Zc | apply gI | ((repeat' (first | exact Y0 | apply Y1 | ((first | apply Y4 | apply Y5); simp only [evs, Nat.reduceEqDiff, reduceIte, hn, hd2, hm, t0, t1, t5, t6, t7] <;> rfl))); done) | (apply Y6; (try simp only [evs, hn, hd2, hm, t0, t1, t5, t6, t7]); first | exact hxi)))))
  (refine g_fin (by repeat' first | exact Rs.nil | apply Rs.cons | (apply Y4; simp only [evs, Nat.reduceEqDiff, reduceIte, hn, hd2, hm, t0, t1, t5, t6, t7] <;> rfl)) (by (simp only [evs, Nat.reduceEqDiff, reduceIte, hn, hd2, hm, t0, t1, t5, t6, t7] <;> first | rfl | (congr 1; omega) | omega)) ?_)
  refine ⟨by simp only [evs, hm]; exact hg, ?_⟩
  rw [hks]
  simp only [evs, hm]
  exact hv
end Go.Proofs.YtihokakelnfdgaaDoor
