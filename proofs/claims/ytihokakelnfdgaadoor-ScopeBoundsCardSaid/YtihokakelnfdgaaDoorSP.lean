/- Part of a verified evaluator of the model's programs and of runs by it: PC PD PD2 PD3. -/
import Derived.Test.YtihokakelnfdgaaDoorSN
import Derived.Test.YtihokakelnfdgaaDoorSO
import Derived.Test.YtihokakelnfdgaaDoorSM
import Derived.Test.YtihokakelnfdgaaDoorEvV
namespace Go.Proofs.YtihokakelnfdgaaDoor
open Go Go.Ev
set_option maxRecDepth 100000
set_option linter.unusedVariables false
set_option linter.unusedSimpArgs false
set_option pp.maxSteps 1500

/-- the reader at a token, so many open, no fault so far. -/
structure Rd (m : Mem) (rb tb tc : Nat) (K : List Tn) (i o : Nat) : Prop where
 row : Row m rb [.slice (some ⟨tb, 0, none⟩) K.length tc, I i, I o, I 0, I 0] 71 0
 tk : Sl (fun _ => False) m (.slice (some ⟨tb, 0, none⟩) K.length tc) 73 4 (encT K)
theorem encT_get : ∀ (K : List Tn) (i j : Nat) (t : Tn), K[i]? = some t → j < 4 → (encT K)[i * 4 + j]? = t.val[j]?
 | [], i, j, t, h, _ => by simp at h
 | x :: K, 0, j, t, h, hj => by
  simp at h; subst h
  show (x.val ++ encT K)[0 * 4 + j]? = _
  rw [Nat.zero_mul, Nat.zero_add, List.getElem?_append_left (by show j < 4; exact hj)]
 | x :: K, i + 1, j, t, h, hj => by
  show (x.val ++ encT K)[(i + 1) * 4 + j]? = _
  rw [List.getElem?_append_right (by show 4 ≤ _; omega), show (i + 1) * 4 + j - x.val.length = i * 4 + j by show (i + 1) * 4 + j - 4 = _; omega]
  exact encT_get K i j t (by simpa using h) hj
section
variable {m m' : Mem} {rb tb tc i j o : Nat} {K : List Tn} {t : Tn}
theorem Rd.cells (h : Rd m rb tb tc K i o) (hx : K[j]? = some t) : ∃ r, Row m tb r 73 0 ∧ j * 4 + 4 ≤ r.length ∧ ∀ q, q < 4 → r[j * 4 + q]? = t.val[q]? := by
 have hj := (List.getElem?_eq_some_iff.1 hx).1
 have hlen := encT_len K
 obtain ⟨b, cap, r, n, z1, z2, z3, z4, z5, z6, z7⟩ := h.tk.at (i := j * 4) (by omega)
 cases z1
 have hl := congrArg List.length z6
 rw [List.length_take, hlen] at hl
 refine ⟨r, z3, by omega, fun q hq => ?_⟩
 rw [← encT_get K j q t hx hq, z6, List.getElem?_take_of_lt (by omega)]
theorem Rd.agg (h : Rd m rb tb tc K i o) (hx : K[j]? = some t) : loadAt evEnv m 73 tb (0 + j * 4) = some (.agg ⟨t.val⟩) := by
 obtain ⟨r, z3, hl, hg⟩ := h.cells hx
 refine z3.loadA (k := 4) rfl rfl rfl (by omega) ?_
 apply List.ext_getElem?
 intro q
 rcases Nat.lt_or_ge q 4 with hq | hq
 ·rw [List.getElem?_take_of_lt hq, List.getElem?_drop, show 0 + j * 4 + q = j * 4 + q by omega, hg q hq]
 ·rw [List.getElem?_eq_none (by rw [List.length_take]; omega), List.getElem?_eq_none (by show 4 ≤ q; exact hq)]
theorem Rd.kind (h : Rd m rb tb tc K i o) (hx : K[j]? = some t) : loadAt evEnv m 3 tb (0 + j * 4 + 0) = some (I t.kind) := by
 obtain ⟨r, z3, hl, hg⟩ := h.cells hx
 exact z3.load1 rfl rfl (by rw [show 0 + j * 4 + 0 = j * 4 + 0 by omega, hg 0 (by omega)]; rfl)
theorem Rd.pos (h : Rd m rb tb tc K i o) (hx : K[j]? = some t) : loadAt evEnv m 3 tb (0 + j * 4 + 3) = some (I t.pos) := by
 obtain ⟨r, z3, hl, hg⟩ := h.cells hx
 exact z3.load1 rfl rfl (by rw [show 0 + j * 4 + 3 = j * 4 + 3 by omega, hg 3 (by omega)]; rfl)
theorem _root_.Go.Ev.Sl.any {X X' : Nat → Prop} {T : List Nat} {m m' : Mem} {v : Value} {e sz : Nat} {l : List Value} (h : Sl X m v e sz l) (k : Keep X' T m m') (hx : e ∉ T) : Sl X m' v e sz l := by
 rcases h with h | ⟨b, cap, r, n, h1, h2, h3, h4⟩
 ·exact .inl h
 ·exact .inr ⟨b, cap, r, n, h1, h2, h3.stay k (.inr hx), h4⟩
theorem Rd.grow (h : Rd m rb tb tc K i o) (g : Grow m m') : Rd m' rb tb tc K i o := ⟨h.row.grow g, h.tk.grow g⟩
/-- all but the reader stays. -/
abbrev KR (rb : Nat) (m m' : Mem) : Prop := Keep (fun c => c ≠ rb) [71] m m'
theorem Rd.next (h : Rd m rb tb tc K i o) {i' o' : Nat} (hr : Row m' rb [.slice (some ⟨tb, 0, none⟩) K.length tc, I i', I o', I 0, I 0] 71 0) (ho : ∀ x, x ≠ rb → m'.get x = m.get x) (hn : m'.next = m.next) : Rd m' rb tb tc K i' o' ∧ KR rb m m' := by
 have k : KR rb m m' := Keep.row h.row (fun hh => hh rfl) (by decide) ho hn
 exact ⟨⟨hr, h.tk.any k (by decide)⟩, k⟩
theorem Rd.ne (h : Rd m rb tb tc K i o) : rb < m.next := h.row.1
/-- what is made beside what there is. -/
abbrev KL (n rb : Nat) (m m' : Mem) : Prop := Keep (fun c => c < n ∧ c ≠ rb) [43, 71] m m'
theorem KR.kl {n : Nat} (k : KR rb m m') : KL n rb m m' := (Keep.sub k (fun _ h => h.2)).mono (by simp)
theorem KL.up {n n' : Nat} (k : KL n' rb m m') (h : n ≤ n') : KL n rb m m' := Keep.sub k fun c hc => ⟨Nat.lt_of_lt_of_le hc.1 h, hc.2⟩
theorem _root_.Go.Ev.Row.over {b e kd : Nat} {r r' : List Value} (h : Row m b r e kd) (k : KL m.next rb m m') (hr : Row m rb r' 71 0) (he : e ≠ 71) : Row m' b r e kd :=
 h.stay k (.inl ⟨h.1, h.ne hr he⟩)
theorem _root_.Go.Ev.Sl.over {X : Nat → Prop} {v : Value} {e sz : Nat} {l r' : List Value} (h : Sl X m v e sz l) (k : KL m.next rb m m') (hr : Row m rb r' 71 0) (he : e ≠ 71) : Sl X m' v e sz l := by
 rcases h with h | ⟨b, cap, r, n, h1, h2, h3, h4⟩
 ·exact .inl h
 ·exact .inr ⟨b, cap, r, n, h1, h2, h3.over k hr he, h4⟩
end
/-- is it this word or sign? -/
def isT (t : Tn) (s : Bs) : Bool := (decide (t.kind = 2) || decide (t.kind = 5)) && decide (t.text = s)
attribute [local irreducible] quiet allocs effect wp ret wpO Runs Act.tmp Act.eval fin results Tree.set binOp loadAt storeAt target wanted cellsFrom

set_option maxHeartbeats 2000000 in
theorem at43 {m : Mem} {rb tb tc i o : Nat} {K : List Tn} {t : Tn} (hR : Rd m rb tb tc K i o) (hx : K[i]? = some t) : Runs evEnv 43 [ptr rb] m fun v m' => v = I t.pos ∧ m' = m := by
 have hi := (List.getElem?_eq_some_iff.1 hx).1
 refine runs_start rfl rfl rfl rfl ?_
 (repeat (first | apply wpN_cons | apply g_next | (apply G.h; constructor <;> (first | exact Zc | apply gI | ((repeat' (first | exact Y0 | apply Y1 | ((first | apply Y4 | apply Y5); simp only [evs, Nat.reduceEqDiff, reduceIte] <;> rfl))); done) | (apply Y6; (try simp only [evs]); first | exact hR.row.load1 rfl rfl rfl | exact hR.pos hx)))))
 (refine g_fin (by repeat' first | exact Rs.nil | apply Rs.cons | (apply Y4; simp only [evs, Nat.reduceEqDiff, reduceIte] <;> rfl)) (by (simp only [evs, Nat.reduceEqDiff, reduceIte] <;> first | rfl | (congr 1; omega) | omega)) ?_)
 exact ⟨rfl, by (simp only [evs, Nat.reduceEqDiff, reduceIte] <;> first | rfl | (congr 1; omega) | omega)⟩
set_option maxHeartbeats 2000000 in
theorem is44 {m : Mem} {rb tb tc i o : Nat} {K : List Tn} {t : Tn} (hR : Rd m rb tb tc K i o) (hx : K[i]? = some t) (s : Bs) : Runs evEnv 44 [ptr rb, encS s] m fun v m' => v = .bool (isT t s) ∧ Grow m m' := by
 have hi := (List.getElem?_eq_some_iff.1 hx).1
 have z := row_new m [I 0, encS [], I 0, I 0] 73 0
 have g1 : Grow m (m.new (rowObj [I 0, encS [], I 0, I 0] 73 0)) := (Grow.refl m).new _
 have h1 := hR.grow g1
 have hl := h1.agg hx
 have h1w := h1.row
 refine runs_start rfl rfl rfl rfl ?_
 (repeat (first | apply wpN_cons | apply g_next | (apply G.h; constructor <;> (first | exact Zc | apply gI | ((repeat' (first | exact Y0 | apply Y1 | ((first | apply Y4 | apply Y5); simp only [evs, Nat.reduceEqDiff, reduceIte] <;> rfl))); done) | (apply Y6; (try simp only [evs]); first | rfl)))))
 (apply g_regionN [10, 0, 1, 2, 3, 4, 5, 6, 7, 8, 9, 11] []; (focus exact Kr.mk (by kernel_rfl)); (focus exact Rf.mk))
 (repeat (first | apply wpN_cons | apply g_next | (apply G.h; constructor <;> (first | exact Zc | apply gI | ((repeat' (first | exact Y0 | apply Y1 | ((first | apply Y4 | apply Y5); simp only [evs, Nat.reduceEqDiff, reduceIte] <;> rfl))); done) | (apply Y6; (try simp only [evs]); first | exact h1w.load1 rfl rfl rfl | exact hl)))))
 (apply g_stR <;> (first | exact Zc | apply gI | ((repeat' (first | exact Y0 | apply Y1 | exact Y2 | apply Y3 | ((first | apply Y4 | apply Y5); simp only [evs, Nat.reduceEqDiff, reduceIte] <;> rfl))); done) | (apply Hy.mk; (try simp only [evs]); first | exact z | assumption) | (apply Om.mk; first | exact z) | (apply Y6; (try simp only [evs]); first | rfl) | apply Cn.mk))
 intro m3 r3 o3 n3; simp only [evs] at r3 o3 n3
 replace r3 : Row m3 m.next t.val 73 0 := r3
 have g3 : Grow m m3 := g1.wrote (Nat.le_refl _) o3 n3
 have h3 := (hR.grow g3).row
 (repeat (first | apply wpN_cons | apply g_next | (apply G.h; constructor <;> (first | exact Zc | apply gI | ((repeat' (first | exact Y0 | apply Y1 | ((first | apply Y4 | apply Y5); simp only [evs, Nat.reduceEqDiff, reduceIte] <;> rfl))); done) | (apply Y6; (try simp only [evs]); first | rfl)))))
 refine g_last (.mk ?_) ?_
 focus exact trivial
 obtain ⟨kd, tx, nm, ps⟩ := t
 (repeat' (first | apply wpN_cons | apply g_next | (apply G.h; constructor <;> (first | exact Zc | apply gI | ((repeat' (first | exact Y0 | apply Y1 | ((first | apply Y4 | apply Y5); simp only [evs, Nat.reduceEqDiff, reduceIte] <;> rfl))); done) | (apply Y6; (try simp only [evs]); first | exact h3.load1 rfl rfl rfl | exact r3.load1 rfl rfl rfl))) | (apply g_split <;> (first | (apply Ev.mk; (simp only [evs, Nat.reduceEqDiff, reduceIte] <;> rfl)) | (apply Dn.mk; (simp only [evs, Nat.reduceEqDiff, reduceIte] <;> rfl)) | (apply g_wpO) | intro h | constructor | fail))))
 all_goals
  (refine g_fin (by repeat' first | exact Rs.nil | apply Rs.cons | (apply Y4; simp only [evs, Nat.reduceEqDiff, reduceIte] <;> rfl)) (by (simp only [evs, Nat.reduceEqDiff, reduceIte] <;> first | rfl | (congr 1; omega) | omega)) ?_)
  refine ⟨congrArg Value.bool ?_, by simp only [evs]; exact g3⟩
  unfold isT
  simp only
  first | (simp_all; done) | (simp_all; omega) | (simp_all; intros; omega) | (simp_all; intro hh; omega)

set_option maxHeartbeats 2000000 in
theorem eatT {m : Mem} {rb tb tc i o : Nat} {K : List Tn} {t : Tn} (hR : Rd m rb tb tc K i o) (hx : K[i]? = some t) (hk : K.length ≤ 100000) (s : Bs) (hT : isT t s = true) : Runs evEnv 49 [ptr rb, encS s] m fun v m' => v = .bool true ∧ KR rb m m' ∧ Rd m' rb tb tc K (i + 1) o := by
 have hi := (List.getElem?_eq_some_iff.1 hx).1
 refine runs_start rfl rfl rfl rfl ?_
 (repeat (first | apply wpN_cons | apply g_next | (apply G.h; constructor <;> (first | exact Zc | apply gI | ((repeat' (first | exact Y0 | apply Y1 | ((first | apply Y4 | apply Y5); simp only [evs, Nat.reduceEqDiff, reduceIte] <;> rfl))); done) | (apply Y6; (try simp only [evs]); first | rfl)))))
 ((first | apply g_run | apply g_run0) <;> (first | ((repeat' (first | exact Y0 | apply Y1 | exact Y2 | apply Y3 | ((first | apply Y4 | apply Y5); simp only [evs, Nat.reduceEqDiff, reduceIte] <;> rfl))); done) | exact Rn.mk ((by simp only [evs]; exact is44 hR hx s)) | apply Cn.mk))
 rintro v m2 ⟨rfl, g⟩
 try simp only [evs] at g
 rw [hT]
 have h2 := hR.grow g
 have h2w := h2.row
 (repeat (first | apply wpN_cons | apply g_next | (apply G.h; constructor <;> (first | exact Zc | apply gI | ((repeat' (first | exact Y0 | apply Y1 | ((first | apply Y4 | apply Y5); simp only [evs, Nat.reduceEqDiff, reduceIte] <;> rfl))); done) | (apply Y6; (try simp only [evs]); first | exact h2w.load1 rfl rfl rfl)))))
 (apply g_stR <;> (first | exact Zc | apply gI | ((repeat' (first | exact Y0 | apply Y1 | exact Y2 | apply Y3 | ((first | apply Y4 | apply Y5); simp only [evs, Nat.reduceEqDiff, reduceIte] <;> rfl))); done) | (apply Hy.mk; (try simp only [evs]); first | exact h2w | assumption) | (apply Om.mk; first | exact h2w) | (apply Y6; (try simp only [evs]); first | rfl) | apply Cn.mk))
 intro m3 r3 o3 n3; simp only [evs] at r3 o3 n3
 obtain ⟨h3, k3⟩ := h2.next (i' := i + 1) (o' := o) r3 o3 n3
 (repeat (first | apply wpN_cons | apply g_next | (apply G.h; constructor <;> (first | exact Zc | apply gI | ((repeat' (first | exact Y0 | apply Y1 | ((first | apply Y4 | apply Y5); simp only [evs, Nat.reduceEqDiff, reduceIte] <;> rfl))); done) | (apply Y6; (try simp only [evs]); first | rfl)))))
 (refine g_fin (by repeat' first | exact Rs.nil | apply Rs.cons | (apply Y4; simp only [evs, Nat.reduceEqDiff, reduceIte] <;> rfl)) (by (simp only [evs, Nat.reduceEqDiff, reduceIte] <;> first | rfl | (congr 1; omega) | omega)) ?_)
 exact ⟨rfl, by simp only [evs]; exact (Keep.grow g).trans k3, by simp only [evs]; exact h3⟩
theorem eatF {m : Mem} {rb tb tc i o : Nat} {K : List Tn} {t : Tn} (hR : Rd m rb tb tc K i o) (hx : K[i]? = some t) (s : Bs) (hT : isT t s = false) : Runs evEnv 49 [ptr rb, encS s] m fun v m' => v = .bool false ∧ Grow m m' := by
 refine runs_start rfl rfl rfl rfl ?_
 (repeat (first | apply wpN_cons | apply g_next | (apply G.h; constructor <;> (first | exact Zc | apply gI | ((repeat' (first | exact Y0 | apply Y1 | ((first | apply Y4 | apply Y5); simp only [evs, Nat.reduceEqDiff, reduceIte] <;> rfl))); done) | (apply Y6; (try simp only [evs]); first | rfl)))))
 ((first | apply g_run | apply g_run0) <;> (first | ((repeat' (first | exact Y0 | apply Y1 | exact Y2 | apply Y3 | ((first | apply Y4 | apply Y5); simp only [evs, Nat.reduceEqDiff, reduceIte] <;> rfl))); done) | exact Rn.mk ((by simp only [evs]; exact is44 hR hx s)) | apply Cn.mk))
 rintro v m2 ⟨rfl, g⟩
 try simp only [evs] at g
 rw [hT]
 (repeat (first | apply wpN_cons | apply g_next | (apply G.h; constructor <;> (first | exact Zc | apply gI | ((repeat' (first | exact Y0 | apply Y1 | ((first | apply Y4 | apply Y5); simp only [evs, Nat.reduceEqDiff, reduceIte] <;> rfl))); done) | (apply Y6; (try simp only [evs]); first | rfl)))))
 (refine g_fin (by repeat' first | exact Rs.nil | apply Rs.cons | (apply Y4; simp only [evs, Nat.reduceEqDiff, reduceIte] <;> rfl)) (by (simp only [evs, Nat.reduceEqDiff, reduceIte] <;> first | rfl | (congr 1; omega) | omega)) ?_)
 exact ⟨rfl, by simp only [evs]; exact g⟩
set_option maxHeartbeats 2000000 in
theorem want50 {m : Mem} {rb tb tc i o : Nat} {K : List Tn} {t : Tn} (hR : Rd m rb tb tc K i o) (hx : K[i]? = some t) (hk : K.length ≤ 100000) (s : Bs) (hT : isT t s = true) : Runs evEnv 50 [ptr rb, encS s] m fun v m' => KR rb m m' ∧ Rd m' rb tb tc K (i + 1) o := by
 have hw := hR.row
 refine runs_start rfl rfl rfl rfl ?_
 (repeat (first | apply wpN_cons | apply g_next | (apply G.h; constructor <;> (first | exact Zc | apply gI | ((repeat' (first | exact Y0 | apply Y1 | ((first | apply Y4 | apply Y5); simp only [evs, Nat.reduceEqDiff, reduceIte] <;> rfl))); done) | (apply Y6; (try simp only [evs]); first | exact hw.load1 rfl rfl rfl)))))
 ((first | apply g_run | apply g_run0) <;> (first | ((repeat' (first | exact Y0 | apply Y1 | exact Y2 | apply Y3 | ((first | apply Y4 | apply Y5); simp only [evs, Nat.reduceEqDiff, reduceIte] <;> rfl))); done) | exact Rn.mk ((by simp only [evs]; exact eatT hR hx hk s hT)) | apply Cn.mk))
 rintro v m2 ⟨rfl, k, h2⟩
 try simp only [evs] at k
 (repeat (first | apply wpN_cons | apply g_next | (apply G.h; constructor <;> (first | exact Zc | apply gI | ((repeat' (first | exact Y0 | apply Y1 | ((first | apply Y4 | apply Y5); simp only [evs, Nat.reduceEqDiff, reduceIte] <;> rfl))); done) | (apply Y6; (try simp only [evs]); first | rfl)))))
 (refine g_finN (by first | exact Rs.nil | skip) (by (simp only [evs, Nat.reduceEqDiff, reduceIte] <;> first | rfl | (congr 1; omega) | omega)) ?_)
 exact ⟨by simp only [evs]; exact k, by simp only [evs]; exact h2⟩
set_option maxHeartbeats 2000000 in
theorem enter68 {m : Mem} {rb tb tc i o : Nat} {K : List Tn} {t : Tn} (hR : Rd m rb tb tc K i o) (hx : K[i]? = some t) (hk : K.length ≤ 100000) (ho : o ≤ 60) (s : Bs) (hT : isT t s = true) : Runs evEnv 68 [ptr rb, encS s] m fun v m' => KR rb m m' ∧ Rd m' rb tb tc K (i + 1) (o + 1) := by
 have hi := (List.getElem?_eq_some_iff.1 hx).1
 have hw := hR.row
 refine runs_start rfl rfl rfl rfl ?_
 (repeat (first | apply wpN_cons | apply g_next | (apply G.h; constructor <;> (first | exact Zc | apply gI | ((repeat' (first | exact Y0 | apply Y1 | ((first | apply Y4 | apply Y5); simp only [evs, Nat.reduceEqDiff, reduceIte] <;> rfl))); done) | (apply Y6; (try simp only [evs]); first | exact hw.load1 rfl rfl rfl)))))
 ((first | apply g_run | apply g_run0) <;> (first | ((repeat' (first | exact Y0 | apply Y1 | exact Y2 | apply Y3 | ((first | apply Y4 | apply Y5); simp only [evs, Nat.reduceEqDiff, reduceIte] <;> rfl))); done) | exact Rn.mk ((by simp only [evs]; exact is44 hR hx s)) | apply Cn.mk))
 rintro v m2 ⟨rfl, g⟩
 try simp only [evs] at g
 rw [hT]
 have h2 := hR.grow g
 have h2w := h2.row
 (repeat (first | apply wpN_cons | apply g_next | (apply G.h; constructor <;> (first | exact Zc | apply gI | ((repeat' (first | exact Y0 | apply Y1 | ((first | apply Y4 | apply Y5); simp only [evs, Nat.reduceEqDiff, reduceIte] <;> rfl))); done) | (apply Y6; (try simp only [evs]); first | exact h2w.load1 rfl rfl rfl)))))
 (apply g_stR <;> (first | exact Zc | apply gI | ((repeat' (first | exact Y0 | apply Y1 | exact Y2 | apply Y3 | ((first | apply Y4 | apply Y5); simp only [evs, Nat.reduceEqDiff, reduceIte] <;> rfl))); done) | (apply Hy.mk; (try simp only [evs]); first | exact h2w | assumption) | (apply Om.mk; first | exact h2w) | (apply Y6; (try simp only [evs]); first | rfl) | apply Cn.mk))
 intro m3 r3 o3 n3; simp only [evs] at r3 o3 n3
 obtain ⟨h3, k3⟩ := h2.next (i' := i) (o' := o + 1) r3 o3 n3
 have h3w := h3.row
 (repeat (first | apply wpN_cons | apply g_next | (apply G.h; constructor <;> (first | exact Zc | apply gI | ((repeat' (first | exact Y0 | apply Y1 | ((first | apply Y4 | apply Y5); simp only [evs, Nat.reduceEqDiff, reduceIte] <;> rfl))); done) | (apply Y6; (try simp only [evs]); first | exact h3w.load1 rfl rfl rfl)))))
 (apply g_stR <;> (first | exact Zc | apply gI | ((repeat' (first | exact Y0 | apply Y1 | exact Y2 | apply Y3 | ((first | apply Y4 | apply Y5); simp only [evs, Nat.reduceEqDiff, reduceIte] <;> rfl))); done) | (apply Hy.mk; (try simp only [evs]); first | exact h3w | assumption) | (apply Om.mk; first | exact h3w) | (apply Y6; (try simp only [evs]); first | rfl) | apply Cn.mk))
 intro m4 r4 o4 n4; simp only [evs] at r4 o4 n4
 obtain ⟨h4, k4⟩ := h3.next (i' := i + 1) (o' := o + 1) r4 o4 n4
 (repeat (first | apply wpN_cons | apply g_next | (apply G.h; constructor <;> (first | exact Zc | apply gI | ((repeat' (first | exact Y0 | apply Y1 | ((first | apply Y4 | apply Y5); simp only [evs, Nat.reduceEqDiff, reduceIte] <;> rfl))); done) | (apply Y6; (try simp only [evs]); first | rfl)))))
 (refine g_finN (by first | exact Rs.nil | skip) (by (simp only [evs, Nat.reduceEqDiff, reduceIte] <;> first | rfl | (congr 1; omega) | omega)) ?_)
 exact ⟨by simp only [evs]; exact (Keep.grow g).trans (k3.trans k4), by simp only [evs]; exact h4⟩
set_option maxHeartbeats 2000000 in
theorem name47 {m : Mem} {rb tb tc i o : Nat} {K : List Tn} {t : Tn} (hR : Rd m rb tb tc K i o) (hx : K[i]? = some t) (hk : K.length ≤ 100000) (h1 : t.kind = 1) : Runs evEnv 47 [ptr rb] m fun v m' => v = encS t.text ∧ KR rb m m' ∧ Rd m' rb tb tc K (i + 1) o := by
 have hi := (List.getElem?_eq_some_iff.1 hx).1
 have z := row_new m [I 0, encS [], I 0, I 0] 73 0
 have g1 : Grow m (m.new (rowObj [I 0, encS [], I 0, I 0] 73 0)) := (Grow.refl m).new _
 have h1' := hR.grow g1
 have hl := h1'.agg hx
 have h1w := h1'.row
 refine runs_start rfl rfl rfl rfl ?_
 (repeat (first | apply wpN_cons | apply g_next | (apply G.h; constructor <;> (first | exact Zc | apply gI | ((repeat' (first | exact Y0 | apply Y1 | ((first | apply Y4 | apply Y5); simp only [evs, Nat.reduceEqDiff, reduceIte] <;> rfl))); done) | (apply Y6; (try simp only [evs]); first | rfl)))))
 (apply g_regionN [10, 0, 1, 2, 3, 4, 5, 6, 7, 8, 9, 11] []; (focus exact Kr.mk (by kernel_rfl)); (focus exact Rf.mk))
 (repeat (first | apply wpN_cons | apply g_next | (apply G.h; constructor <;> (first | exact Zc | apply gI | ((repeat' (first | exact Y0 | apply Y1 | ((first | apply Y4 | apply Y5); simp only [evs, Nat.reduceEqDiff, reduceIte] <;> rfl))); done) | (apply Y6; (try simp only [evs]); first | exact h1w.load1 rfl rfl rfl | exact hl)))))
 (apply g_stR <;> (first | exact Zc | apply gI | ((repeat' (first | exact Y0 | apply Y1 | exact Y2 | apply Y3 | ((first | apply Y4 | apply Y5); simp only [evs, Nat.reduceEqDiff, reduceIte] <;> rfl))); done) | (apply Hy.mk; (try simp only [evs]); first | exact z | assumption) | (apply Om.mk; first | exact z) | (apply Y6; (try simp only [evs]); first | rfl) | apply Cn.mk))
 intro m3 r3 o3 n3; simp only [evs] at r3 o3 n3
 replace r3 : Row m3 m.next t.val 73 0 := r3
 have g3 : Grow m m3 := g1.wrote (Nat.le_refl _) o3 n3
 have h3 := hR.grow g3
 have h3w := h3.row
 (repeat (first | apply wpN_cons | apply g_next | (apply G.h; constructor <;> (first | exact Zc | apply gI | ((repeat' (first | exact Y0 | apply Y1 | ((first | apply Y4 | apply Y5); simp only [evs, Nat.reduceEqDiff, reduceIte] <;> rfl))); done) | (apply Y6; (try simp only [evs]); first | rfl)))))
 refine g_last (.mk ?_) ?_
 focus exact trivial
 obtain ⟨kd, tx, nm, ps⟩ := t
 obtain rfl : kd = 1 := h1
 (repeat (first | apply wpN_cons | apply g_next | (apply G.h; constructor <;> (first | exact Zc | apply gI | ((repeat' (first | exact Y0 | apply Y1 | ((first | apply Y4 | apply Y5); simp only [evs, Nat.reduceEqDiff, reduceIte] <;> rfl))); done) | (apply Y6; (try simp only [evs]); first | exact h3w.load1 rfl rfl rfl | exact r3.load1 rfl rfl rfl)))))
 (apply g_stR <;> (first | exact Zc | apply gI | ((repeat' (first | exact Y0 | apply Y1 | exact Y2 | apply Y3 | ((first | apply Y4 | apply Y5); simp only [evs, Nat.reduceEqDiff, reduceIte] <;> rfl))); done) | (apply Hy.mk; (try simp only [evs]); first | exact h3w | assumption) | (apply Om.mk; first | exact h3w) | (apply Y6; (try simp only [evs]); first | rfl) | apply Cn.mk))
 intro m4 r4 o4 n4; simp only [evs] at r4 o4 n4
 obtain ⟨h4, k4⟩ := h3.next (i' := i + 1) (o' := o) r4 o4 n4
 have r4' := r3.keep (Nat.le_of_eq n4.symm) (o4 _ (by have := hR.ne; omega))
 (repeat (first | apply wpN_cons | apply g_next | (apply G.h; constructor <;> (first | exact Zc | apply gI | ((repeat' (first | exact Y0 | apply Y1 | ((first | apply Y4 | apply Y5); simp only [evs, Nat.reduceEqDiff, reduceIte] <;> rfl))); done) | (apply Y6; (try simp only [evs]); first | exact r4'.load1 rfl rfl rfl)))))
 (refine g_fin (by repeat' first | exact Rs.nil | apply Rs.cons | (apply Y4; simp only [evs, Nat.reduceEqDiff, reduceIte] <;> rfl)) (by (simp only [evs, Nat.reduceEqDiff, reduceIte] <;> first | rfl | (congr 1; omega) | omega)) ?_)
 exact ⟨rfl, by simp only [evs]; exact (Keep.grow g3).trans k4, by simp only [evs]; exact h4⟩
end Go.Proofs.YtihokakelnfdgaaDoor

namespace Go.Proofs.YtihokakelnfdgaaDoor
open Go Go.Ev
set_option maxRecDepth 100000
set_option linter.unusedVariables false
set_option linter.unusedSimpArgs false
set_option pp.maxSteps 1500
theorem Nodes.at4 {m : Mem} {b off : Nat} {l : List Nd} (h : Nodes m b off l) (i : Nat) (hi : i < l.length) : loadAt evEnv m 3 b (off + i * 5 + 4) = some (I l[i].pos) := by
 obtain ⟨n, c, ty, kd, h1, h2, h3⟩ := h
 exact load_cell rfl rfl h1 (by omega) (h3 i 4 hi (by omega))
attribute [local irreducible] quiet allocs effect wp ret wpO Runs Act.tmp Act.eval fin results Tree.set binOp loadAt storeAt target wanted cellsFrom

set_option maxHeartbeats 2000000 in
/-- a node and what it is made of. -/
theorem join26 (n : Nd) (k : Nat) (L : List Nd) (hL : 0 < L.length) (hl : L.length ≤ 100000) {X : Nat → Prop} {m : Mem} {v : Value} (hs : Sl X m v 43 5 (nflat L)) : Runs evEnv 26 [.agg ⟨n.val⟩, I k, v] m fun v' m' => Keep (fun c => c < m.next) [43] m m' ∧ Sl (fun c => c < m.next) m' v' 43 5 (nflat ({ n with n := k } :: L)) := by
 obtain ⟨va, vn, vc, rfl, hvn⟩ := hs.form (by decide)
 have hfl := nflat_len L
 have hf1 := nflat_one L
 have hvl : vn = L.length := by omega
 subst hvl
 have hblt : Nat.blt 0 L.length = true := by rw [Nat.blt_eq]; exact hL
 have r0 := row_new m n.val 43 0
 have g1 : Grow m (m.new (rowObj n.val 43 0)) := (Grow.refl m).new _
 refine runs_start rfl rfl rfl rfl ?_
 (repeat (first | (apply G.h; constructor <;> (first | exact Zc | apply gI | ((repeat' (first | exact Y0 | apply Y1 | ((first | apply Y4 | apply Y5); simp only [evs, Nat.reduceEqDiff, reduceIte] <;> rfl))); done) | (apply Y6; (try simp only [evs]); first | rfl)))))
 (apply g_stR <;> (first | exact Zc | apply gI | ((repeat' (first | exact Y0 | apply Y1 | exact Y2 | apply Y3 | ((first | apply Y4 | apply Y5); simp only [evs, Nat.reduceEqDiff, reduceIte] <;> rfl))); done) | (apply Hy.mk; (try simp only [evs]); first | exact r0 | assumption) | (apply Om.mk; first | exact r0) | (apply Y6; (try simp only [evs]); first | rfl) | apply Cn.mk))
 intro m3 r3 o3 n3; simp only [evs] at r3 o3 n3
 replace r3 : Row m3 m.next ({ n with n := k } : Nd).val 43 0 := r3
 have g3 : Grow m m3 := g1.wrote (Nat.le_refl _) o3 n3
 (repeat (first | (apply G.h; constructor <;> (first | exact Zc | apply gI | ((repeat' (first | exact Y0 | apply Y1 | ((first | apply Y4 | apply Y5); simp only [evs, Nat.reduceEqDiff, reduceIte] <;> rfl))); done) | (apply Y6; (try simp only [evs]); first | exact r3.loadA (k := 5) rfl rfl rfl (Nat.le_refl 5) rfl)))))
 have r4 := row_new m3 ({ n with n := k } : Nd).val 43 0
 have g4 : Grow m (m3.new (rowObj ({ n with n := k } : Nd).val 43 0)) := g3.new _
 have s4 : Sl (fun c => c < m.next) (m3.new (rowObj ({ n with n := k } : Nd).val 43 0)) (.slice (some ⟨m3.next, 0, none⟩) 1 1) 43 5 (nflat [{ n with n := k }]) := .inr ⟨m3.next, 1, _, 1, rfl, fun h => by have := g3.1; omega, r4, rfl, Nat.le_refl _, rfl⟩
 have hin := (hs.grow g4).cells (by decide) (n := L.length) hfl
 have hX : ∀ c, c < m.next → c < (m3.new (rowObj ({ n with n := k } : Nd).val 43 0)).next := fun c hc => Nat.lt_of_lt_of_le hc g4.1
 apply g_app (X := fun c => c < m.next) (l0 := nflat [{ n with n := k }]) (new := nflat L) (kk := L.length)
 focus exact Rf.mk
 focus exact Rf.mk
 focus exact Rf.mk
 focus exact Rf.mk
 focus exact Rf.mk
 focus exact Rf.mk
 focus (apply Ev.mk; (simp only [evs, Nat.reduceEqDiff, reduceIte] <;> rfl))
 focus (apply Ev.mk; (simp only [evs, Nat.reduceEqDiff, reduceIte] <;> rfl))
 focus (apply Dn.mk; (simp only [evs, Nat.reduceEqDiff, reduceIte] <;> rfl))
 focus exact Hy.mk (by simp only [evs]; exact hin)
 focus exact Hy.mk (by simp only [evs]; exact s4)
 focus exact Hy.mk (by simp only [evs]; exact hX)
 focus exact Rf.mk
 focus (rw [hblt]; exact Rf.mk)
 focus (rw [hfl]; exact Rf.mk)
 focus (rw [hf1]; exact Rf.mk)
 focus exact Om.mk (by show 5 + _ ≤ _; omega)
 focus exact Rf.mk
 focus exact Rf.mk
 refine Cn.mk ?_
 intro v' m5 s5 k5 o5 b5 f5
 simp only [evs] at s5 k5
 have kk := (Keep.grow g4).trans k5
 rw [← nflat_app] at s5
 (repeat (first | (apply G.h; constructor <;> (first | exact Zc | apply gI | ((repeat' (first | exact Y0 | apply Y1 | ((first | apply Y4 | apply Y5); simp only [evs, Nat.reduceEqDiff, reduceIte] <;> rfl))); done) | (apply Y6; (try simp only [evs]); first | rfl)))))
 (refine g_fin (by repeat' first | exact Rs.nil | apply Rs.cons | (apply Y4; simp only [evs, Nat.reduceEqDiff, reduceIte] <;> rfl)) (by (simp only [evs, Nat.reduceEqDiff, reduceIte] <;> first | rfl | (congr 1; omega) | omega)) ?_)
 exact ⟨by simp only [evs]; exact kk, by simp only [evs]; exact s5⟩
set_option maxHeartbeats 2000000 in
/-- two lists as one, of which the first is empty. -/
theorem both52 (L : List Nd) (hL : 0 < L.length) (hl : L.length ≤ 100000) {X : Nat → Prop} {m : Mem} {v : Value} (hs : Sl X m v 43 5 (nflat L)) : Runs evEnv 52 [.slice none 0 0, v] m fun v' m' => Keep (fun c => c < m.next) [43] m m' ∧ Sl (fun c => c < m.next) m' v' 43 5 (nflat L) := by
 obtain ⟨va, vn, vc, rfl, hvn⟩ := hs.form (by decide)
 have hfl := nflat_len L
 have hf1 := nflat_one L
 have hvl : vn = L.length := by omega
 subst hvl
 have hblt : Nat.blt 0 L.length = true := by rw [Nat.blt_eq]; exact hL
 have g1 : Grow m (m.new (rowObj [] 43 0)) := (Grow.refl m).new _
 have s1 : Sl (fun c => c < m.next) (m.new (rowObj [] 43 0)) (.slice (some ⟨m.next, 0, none⟩) 0 0) 43 5 [] := .inr ⟨m.next, 0, [], 0, rfl, Nat.lt_irrefl _, row_new m [] 43 0, rfl, Nat.le_refl _, rfl⟩
 refine runs_start rfl rfl rfl rfl ?_
 (repeat (first | (apply G.h; constructor <;> (first | exact Zc | apply gI | ((repeat' (first | exact Y0 | apply Y1 | ((first | apply Y4 | apply Y5); simp only [evs, Nat.reduceEqDiff, reduceIte] <;> rfl))); done) | (apply Y6; (try simp only [evs]); first | rfl)))))
 apply g_app0 (X := fun c => c < m.next) (l0 := [])
 focus exact Rf.mk
 focus exact Rf.mk
 focus exact Rf.mk
 focus exact Rf.mk
 focus exact Rf.mk
 focus exact Rf.mk
 focus (apply Ev.mk; (simp only [evs, Nat.reduceEqDiff, reduceIte] <;> rfl))
 focus (apply Ev.mk; (simp only [evs, Nat.reduceEqDiff, reduceIte] <;> rfl))
 focus (apply Dn.mk; (simp only [evs, Nat.reduceEqDiff, reduceIte] <;> rfl))
 focus exact Hy.mk rfl
 focus exact Hy.mk (by simp only [evs]; exact s1)
 refine Cn.mk ?_
 intro m4 e4 n4
 simp only [evs] at e4 n4
 have g4 : Grow m m4 := ⟨Nat.le_trans g1.1 (Nat.le_of_eq n4.symm), fun c hc => (e4 c).trans (g1.2 c hc)⟩
 have s4 : Sl (fun c => c < m.next) m4 (.slice (some ⟨m.next, 0, none⟩) 0 0) 43 5 [] := s1.grow ⟨Nat.le_of_eq n4.symm, fun c _ => e4 c⟩
 have hin := (hs.grow g4).cells (by decide) (n := L.length) hfl
 have hX : ∀ c, c < m.next → c < m4.next := fun c hc => Nat.lt_of_lt_of_le hc g4.1
 (repeat (first | (apply G.h; constructor <;> (first | exact Zc | apply gI | ((repeat' (first | exact Y0 | apply Y1 | ((first | apply Y4 | apply Y5); simp only [evs, Nat.reduceEqDiff, reduceIte] <;> rfl))); done) | (apply Y6; (try simp only [evs]); first | rfl)))))
 apply g_app (X := fun c => c < m.next) (l0 := []) (new := nflat L) (kk := L.length)
 focus exact Rf.mk
 focus exact Rf.mk
 focus exact Rf.mk
 focus exact Rf.mk
 focus exact Rf.mk
 focus exact Rf.mk
 focus (apply Ev.mk; (simp only [evs, Nat.reduceEqDiff, reduceIte] <;> rfl))
 focus (apply Ev.mk; (simp only [evs, Nat.reduceEqDiff, reduceIte] <;> rfl))
 focus (apply Dn.mk; (simp only [evs, Nat.reduceEqDiff, reduceIte] <;> rfl))
 focus exact Hy.mk (by simp only [evs]; exact hin)
 focus exact Hy.mk (by simp only [evs]; exact s4)
 focus exact Hy.mk (by simp only [evs]; exact hX)
 focus exact Rf.mk
 focus (rw [hblt]; exact Rf.mk)
 focus (rw [hfl]; exact Rf.mk)
 focus (rw [hf1]; exact Rf.mk)
 focus exact Om.mk (by simp; omega)
 focus exact Rf.mk
 focus exact Rf.mk
 refine Cn.mk ?_
 intro v' m5 s5 k5 o5 b5 f5
 simp only [evs, List.nil_append] at s5 k5
 (repeat (first | (apply G.h; constructor <;> (first | exact Zc | apply gI | ((repeat' (first | exact Y0 | apply Y1 | ((first | apply Y4 | apply Y5); simp only [evs, Nat.reduceEqDiff, reduceIte] <;> rfl))); done) | (apply Y6; (try simp only [evs]); first | rfl)))))
 (refine g_fin (by repeat' first | exact Rs.nil | apply Rs.cons | (apply Y4; simp only [evs, Nat.reduceEqDiff, reduceIte] <;> rfl)) (by (simp only [evs, Nat.reduceEqDiff, reduceIte] <;> first | rfl | (congr 1; omega) | omega)) ?_)
 refine ⟨by simp only [evs]; exact (Keep.grow g4).trans k5, by simp only [evs]; exact s5⟩
set_option maxHeartbeats 2000000 in
/-- no sign that stands between two. -/
theorem level72 (p : Nat) (m : Mem) : Runs evEnv 72 [.agg ⟨[I 5, encS [59], I 0, I p]⟩] m fun v m' => v = I (-1) ∧ Grow m m' := by
 have r0 := row_new m [I 5, encS [59], I 0, I p] 73 0
 have g1 : Grow m (m.new (rowObj [I 5, encS [59], I 0, I p] 73 0)) := (Grow.refl m).new _
 have w0 : ¬ ([59] : List UInt8) = [111, 114] := by decide
 have w1 : ¬ ([59] : List UInt8) = [97, 110, 100] := by decide
 have w2 : ¬ ([59] : List UInt8) = [61, 61] := by decide
 have w3 : ¬ ([59] : List UInt8) = [33, 61] := by decide
 have w4 : ¬ ([59] : List UInt8) = [60] := by decide
 have w5 : ¬ ([59] : List UInt8) = [60, 61] := by decide
 have w6 : ¬ ([59] : List UInt8) = [62] := by decide
 have w7 : ¬ ([59] : List UInt8) = [62, 61] := by decide
 have w8 : ¬ ([59] : List UInt8) = [43] := by decide
 have w9 : ¬ ([59] : List UInt8) = [45] := by decide
 have w10 : ¬ ([59] : List UInt8) = [42] := by decide
 have w11 : ¬ ([59] : List UInt8) = [47] := by decide
 have w12 : ¬ ([59] : List UInt8) = [37] := by decide
 refine runs_start rfl rfl rfl rfl ?_
 (repeat (first | (apply G.h; constructor <;> (first | exact Zc | apply gI | ((repeat' (first | exact Y0 | apply Y1 | ((first | apply Y4 | apply Y5); simp only [evs, Nat.reduceEqDiff, reduceIte] <;> rfl))); done) | (apply Y6; (try simp only [evs]); first | exact r0.load1 rfl rfl rfl)))))
 (refine g_fin (by repeat' first | exact Rs.nil | apply Rs.cons | (apply Y4; simp only [evs, Nat.reduceEqDiff, reduceIte] <;> rfl)) (by (simp only [evs, Nat.reduceEqDiff, reduceIte] <;> first | rfl | (congr 1; omega) | omega)) ?_)
 exact ⟨rfl, by simp only [evs]; exact g1⟩
end Go.Proofs.YtihokakelnfdgaaDoor

namespace Go.Proofs.YtihokakelnfdgaaDoor
open Go Go.Ev
set_option maxRecDepth 100000
set_option linter.unusedVariables false
set_option linter.unusedSimpArgs false
set_option pp.maxSteps 1500
attribute [local irreducible] quiet allocs effect wp ret wpO Runs Act.tmp Act.eval fin results Tree.set binOp loadAt storeAt target wanted cellsFrom

/-- what an expression of one number answers. -/
abbrev OneN (m : Mem) (rb tb tc : Nat) (K : List Tn) (i o : Nat) (t : Tn) (v : Value) (m' : Mem) : Prop :=
 KL m.next rb m m' ∧ Rd m' rb tb tc K (i + 1) o ∧ Sl (fun c => c < m.next) m' v 43 5 (nflat [⟨14, 0, [], t.num, t.pos⟩])
set_option maxHeartbeats 2000000 in
theorem primary85 {m : Mem} {rb tb tc i o : Nat} {K : List Tn} {t : Tn} (hR : Rd m rb tb tc K i o) (hx : K[i]? = some t) (hk : K.length ≤ 100000) (h1 : t.kind = 3) : Runs evEnv 85 [ptr rb] m (OneN m rb tb tc K i o t) := by
 have hi := (List.getElem?_eq_some_iff.1 hx).1
 have hrb := hR.ne
 have z := row_new m [I 0, encS [], I 0, I 0] 73 0
 have g1 : Grow m (m.new (rowObj [I 0, encS [], I 0, I 0] 73 0)) := (Grow.refl m).new _
 have h1' := hR.grow g1
 have hl := h1'.agg hx
 have h1w := h1'.row
 refine runs_start rfl rfl rfl rfl ?_
 (repeat (first | apply wpN_cons | apply g_next | (apply G.h; constructor <;> (first | exact Zc | apply gI | ((repeat' (first | exact Y0 | apply Y1 | ((first | apply Y4 | apply Y5); simp only [evs, Nat.reduceEqDiff, reduceIte] <;> rfl))); done) | (apply Y6; (try simp only [evs]); first | rfl)))))
 (apply g_regionN [10, 0, 1, 2, 3, 4, 5, 6, 7, 8, 9, 11] []; (focus exact Kr.mk (by kernel_rfl)); (focus exact Rf.mk))
 (repeat (first | apply wpN_cons | apply g_next | (apply G.h; constructor <;> (first | exact Zc | apply gI | ((repeat' (first | exact Y0 | apply Y1 | ((first | apply Y4 | apply Y5); simp only [evs, Nat.reduceEqDiff, reduceIte] <;> rfl))); done) | (apply Y6; (try simp only [evs]); first | exact h1w.load1 rfl rfl rfl | exact hl)))))
 (apply g_stR <;> (first | exact Zc | apply gI | ((repeat' (first | exact Y0 | apply Y1 | exact Y2 | apply Y3 | ((first | apply Y4 | apply Y5); simp only [evs, Nat.reduceEqDiff, reduceIte] <;> rfl))); done) | (apply Hy.mk; (try simp only [evs]); first | exact z | assumption) | (apply Om.mk; first | exact z) | (apply Y6; (try simp only [evs]); first | rfl) | apply Cn.mk))
 intro m3 r3 o3 n3; simp only [evs] at r3 o3 n3
 replace r3 : Row m3 m.next t.val 73 0 := r3
 have g3 : Grow m m3 := g1.wrote (Nat.le_refl _) o3 n3
 (repeat (first | apply wpN_cons | apply g_next | (apply G.h; constructor <;> (first | exact Zc | apply gI | ((repeat' (first | exact Y0 | apply Y1 | ((first | apply Y4 | apply Y5); simp only [evs, Nat.reduceEqDiff, reduceIte] <;> rfl))); done) | (apply Y6; (try simp only [evs]); first | rfl)))))
 refine g_last (.mk ?_) ?_
 focus exact trivial
 obtain ⟨kd, tx, nm, ps⟩ := t
 obtain rfl : kd = 3 := h1
 have nx3 : m3.next = m.next + 1 := n3
 have r3n := r3.keep_new (rowObj [I 0, I 0, encS [], I 0, I 0] 43 0)
 have z4 := row_new m3 [I 0, I 0, encS [], I 0, I 0] 43 0
 (repeat (first | apply wpN_cons | apply g_next | (apply G.h; constructor <;> (first | exact Zc | apply gI | ((repeat' (first | exact Y0 | apply Y1 | ((first | apply Y4 | apply Y5); simp only [evs, Nat.reduceEqDiff, reduceIte] <;> rfl))); done) | (apply Y6; (try simp only [evs]); first | exact r3n.load1 rfl rfl rfl | exact r3.load1 rfl rfl rfl)))))
 (apply g_stR <;> (first | exact Zc | apply gI | ((repeat' (first | exact Y0 | apply Y1 | exact Y2 | apply Y3 | ((first | apply Y4 | apply Y5); simp only [evs, Nat.reduceEqDiff, reduceIte] <;> rfl))); done) | (apply Hy.mk; (try simp only [evs]); first | exact z4 | assumption) | (apply Om.mk; first | exact z4) | (apply Y6; (try simp only [evs]); first | rfl) | apply Cn.mk))
 intro m4 r4 o4 n4; simp only [evs] at r4 o4 n4
 replace r4 : Row m4 m3.next [I 0, I 0, encS [], I 0, I ps] 43 0 := r4
 have g4 : Grow m m4 := (g3.new _).wrote g3.1 o4 n4
 have gg4 : Grow m3 m4 := ((Grow.refl m3).new _).wrote (Nat.le_refl _) o4 n4
 have r34 := r3.grow gg4
 (repeat (first | apply wpN_cons | apply g_next | (apply G.h; constructor <;> (first | exact Zc | apply gI | ((repeat' (first | exact Y0 | apply Y1 | ((first | apply Y4 | apply Y5); simp only [evs, Nat.reduceEqDiff, reduceIte] <;> rfl))); done) | (apply Y6; (try simp only [evs]); first | exact r34.load1 rfl rfl rfl)))))
 (apply g_regionN [0, 1, 2, 3, 4, 5] [(0, 5), (1, 5)]; (focus exact Kr.mk (by kernel_rfl)); (focus exact Rf.mk))
 (repeat (first | apply wpN_cons | apply g_next | (apply G.h; constructor <;> (first | exact Zc | apply gI | ((repeat' (first | exact Y0 | apply Y1 | ((first | apply Y4 | apply Y5); simp only [evs, Nat.reduceEqDiff, reduceIte] <;> rfl))); done) | (apply Y6; (try simp only [evs]); first | exact r34.load1 rfl rfl rfl)))))
 (apply g_stR <;> (first | exact Zc | apply gI | ((repeat' (first | exact Y0 | apply Y1 | exact Y2 | apply Y3 | ((first | apply Y4 | apply Y5); simp only [evs, Nat.reduceEqDiff, reduceIte] <;> rfl))); done) | (apply Hy.mk; (try simp only [evs]); first | exact r4 | assumption) | (apply Om.mk; first | exact r4) | (apply Y6; (try simp only [evs]); first | rfl) | apply Cn.mk))
 intro m5 r5 o5 n5; simp only [evs] at r5 o5 n5
 replace r5 : Row m5 m3.next [I 14, I 0, encS [], I 0, I ps] 43 0 := r5
 have r35 : Row m5 m.next [I 3, encS tx, I nm, I ps] 73 0 := r34.keep (Nat.le_of_eq n5.symm) (o5 _ (by omega))
 (repeat (first | apply wpN_cons | apply g_next | (apply G.h; constructor <;> (first | exact Zc | apply gI | ((repeat' (first | exact Y0 | apply Y1 | ((first | apply Y4 | apply Y5); simp only [evs, Nat.reduceEqDiff, reduceIte] <;> rfl))); done) | (apply Y6; (try simp only [evs]); first | rfl)))))
 (apply g_stR <;> (first | exact Zc | apply gI | ((repeat' (first | exact Y0 | apply Y1 | exact Y2 | apply Y3 | ((first | apply Y4 | apply Y5); simp only [evs, Nat.reduceEqDiff, reduceIte] <;> rfl))); done) | (apply Hy.mk; (try simp only [evs]); first | exact r5 | assumption) | (apply Om.mk; first | exact r5) | (apply Y6; (try simp only [evs]); first | rfl) | apply Cn.mk))
 intro m6 r6 o6 n6; simp only [evs] at r6 o6 n6
 replace r6 : Row m6 m3.next [I 14, I 0, encS [], I nm, I ps] 43 0 := r6
 (repeat (first | apply wpN_cons | apply g_next | (apply G.h; constructor <;> (first | exact Zc | apply gI | ((repeat' (first | exact Y0 | apply Y1 | ((first | apply Y4 | apply Y5); simp only [evs, Nat.reduceEqDiff, reduceIte] <;> rfl))); done) | (apply Y6; (try simp only [evs]); first | rfl)))))
 refine g_last (.mk ⟨.mk ?_, .mk ?_, trivial⟩) ?_
 ·(apply again_of; exact Rf.mk; exact Rf.mk; (apply Ev.mk; (simp only [evs, Nat.reduceEqDiff, reduceIte] <;> rfl)); exact Rf.mk; (repeat (first | apply wpN_cons | apply g_next | (apply G.h; constructor <;> (first | exact Zc | apply gI | ((repeat' (first | exact Y0 | apply Y1 | ((first | apply Y4 | apply Y5); simp only [evs, Nat.reduceEqDiff, reduceIte] <;> rfl))); done) | (apply Y6; (try simp only [evs]); first | rfl))))); refine eret_nil ?_; (simp only [evs, Nat.reduceEqDiff, reduceIte] <;> rfl))
 ·(apply again_of; exact Rf.mk; exact Rf.mk; (apply Ev.mk; (simp only [evs, Nat.reduceEqDiff, reduceIte] <;> rfl)); exact Rf.mk; (repeat (first | apply wpN_cons | apply g_next | (apply G.h; constructor <;> (first | exact Zc | apply gI | ((repeat' (first | exact Y0 | apply Y1 | ((first | apply Y4 | apply Y5); simp only [evs, Nat.reduceEqDiff, reduceIte] <;> rfl))); done) | (apply Y6; (try simp only [evs]); first | exact r35.load1 rfl rfl rfl))))); refine eret_nil ?_; (simp only [evs, Nat.reduceEqDiff, reduceIte] <;> rfl))
 have g6 : Grow m m6 := (g4.wrote g3.1 o5 n5).wrote g3.1 o6 n6
 have h6 := hR.grow g6
 have h6w := h6.row
 (repeat (first | apply wpN_cons | apply g_next | (apply G.h; constructor <;> (first | exact Zc | apply gI | ((repeat' (first | exact Y0 | apply Y1 | ((first | apply Y4 | apply Y5); simp only [evs, Nat.reduceEqDiff, reduceIte] <;> rfl))); done) | (apply Y6; (try simp only [evs]); first | exact h6w.load1 rfl rfl rfl)))))
 (apply g_stR <;> (first | exact Zc | apply gI | ((repeat' (first | exact Y0 | apply Y1 | exact Y2 | apply Y3 | ((first | apply Y4 | apply Y5); simp only [evs, Nat.reduceEqDiff, reduceIte] <;> rfl))); done) | (apply Hy.mk; (try simp only [evs]); first | exact h6w | assumption) | (apply Om.mk; first | exact h6w) | (apply Y6; (try simp only [evs]); first | rfl) | apply Cn.mk))
 intro m7 r7 o7 n7; simp only [evs] at r7 o7 n7
 obtain ⟨h7, k7⟩ := h6.next (i' := i + 1) (o' := o) r7 o7 n7
 have r67 : Row m7 m3.next [I 14, I 0, encS [], I nm, I ps] 43 0 := r6.keep (Nat.le_of_eq n7.symm) (o7 _ (by have := g3.1; omega))
 have r8 := row_new m7 [I 14, I 0, encS [], I nm, I ps] 43 0
 (repeat (first | apply wpN_cons | apply g_next | (apply G.h; constructor <;> (first | exact Zc | apply gI | ((repeat' (first | exact Y0 | apply Y1 | ((first | apply Y4 | apply Y5); simp only [evs, Nat.reduceEqDiff, reduceIte] <;> rfl))); done) | (apply Y6; (try simp only [evs]); first | exact r67.loadA (k := 5) rfl rfl rfl (Nat.le_refl 5) rfl)))))
 (refine g_fin (by repeat' first | exact Rs.nil | apply Rs.cons | (apply Y4; simp only [evs, Nat.reduceEqDiff, reduceIte] <;> rfl)) (by (simp only [evs, Nat.reduceEqDiff, reduceIte] <;> first | rfl | (congr 1; omega) | omega)) ?_)
 have k8 : KL m.next rb m m7 := (Keep.grow g6).trans k7.kl
 refine ⟨by simp only [evs]; exact k8.trans (Keep.new _), by simp only [evs]; exact h7.grow ((Grow.refl _).new _), ?_⟩
 simp only [evs]
 exact .inr ⟨m7.next, 1, _, 1, rfl, fun h => by have := k8.1; omega, r8, rfl, Nat.le_refl _, rfl⟩

set_option maxHeartbeats 2000000 in
theorem thing71 {m : Mem} {rb tb tc i o p : Nat} {K : List Tn} {t : Tn} (hR : Rd m rb tb tc K i o) (hx : K[i]? = some t) (hy : K[i + 1]? = some ⟨5, [59], 0, p⟩) (hk : K.length ≤ 100000) (h1 : t.kind = 3) : Runs evEnv 71 [ptr rb] m (OneN m rb tb tc K i o t) := by
 have hi := (List.getElem?_eq_some_iff.1 hx).1
 refine runs_start rfl rfl rfl rfl ?_
 (repeat (first | apply wpN_cons | apply g_next | (apply G.h; constructor <;> (first | exact Zc | apply gI | ((repeat' (first | exact Y0 | apply Y1 | ((first | apply Y4 | apply Y5); simp only [evs, Nat.reduceEqDiff, reduceIte] <;> rfl))); done) | (apply Y6; (try simp only [evs]); first | rfl)))))
 ((first | apply g_run | apply g_run0) <;> (first | ((repeat' (first | exact Y0 | apply Y1 | exact Y2 | apply Y3 | ((first | apply Y4 | apply Y5); simp only [evs, Nat.reduceEqDiff, reduceIte] <;> rfl))); done) | exact Rn.mk ((by simp only [evs]; exact primary85 hR hx hk h1)) | apply Cn.mk))
 rintro v m1 ⟨k1, h1', s1⟩
 try simp only [evs] at k1 s1
 obtain ⟨nb, cap, r, n, rfl, z2, z3, z4, z5, z6, z7⟩ := s1.at (i := 0) (by show 0 < 5; decide)
 have hn : n = 1 := by
  have := congrArg List.length z6
  rw [List.length_take] at this
  have h5 : (nflat [(⟨14, 0, [], t.num, t.pos⟩ : Nd)]).length = 5 := rfl
  omega
 subst hn
 (repeat (first | apply wpN_cons | apply g_next | (apply G.h; constructor <;> (first | exact Zc | apply gI | ((repeat' (first | exact Y0 | apply Y1 | ((first | apply Y4 | apply Y5); simp only [evs, Nat.reduceEqDiff, reduceIte] <;> rfl))); done) | (apply Y6; (try simp only [evs]); first | rfl)))))
 refine ewp_loop (ι := Unit) (fun _ a => (a.n = 70 ∧ a.defers = [] ∧ a.tmp 0 = ptr rb ∧ a.tmp 3 = .slice (some ⟨nb, 0, none⟩) 1 cap) ∧ a.m = m1) (fun _ => 0) () ?_ ?_
 ·exact ⟨(by refine ⟨?_, ?_, ?_, ?_⟩ <;> (simp only [evs, Nat.reduceEqDiff, reduceIte] <;> first | rfl | (congr 1; omega) | omega)), by (simp only [evs, Nat.reduceEqDiff, reduceIte] <;> first | rfl | (congr 1; omega) | omega)⟩
 rintro - a ⟨⟨qn, qd, q0, q3⟩, qm⟩ -
 have h1w := h1'.row
 have hp := (sl_nodes s1).at4 0 (by show 0 < 1; decide)
 have z4' := row_new m1 [I 0, I 0, encS [], I 0, I 0] 43 0
 (repeat (first | apply wpN_cons | apply g_next | (apply G.h; constructor <;> (first | exact Zc | apply gI | ((repeat' (first | exact Y0 | apply Y1 | ((first | apply Y4 | apply Y5); simp only [evs, Nat.reduceEqDiff, reduceIte, qn, qd, q0, q3, qm] <;> rfl))); done) | (apply Y6; (try simp only [evs, qn, qd, q0, q3, qm]); first | exact h1w.load1 rfl rfl rfl | exact hp)))))
 (apply g_stR <;> (first | exact Zc | apply gI | ((repeat' (first | exact Y0 | apply Y1 | exact Y2 | apply Y3 | ((first | apply Y4 | apply Y5); simp only [evs, Nat.reduceEqDiff, reduceIte, qn, qd, q0, q3, qm] <;> rfl))); done) | (apply Hy.mk; (try simp only [evs, qn, qd, q0, q3, qm]); first | exact z4' | assumption) | (apply Om.mk; first | exact z4') | (apply Y6; (try simp only [evs, qn, qd, q0, q3, qm]); first | rfl) | apply Cn.mk))
 intro m2 r2 o2 n2; simp only [evs, qn, qd, q0, q3, qm] at r2 o2 n2
 have g2 : Grow m1 m2 := ((Grow.refl m1).new _).wrote (Nat.le_refl _) o2 n2
 have h2 := h1'.grow g2
 (repeat (first | apply wpN_cons | apply g_next | (apply G.h; constructor <;> (first | exact Zc | apply gI | ((repeat' (first | exact Y0 | apply Y1 | ((first | apply Y4 | apply Y5); simp only [evs, Nat.reduceEqDiff, reduceIte, qn, qd, q0, q3] <;> rfl))); done) | (apply Y6; (try simp only [evs, qn, qd, q0, q3]); first | rfl)))))
 ((first | apply g_run | apply g_run0) <;> (first | ((repeat' (first | exact Y0 | apply Y1 | exact Y2 | apply Y3 | ((first | apply Y4 | apply Y5); simp only [evs, Nat.reduceEqDiff, reduceIte, qn, qd, q0, q3] <;> rfl))); done) | exact Rn.mk ((by simp only [evs, qn, qd, q0, q3]; exact is44 h2 hy [40])) | apply Cn.mk))
 rintro v m3 ⟨rfl, g3⟩
 try simp only [evs] at g3
 have h3 := h2.grow g3
 rw [show isT ⟨5, [59], 0, p⟩ [40] = false from rfl]
 (repeat (first | apply wpN_cons | apply g_next | (apply G.h; constructor <;> (first | exact Zc | apply gI | ((repeat' (first | exact Y0 | apply Y1 | ((first | apply Y4 | apply Y5); simp only [evs, Nat.reduceEqDiff, reduceIte, qn, qd, q0, q3] <;> rfl))); done) | (apply Y6; (try simp only [evs, qn, qd, q0, q3]); first | rfl)))))
 ((first | apply g_run | apply g_run0) <;> (first | ((repeat' (first | exact Y0 | apply Y1 | exact Y2 | apply Y3 | ((first | apply Y4 | apply Y5); simp only [evs, Nat.reduceEqDiff, reduceIte, qn, qd, q0, q3] <;> rfl))); done) | exact Rn.mk ((by simp only [evs, qn, qd, q0, q3]; exact is44 h3 hy [91])) | apply Cn.mk))
 rintro v m4 ⟨rfl, g4⟩
 try simp only [evs] at g4
 have h4 := h3.grow g4
 rw [show isT ⟨5, [59], 0, p⟩ [91] = false from rfl]
 (repeat (first | apply wpN_cons | apply g_next | (apply G.h; constructor <;> (first | exact Zc | apply gI | ((repeat' (first | exact Y0 | apply Y1 | ((first | apply Y4 | apply Y5); simp only [evs, Nat.reduceEqDiff, reduceIte, qn, qd, q0, q3] <;> rfl))); done) | (apply Y6; (try simp only [evs, qn, qd, q0, q3]); first | rfl)))))
 ((first | apply g_run | apply g_run0) <;> (first | ((repeat' (first | exact Y0 | apply Y1 | exact Y2 | apply Y3 | ((first | apply Y4 | apply Y5); simp only [evs, Nat.reduceEqDiff, reduceIte, qn, qd, q0, q3] <;> rfl))); done) | exact Rn.mk ((by simp only [evs, qn, qd, q0, q3]; exact eatF h4 hy [46] rfl)) | apply Cn.mk))
 rintro v m5 ⟨rfl, g5⟩
 try simp only [evs] at g5
 have g15 : Grow m1 m5 := g2.trans (g3.trans (g4.trans g5))
 (repeat (first | apply wpN_cons | apply g_next | (apply G.h; constructor <;> (first | exact Zc | apply gI | ((repeat' (first | exact Y0 | apply Y1 | ((first | apply Y4 | apply Y5); simp only [evs, Nat.reduceEqDiff, reduceIte, qn, qd, q0, q3] <;> rfl))); done) | (apply Y6; (try simp only [evs, qn, qd, q0, q3]); first | rfl)))))
 (refine g_fin (by repeat' first | exact Rs.nil | apply Rs.cons | (apply Y4; simp only [evs, Nat.reduceEqDiff, reduceIte, qn, qd, q0, q3] <;> rfl)) (by (simp only [evs, Nat.reduceEqDiff, reduceIte, qn, qd, q0, q3] <;> first | rfl | (congr 1; omega) | omega)) ?_)
 exact ⟨by simp only [evs]; exact k1.trans (Keep.grow g15), by simp only [evs]; exact h1'.grow g15, by simp only [evs]; exact s1.grow g15⟩

end Go.Proofs.YtihokakelnfdgaaDoor

namespace Go.Proofs.YtihokakelnfdgaaDoor
open Go Go.Ev
set_option maxRecDepth 100000
set_option linter.unusedVariables false
set_option linter.unusedSimpArgs false
set_option pp.maxSteps 1500
attribute [local irreducible] quiet allocs effect wp ret wpO Runs Act.tmp Act.eval fin results Tree.set binOp loadAt storeAt target wanted cellsFrom

theorem expr51_6 {m : Mem} {rb tb tc i o p : Nat} {K : List Tn} {t : Tn} (hR : Rd m rb tb tc K i o) (hx : K[i]? = some t) (hy : K[i + 1]? = some ⟨5, [59], 0, p⟩) (hk : K.length ≤ 100000) (h1 : t.kind = 3) : Runs evEnv 51 [ptr rb, I 6] m (OneN m rb tb tc K i o t) := by
 have hw := hR.row
 have hT : isT t [45] = false := by unfold isT; rw [h1]; rfl
 refine runs_start rfl rfl rfl rfl ?_
 (repeat (first | apply wpN_cons | apply g_next | (apply G.h; constructor <;> (first | exact Zc | apply gI | ((repeat' (first | exact Y0 | apply Y1 | ((first | apply Y4 | apply Y5); simp only [evs, Nat.reduceEqDiff, reduceIte] <;> rfl))); done) | (apply Y6; (try simp only [evs]); first | exact hw.load1 rfl rfl rfl)))))
 ((first | apply g_run | apply g_run0) <;> (first | ((repeat' (first | exact Y0 | apply Y1 | exact Y2 | apply Y3 | ((first | apply Y4 | apply Y5); simp only [evs, Nat.reduceEqDiff, reduceIte] <;> rfl))); done) | exact Rn.mk ((by simp only [evs]; exact is44 hR hx [45])) | apply Cn.mk))
 rintro v m1 ⟨rfl, g1⟩
 try simp only [evs] at g1
 rw [hT]
 (repeat (first | apply wpN_cons | apply g_next | (apply G.h; constructor <;> (first | exact Zc | apply gI | ((repeat' (first | exact Y0 | apply Y1 | ((first | apply Y4 | apply Y5); simp only [evs, Nat.reduceEqDiff, reduceIte] <;> rfl))); done) | (apply Y6; (try simp only [evs]); first | rfl)))))
 ((first | apply g_run | apply g_run0) <;> (first | ((repeat' (first | exact Y0 | apply Y1 | exact Y2 | apply Y3 | ((first | apply Y4 | apply Y5); simp only [evs, Nat.reduceEqDiff, reduceIte] <;> rfl))); done) | exact Rn.mk ((by simp only [evs]; exact thing71 (hR.grow g1) hx hy hk h1)) | apply Cn.mk))
 rintro v m2 ⟨k2, h2, s2⟩
 try simp only [evs] at k2 s2
 (repeat (first | apply wpN_cons | apply g_next | (apply G.h; constructor <;> (first | exact Zc | apply gI | ((repeat' (first | exact Y0 | apply Y1 | ((first | apply Y4 | apply Y5); simp only [evs, Nat.reduceEqDiff, reduceIte] <;> rfl))); done) | (apply Y6; (try simp only [evs]); first | rfl)))))
 (refine g_fin (by repeat' first | exact Rs.nil | apply Rs.cons | (apply Y4; simp only [evs, Nat.reduceEqDiff, reduceIte] <;> rfl)) (by (simp only [evs, Nat.reduceEqDiff, reduceIte] <;> first | rfl | (congr 1; omega) | omega)) ?_)
 exact ⟨by simp only [evs]; exact (Keep.grow g1).trans (k2.up g1.1), by simp only [evs]; exact h2, by simp only [evs]; exact s2.sub fun b _ hn hb => hn (Nat.lt_of_lt_of_le hb g1.1)⟩
set_option maxHeartbeats 2000000 in
theorem expr51_s {m : Mem} {rb tb tc i o p lev : Nat} {K : List Tn} {t : Tn} (hlev : lev < 6) (hx : K[i]? = some t) (hy : K[i + 1]? = some ⟨5, [59], 0, p⟩) (hk : K.length ≤ 100000) (h1 : t.kind = 3)
  (hc : ∀ m : Mem, Rd m rb tb tc K i o → Runs evEnv 51 [ptr rb, I (lev + 1 : Nat)] m (OneN m rb tb tc K i o t)) (hR : Rd m rb tb tc K i o) : Runs evEnv 51 [ptr rb, I lev] m (OneN m rb tb tc K i o t) := by
 have hw := hR.row
 have hy1 := (List.getElem?_eq_some_iff.1 hy).1
 have hT : isT t [110, 111, 116] = false := by unfold isT; rw [h1]; rfl
 refine runs_start rfl rfl rfl rfl ?_
 by_cases h2 : lev = 2
 ·(repeat (first | apply wpN_cons | apply g_next | (apply G.h; constructor <;> (first | exact Zc | apply gI | ((repeat' (first | exact Y0 | apply Y1 | ((first | apply Y4 | apply Y5); simp only [evs, Nat.reduceEqDiff, reduceIte] <;> rfl))); done) | (apply Y6; (try simp only [evs]); first | exact hw.load1 rfl rfl rfl)))))
  ((first | apply g_run | apply g_run0) <;> (first | ((repeat' (first | exact Y0 | apply Y1 | exact Y2 | apply Y3 | ((first | apply Y4 | apply Y5); simp only [evs, Nat.reduceEqDiff, reduceIte] <;> rfl))); done) | exact Rn.mk ((by simp only [evs]; exact is44 hR hx [110, 111, 116])) | apply Cn.mk))
  rintro v m1 ⟨rfl, g1⟩
  try simp only [evs] at g1
  rw [hT]
  (repeat (first | apply wpN_cons | apply g_next | (apply G.h; constructor <;> (first | exact Zc | apply gI | ((repeat' (first | exact Y0 | apply Y1 | ((first | apply Y4 | apply Y5); simp only [evs, Nat.reduceEqDiff, reduceIte] <;> rfl))); done) | (apply Y6; (try simp only [evs]); first | rfl)))))
  ((first | apply g_run | apply g_run0) <;> (first | ((repeat' (first | exact Y0 | apply Y1 | exact Y2 | apply Y3 | ((first | apply Y4 | apply Y5); simp only [evs, Nat.reduceEqDiff, reduceIte] <;> rfl))); done) | exact Rn.mk ((by simp only [evs]; exact hc _ (hR.grow g1))) | apply Cn.mk))
  rintro v m2 ⟨k2, h2', s2⟩
  try simp only [evs] at k2 s2
  have h2w := h2'.row
  (repeat (first | apply wpN_cons | apply g_next | (apply G.h; constructor <;> (first | exact Zc | apply gI | ((repeat' (first | exact Y0 | apply Y1 | ((first | apply Y4 | apply Y5); simp only [evs, Nat.reduceEqDiff, reduceIte] <;> rfl))); done) | (apply Y6; (try simp only [evs]); first | rfl)))))
  refine ewp_loop (ι := Unit) (fun _ a => (a.n = 99 ∧ a.defers = [] ∧ a.tmp 0 = ptr rb ∧ a.tmp 1 = I lev ∧ a.tmp 5 = v) ∧ a.m = m2) (fun _ => 0) () ?_ ?_
  ·exact ⟨(by refine ⟨?_, ?_, ?_, ?_, ?_⟩ <;> (simp only [evs, Nat.reduceEqDiff, reduceIte] <;> first | rfl | (congr 1; omega) | omega)), by (simp only [evs, Nat.reduceEqDiff, reduceIte] <;> first | rfl | (congr 1; omega) | omega)⟩
  rintro - a ⟨⟨un, ud, u0, u1, u5⟩, um⟩ -
  (repeat (first | apply wpN_cons | apply g_next | (apply G.h; constructor <;> (first | exact Zc | apply gI | ((repeat' (first | exact Y0 | apply Y1 | ((first | apply Y4 | apply Y5); simp only [evs, Nat.reduceEqDiff, reduceIte, un, ud, u0, u1, u5, um] <;> rfl))); done) | (apply Y6; (try simp only [evs, un, ud, u0, u1, u5, um]); first | exact h2w.load1 rfl rfl rfl)))))
  (apply g_regionN [0, 1, 2, 3, 4, 5, 6, 7, 8, 9, 10, 11, 12, 13, 14, 15, 16, 17, 18, 19, 20, 21, 22, 23] [(21, 20)]; (focus exact Kr.mk (by kernel_rfl)); (focus exact Rf.mk))
  (repeat (first | apply wpN_cons | apply g_next | (apply G.h; constructor <;> (first | exact Zc | apply gI | ((repeat' (first | exact Y0 | apply Y1 | ((first | apply Y4 | apply Y5); simp only [evs, Nat.reduceEqDiff, reduceIte, un, ud, u0, u1, u5, um] <;> rfl))); done) | (apply Y6; (try simp only [evs, un, ud, u0, u1, u5, um]); first | exact h2w.load1 rfl rfl rfl)))))
  refine g_last (.mk ⟨.mk ?_, trivial⟩) ?_
  ·apply again_skip
   focus exact Rf.mk
   focus (apply Ev.mk; (simp only [evs, Nat.reduceEqDiff, reduceIte, un, ud, u0, u1, u5] <;> rfl))
   focus exact Rf.mk
  (repeat (first | apply wpN_cons | apply g_next | (apply G.h; constructor <;> (first | exact Zc | apply gI | ((repeat' (first | exact Y0 | apply Y1 | ((first | apply Y4 | apply Y5); simp only [evs, Nat.reduceEqDiff, reduceIte, un, ud, u0, u1, u5] <;> rfl))); done) | (apply Y6; (try simp only [evs, un, ud, u0, u1, u5]); first | rfl)))))
  (refine g_fin (by repeat' first | exact Rs.nil | apply Rs.cons | (apply Y4; simp only [evs, Nat.reduceEqDiff, reduceIte, un, ud, u0, u1, u5] <;> rfl)) (by (simp only [evs, Nat.reduceEqDiff, reduceIte, un, ud, u0, u1, u5] <;> first | rfl | (congr 1; omega) | omega)) ?_)
  exact ⟨by simp only [evs, um]; exact (Keep.grow g1).trans (k2.up g1.1), by simp only [evs, um]; exact h2', by simp only [evs, um]; exact s2.sub fun b _ hn hb => hn (Nat.lt_of_lt_of_le hb g1.1)⟩
 ·(repeat (first | apply wpN_cons | apply g_next | (apply G.h; constructor <;> (first | exact Zc | apply gI | ((repeat' (first | exact Y0 | apply Y1 | ((first | apply Y4 | apply Y5); simp only [evs, Nat.reduceEqDiff, reduceIte] <;> rfl))); done) | (apply Y6; (try simp only [evs]); first | exact hw.load1 rfl rfl rfl)))))
  ((first | apply g_run | apply g_run0) <;> (first | ((repeat' (first | exact Y0 | apply Y1 | exact Y2 | apply Y3 | ((first | apply Y4 | apply Y5); simp only [evs, Nat.reduceEqDiff, reduceIte] <;> rfl))); done) | exact Rn.mk ((by simp only [evs]; exact hc _ hR)) | apply Cn.mk))
  rintro v m2 ⟨k2, h2', s2⟩
  try simp only [evs] at k2 s2
  have h2w := h2'.row
  have hla := h2'.agg hy
  (repeat (first | apply wpN_cons | apply g_next | (apply G.h; constructor <;> (first | exact Zc | apply gI | ((repeat' (first | exact Y0 | apply Y1 | ((first | apply Y4 | apply Y5); simp only [evs, Nat.reduceEqDiff, reduceIte] <;> rfl))); done) | (apply Y6; (try simp only [evs]); first | rfl)))))
  refine ewp_loop (ι := Unit) (fun _ a => (a.n = 99 ∧ a.defers = [] ∧ a.tmp 0 = ptr rb ∧ a.tmp 1 = I lev ∧ a.tmp 5 = v) ∧ a.m = m2) (fun _ => 0) () ?_ ?_
  ·exact ⟨(by refine ⟨?_, ?_, ?_, ?_, ?_⟩ <;> (simp only [evs, Nat.reduceEqDiff, reduceIte] <;> first | rfl | (congr 1; omega) | omega)), by (simp only [evs, Nat.reduceEqDiff, reduceIte] <;> first | rfl | (congr 1; omega) | omega)⟩
  rintro - a ⟨⟨un, ud, u0, u1, u5⟩, um⟩ -
  (repeat (first | apply wpN_cons | apply g_next | (apply G.h; constructor <;> (first | exact Zc | apply gI | ((repeat' (first | exact Y0 | apply Y1 | ((first | apply Y4 | apply Y5); simp only [evs, Nat.reduceEqDiff, reduceIte, un, ud, u0, u1, u5, um] <;> rfl))); done) | (apply Y6; (try simp only [evs, un, ud, u0, u1, u5, um]); first | exact h2w.load1 rfl rfl rfl | exact hla)))))
  (apply g_regionN [0, 1, 2, 3, 4, 5, 6, 7, 8, 9, 10, 11, 12, 13, 14, 15, 16, 17, 18, 19, 20, 21, 22, 23] [(21, 20)]; (focus exact Kr.mk (by kernel_rfl)); (focus exact Rf.mk))
  (repeat (first | apply wpN_cons | apply g_next | (apply G.h; constructor <;> (first | exact Zc | apply gI | ((repeat' (first | exact Y0 | apply Y1 | ((first | apply Y4 | apply Y5); simp only [evs, Nat.reduceEqDiff, reduceIte, un, ud, u0, u1, u5, um] <;> rfl))); done) | (apply Y6; (try simp only [evs, un, ud, u0, u1, u5, um]); first | exact h2w.load1 rfl rfl rfl | exact hla)))))
  ((first | apply g_run | apply g_run0) <;> (first | ((repeat' (first | exact Y0 | apply Y1 | exact Y2 | apply Y3 | ((first | apply Y4 | apply Y5); simp only [evs, Nat.reduceEqDiff, reduceIte, un, ud, u0, u1, u5, um] <;> rfl))); done) | exact Rn.mk (level72 p _) | apply Cn.mk))
  rintro v' m3 ⟨rfl, g3⟩
  try simp only [evs, um] at g3
  (repeat (first | apply wpN_cons | apply g_next | (apply G.h; constructor <;> (first | exact Zc | apply gI | ((repeat' (first | exact Y0 | apply Y1 | ((first | apply Y4 | apply Y5); simp only [evs, Nat.reduceEqDiff, reduceIte, un, ud, u0, u1, u5] <;> rfl))); done) | (apply Y6; (try simp only [evs, un, ud, u0, u1, u5]); first | rfl)))))
  refine g_last (.mk ⟨.mk ?_, trivial⟩) ?_
  ·(apply again_of; exact Rf.mk; exact Rf.mk; (apply Ev.mk; (simp only [evs, Nat.reduceEqDiff, reduceIte, un, ud, u0, u1, u5] <;> rfl)); exact Rf.mk; (repeat (first | apply wpN_cons | apply g_next | (apply G.h; constructor <;> (first | exact Zc | apply gI | ((repeat' (first | exact Y0 | apply Y1 | ((first | apply Y4 | apply Y5); simp only [evs, Nat.reduceEqDiff, reduceIte, un, ud, u0, u1, u5] <;> rfl))); done) | (apply Y6; (try simp only [evs, un, ud, u0, u1, u5]); first | rfl))))); refine eret_nil ?_; (simp only [evs, Nat.reduceEqDiff, reduceIte, un, ud, u0, u1, u5] <;> rfl))
  (repeat (first | apply wpN_cons | apply g_next | (apply G.h; constructor <;> (first | exact Zc | apply gI | ((repeat' (first | exact Y0 | apply Y1 | ((first | apply Y4 | apply Y5); simp only [evs, Nat.reduceEqDiff, reduceIte, un, ud, u0, u1, u5] <;> rfl))); done) | (apply Y6; (try simp only [evs, un, ud, u0, u1, u5]); first | rfl)))))
  (refine g_fin (by repeat' first | exact Rs.nil | apply Rs.cons | (apply Y4; simp only [evs, Nat.reduceEqDiff, reduceIte, un, ud, u0, u1, u5] <;> rfl)) (by (simp only [evs, Nat.reduceEqDiff, reduceIte, un, ud, u0, u1, u5] <;> first | rfl | (congr 1; omega) | omega)) ?_)
  exact ⟨by simp only [evs]; exact k2.trans (Keep.grow g3), by simp only [evs]; exact h2'.grow g3, by simp only [evs]; exact s2.grow g3⟩
theorem expr51 {m : Mem} {rb tb tc i o p : Nat} {K : List Tn} {t : Tn} (hR : Rd m rb tb tc K i o) (hx : K[i]? = some t) (hy : K[i + 1]? = some ⟨5, [59], 0, p⟩) (hk : K.length ≤ 100000) (h1 : t.kind = 3) : Runs evEnv 51 [ptr rb, I 0] m (OneN m rb tb tc K i o t) :=
 expr51_s (lev := 0) (by decide) hx hy hk h1 (fun _ h => expr51_s (lev := 1) (by decide) hx hy hk h1 (fun _ h => expr51_s (lev := 2) (by decide) hx hy hk h1 (fun _ h => expr51_s (lev := 3) (by decide) hx hy hk h1 (fun _ h => expr51_s (lev := 4) (by decide) hx hy hk h1 (fun _ h => expr51_s (lev := 5) (by decide) hx hy hk h1 (fun _ h => expr51_6 h hx hy hk h1) h) h) h) h) h) hR
end Go.Proofs.YtihokakelnfdgaaDoor
