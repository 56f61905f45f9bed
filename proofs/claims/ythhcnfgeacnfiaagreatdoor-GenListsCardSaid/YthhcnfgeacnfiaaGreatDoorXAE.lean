/- Part of a verified evaluator of the model's programs and of runs by it: PC MB MC MD. -/
import Derived.Test.YthhcnfgeacnfiaaGreatDoorXAD
import Derived.Test.YthhcnfgeacnfiaaGreatDoorEvG
import Derived.Test.YthhcnfgeacnfiaaGreatDoorXAB
namespace Go.Proofs.YthhcnfgeacnfiaaGreatDoor
open Go Go.Ev
set_option maxRecDepth 100000
set_option linter.unusedVariables false
set_option linter.unusedSimpArgs false
set_option pp.maxSteps 1500

/-- the reader at a token, so many open, no fault so far. -/
structure Rd (m : Mem) (rb tb tc : Nat) (K : List Tn) (i o : Nat) : Prop where
 row : Row m rb [.slice (some ⟨tb, 0, none⟩) K.length tc, I i, I o, I 0, I 0] 85 0
 tk : Sl (fun _ => False) m (.slice (some ⟨tb, 0, none⟩) K.length tc) 87 4 (encT K)
theorem encT_get : ∀ (K : List Tn) (i j : Nat) (t : Tn), K[i]? = some t → j < 4 → (encT K)[i * 4 + j]? = t.val[j]?
 | [], i, j, t, h, _ => by simp at h
 | x :: K, 0, j, t, h, hj => by
  simp at h; subst h
  show (x.val ++ encT K)[0 * 4 + j]? = _
  rw [Nat.zero_mul, Nat.zero_add, List.getElem?_append_left (by show j < 4; exact hj)]
 | x :: K, i + 1, j, t, h, hj => by
  show (x.val ++ encT K)[(i + 1) * 4 + j]? = _
  rw [List.getElem?_append_right (by show 4 ≤ _; omega), show (i + 1) * 4 + j - x.val.length = i * 4 + j by show (i + 1) * 4 + j - 4 = _; omega]
  exact encT_get K i j t (by simpa using h) hj
section
variable {m m' : Mem} {rb tb tc i j o : Nat} {K : List Tn} {t : Tn}
theorem Rd.cells (h : Rd m rb tb tc K i o) (hx : K[j]? = some t) : ∃ r, Row m tb r 87 0 ∧ j * 4 + 4 ≤ r.length ∧ ∀ q, q < 4 → r[j * 4 + q]? = t.val[q]? := by
 have hj := (List.getElem?_eq_some_iff.1 hx).1
 have hlen := encT_len K
 obtain ⟨b, cap, r, n, z1, z2, z3, z4, z5, z6, z7⟩ := h.tk.at (i := j * 4) (by omega)
 cases z1
 have hl := congrArg List.length z6
 rw [List.length_take, hlen] at hl
 refine ⟨r, z3, by omega, fun q hq => ?_⟩
 rw [← encT_get K j q t hx hq, z6, List.getElem?_take_of_lt (by omega)]
theorem Rd.agg (h : Rd m rb tb tc K i o) (hx : K[j]? = some t) : loadAt evEnv m 87 tb (0 + j * 4) = some (.agg ⟨t.val⟩) := by
 obtain ⟨r, z3, hl, hg⟩ := h.cells hx
 refine z3.loadA (k := 4) rfl rfl rfl (by omega) ?_
 apply List.ext_getElem?
 intro q
 rcases Nat.lt_or_ge q 4 with hq | hq
 ·rw [List.getElem?_take_of_lt hq, List.getElem?_drop, show 0 + j * 4 + q = j * 4 + q by omega, hg q hq]
 ·rw [List.getElem?_eq_none (by rw [List.length_take]; omega), List.getElem?_eq_none (by show 4 ≤ q; exact hq)]
theorem Rd.kind (h : Rd m rb tb tc K i o) (hx : K[j]? = some t) : loadAt evEnv m 3 tb (0 + j * 4 + 0) = some (I t.kind) := by
 obtain ⟨r, z3, hl, hg⟩ := h.cells hx
 exact z3.load1 rfl rfl (by rw [show 0 + j * 4 + 0 = j * 4 + 0 by omega, hg 0 (by omega)]; rfl)
theorem Rd.pos (h : Rd m rb tb tc K i o) (hx : K[j]? = some t) : loadAt evEnv m 3 tb (0 + j * 4 + 3) = some (I t.pos) := by
 obtain ⟨r, z3, hl, hg⟩ := h.cells hx
 exact z3.load1 rfl rfl (by rw [show 0 + j * 4 + 3 = j * 4 + 3 by omega, hg 3 (by omega)]; rfl)
theorem _root_.Go.Ev.Sl.any {X X' : Nat → Prop} {T : List Nat} {m m' : Mem} {v : Value} {e sz : Nat} {l : List Value} (h : Sl X m v e sz l) (k : Keep X' T m m') (hx : e ∉ T) : Sl X m' v e sz l := by
 rcases h with h | ⟨b, cap, r, n, h1, h2, h3, h4⟩
 ·exact .inl h
 ·exact .inr ⟨b, cap, r, n, h1, h2, h3.stay k (.inr hx), h4⟩
theorem Rd.grow (h : Rd m rb tb tc K i o) (g : Grow m m') : Rd m' rb tb tc K i o := ⟨h.row.grow g, h.tk.grow g⟩
/-- all but the reader stays. -/
abbrev KR (rb : Nat) (m m' : Mem) : Prop := Keep (fun c => c ≠ rb) [85] m m'
theorem Rd.next (h : Rd m rb tb tc K i o) {i' o' : Nat} (hr : Row m' rb [.slice (some ⟨tb, 0, none⟩) K.length tc, I i', I o', I 0, I 0] 85 0) (ho : ∀ x, x ≠ rb → m'.get x = m.get x) (hn : m'.next = m.next) : Rd m' rb tb tc K i' o' ∧ KR rb m m' := by
 have k : KR rb m m' := Keep.row h.row (fun hh => hh rfl) (by decide) ho hn
 exact ⟨⟨hr, h.tk.any k (by decide)⟩, k⟩
theorem Rd.ne (h : Rd m rb tb tc K i o) : rb < m.next := h.row.1
/-- what is made beside what there is. -/
abbrev KL (n rb : Nat) (m m' : Mem) : Prop := Keep (fun c => c < n ∧ c ≠ rb) [58, 85] m m'
theorem KR.kl {n : Nat} (k : KR rb m m') : KL n rb m m' := (Keep.sub k (fun _ h => h.2)).mono (by simp)
theorem KL.up {n n' : Nat} (k : KL n' rb m m') (h : n ≤ n') : KL n rb m m' := Keep.sub k fun c hc => ⟨Nat.lt_of_lt_of_le hc.1 h, hc.2⟩
theorem _root_.Go.Ev.Row.over {b e kd : Nat} {r r' : List Value} (h : Row m b r e kd) (k : KL m.next rb m m') (hr : Row m rb r' 85 0) (he : e ≠ 85) : Row m' b r e kd :=
 h.stay k (.inl ⟨h.1, h.ne hr he⟩)
theorem _root_.Go.Ev.Sl.over {X : Nat → Prop} {v : Value} {e sz : Nat} {l r' : List Value} (h : Sl X m v e sz l) (k : KL m.next rb m m') (hr : Row m rb r' 85 0) (he : e ≠ 85) : Sl X m' v e sz l := by
 rcases h with h | ⟨b, cap, r, n, h1, h2, h3, h4⟩
 ·exact .inl h
 ·exact .inr ⟨b, cap, r, n, h1, h2, h3.over k hr he, h4⟩
end
/-- is it this word or sign? -/
def isT (t : Tn) (s : Bs) : Bool := (decide (t.kind = 2) || decide (t.kind = 5)) && decide (t.text = s)
attribute [local irreducible] quiet allocs effect wp ret wpO Runs Act.tmp Act.eval fin results Tree.set binOp loadAt storeAt target wanted cellsFrom

set_option maxHeartbeats 2000000 in
theorem at43 {m : Mem} {rb tb tc i o : Nat} {K : List Tn} {t : Tn} (hR : Rd m rb tb tc K i o) (hx : K[i]? = some t) : Runs evEnv 50 [ptr rb] m fun v m' => v = I t.pos ∧ m' = m := by
 have hi := (List.getElem?_eq_some_iff.1 hx).1
 refine runs_start rfl rfl rfl rfl ?_
 (repeat (first | apply wpN_cons | apply g_next | (apply G.h; constructor <;> (first | exact Zc | apply gI | ((repeat' (first | exact Y0 | apply Y1 | ((first | apply Y4 | apply Y5); simp only [evs, Nat.reduceEqDiff, reduceIte] <;> rfl))); done) | (apply Y6; (try simp only [evs]); first | exact hR.row.load1 rfl rfl rfl | exact hR.pos hx)))))
 (refine g_fin (by repeat' first | exact Rs.nil | apply Rs.cons | (apply Y4; simp only [evs, Nat.reduceEqDiff, reduceIte] <;> rfl)) (by (simp only [evs, Nat.reduceEqDiff, reduceIte] <;> first | rfl | (congr 1; omega) | omega)) ?_)
 exact ⟨rfl, by (simp only [evs, Nat.reduceEqDiff, reduceIte] <;> first | rfl | (congr 1; omega) | omega)⟩
set_option maxHeartbeats 2000000 in
theorem is44 {m : Mem} {rb tb tc i o : Nat} {K : List Tn} {t : Tn} (hR : Rd m rb tb tc K i o) (hx : K[i]? = some t) (s : Bs) : Runs evEnv 51 [ptr rb, encS s] m fun v m' => v = .bool (isT t s) ∧ Grow m m' := by
 have hi := (List.getElem?_eq_some_iff.1 hx).1
 have z := row_new m [I 0, encS [], I 0, I 0] 87 0
 have g1 : Grow m (m.new (rowObj [I 0, encS [], I 0, I 0] 87 0)) := (Grow.refl m).new _
 have h1 := hR.grow g1
 have hl := h1.agg hx
 have h1w := h1.row
 refine runs_start rfl rfl rfl rfl ?_
 (repeat (first | apply wpN_cons | apply g_next | (apply G.h; constructor <;> (first | exact Zc | apply gI | ((repeat' (first | exact Y0 | apply Y1 | ((first | apply Y4 | apply Y5); simp only [evs, Nat.reduceEqDiff, reduceIte] <;> rfl))); done) | (apply Y6; (try simp only [evs]); first | rfl)))))
 (apply g_regionN [10, 0, 1, 2, 3, 4, 5, 6, 7, 8, 9, 11] []; (focus exact Kr.mk (by kernel_rfl)); (focus exact Rf.mk))
 (repeat (first | apply wpN_cons | apply g_next | (apply G.h; constructor <;> (first | exact Zc | apply gI | ((repeat' (first | exact Y0 | apply Y1 | ((first | apply Y4 | apply Y5); simp only [evs, Nat.reduceEqDiff, reduceIte] <;> rfl))); done) | (apply Y6; (try simp only [evs]); first | exact h1w.load1 rfl rfl rfl | exact hl)))))
 (apply g_stR <;> (first | exact Zc | apply gI | ((repeat' (first | exact Y0 | apply Y1 | exact Y2 | apply Y3 | ((first | apply Y4 | apply Y5); simp only [evs, Nat.reduceEqDiff, reduceIte] <;> rfl))); done) | (apply Hy.mk; (try simp only [evs]); first | exact z | assumption) | (apply Om.mk; first | exact z) | (apply Y6; (try simp only [evs]); first | rfl) | apply Cn.mk))
 intro m3 r3 o3 n3; simp only [evs] at r3 o3 n3
 replace r3 : Row m3 m.next t.val 87 0 := r3
 have g3 : Grow m m3 := g1.wrote (Nat.le_refl _) o3 n3
 have h3 := (hR.grow g3).row
 (repeat (first | apply wpN_cons | apply g_next | (apply G.h; constructor <;> (first | exact Zc | apply gI | ((repeat' (first | exact Y0 | apply Y1 | ((first | apply Y4 | apply Y5); simp only [evs, Nat.reduceEqDiff, reduceIte] <;> rfl))); done) | (apply Y6; (try simp only [evs]); first | rfl)))))
 refine g_last (.mk ?_) ?_
 focus exact trivial
 obtain ⟨kd, tx, nm, ps⟩ := t
 (repeat' (first | apply wpN_cons | apply g_next | (apply G.h; constructor <;> (first | exact Zc | apply gI | ((repeat' (first | exact Y0 | apply Y1 | ((first | apply Y4 | apply Y5); simp only [evs, Nat.reduceEqDiff, reduceIte] <;> rfl))); done) | (apply Y6; (try simp only [evs]); first | exact h3.load1 rfl rfl rfl | exact r3.load1 rfl rfl rfl))) | (apply g_split <;> (first | (apply Ev.mk; (simp only [evs, Nat.reduceEqDiff, reduceIte] <;> rfl)) | (apply Dn.mk; (simp only [evs, Nat.reduceEqDiff, reduceIte] <;> rfl)) | (apply g_wpO) | intro h | constructor | fail))))
 all_goals
  (refine g_fin (by repeat' first | exact Rs.nil | apply Rs.cons | (apply Y4; simp only [evs, Nat.reduceEqDiff, reduceIte] <;> rfl)) (by (simp only [evs, Nat.reduceEqDiff, reduceIte] <;> first | rfl | (congr 1; omega) | omega)) ?_)
  refine ⟨congrArg Value.bool ?_, by simp only [evs]; exact g3⟩
  unfold isT
  simp only
  first | (simp_all; done) | (simp_all; omega) | (simp_all; intros; omega) | (simp_all; intro hh; omega)

set_option maxHeartbeats 2000000 in
theorem eatT {m : Mem} {rb tb tc i o : Nat} {K : List Tn} {t : Tn} (hR : Rd m rb tb tc K i o) (hx : K[i]? = some t) (hk : K.length ≤ 100000) (s : Bs) (hT : isT t s = true) : Runs evEnv 56 [ptr rb, encS s] m fun v m' => v = .bool true ∧ KR rb m m' ∧ Rd m' rb tb tc K (i + 1) o := by
 have hi := (List.getElem?_eq_some_iff.1 hx).1
 refine runs_start rfl rfl rfl rfl ?_
 (repeat (first | apply wpN_cons | apply g_next | (apply G.h; constructor <;> (first | exact Zc | apply gI | ((repeat' (first | exact Y0 | apply Y1 | ((first | apply Y4 | apply Y5); simp only [evs, Nat.reduceEqDiff, reduceIte] <;> rfl))); done) | (apply Y6; (try simp only [evs]); first | rfl)))))
 ((first | apply g_run | apply g_run0) <;> (first | ((repeat' (first | exact Y0 | apply Y1 | exact Y2 | apply Y3 | ((first | apply Y4 | apply Y5); simp only [evs, Nat.reduceEqDiff, reduceIte] <;> rfl))); done) | exact Rn.mk ((by simp only [evs]; exact is44 hR hx s)) | apply Cn.mk))
 rintro v m2 ⟨rfl, g⟩
 try simp only [evs] at g
 rw [hT]
 have h2 := hR.grow g
 have h2w := h2.row
 (repeat (first | apply wpN_cons | apply g_next | (apply G.h; constructor <;> (first | exact Zc | apply gI | ((repeat' (first | exact Y0 | apply Y1 | ((first | apply Y4 | apply Y5); simp only [evs, Nat.reduceEqDiff, reduceIte] <;> rfl))); done) | (apply Y6; (try simp only [evs]); first | exact h2w.load1 rfl rfl rfl)))))
 (apply g_stR <;> (first | exact Zc | apply gI | ((repeat' (first | exact Y0 | apply Y1 | exact Y2 | apply Y3 | ((first | apply Y4 | apply Y5); simp only [evs, Nat.reduceEqDiff, reduceIte] <;> rfl))); done) | (apply Hy.mk; (try simp only [evs]); first | exact h2w | assumption) | (apply Om.mk; first | exact h2w) | (apply Y6; (try simp only [evs]); first | rfl) | apply Cn.mk))
 intro m3 r3 o3 n3; simp only [evs] at r3 o3 n3
 obtain ⟨h3, k3⟩ := h2.next (i' := i + 1) (o' := o) r3 o3 n3
 (repeat (first | apply wpN_cons | apply g_next | (apply G.h; constructor <;> (first | exact Zc | apply gI | ((repeat' (first | exact Y0 | apply Y1 | ((first | apply Y4 | apply Y5); simp only [evs, Nat.reduceEqDiff, reduceIte] <;> rfl))); done) | (apply Y6; (try simp only [evs]); first | rfl)))))
 (refine g_fin (by repeat' first | exact Rs.nil | apply Rs.cons | (apply Y4; simp only [evs, Nat.reduceEqDiff, reduceIte] <;> rfl)) (by (simp only [evs, Nat.reduceEqDiff, reduceIte] <;> first | rfl | (congr 1; omega) | omega)) ?_)
 exact ⟨rfl, by simp only [evs]; exact (Keep.grow g).trans k3, by simp only [evs]; exact h3⟩
theorem eatF {m : Mem} {rb tb tc i o : Nat} {K : List Tn} {t : Tn} (hR : Rd m rb tb tc K i o) (hx : K[i]? = some t) (s : Bs) (hT : isT t s = false) : Runs evEnv 56 [ptr rb, encS s] m fun v m' => v = .bool false ∧ Grow m m' := by
 refine runs_start rfl rfl rfl rfl ?_
 (repeat (first | apply wpN_cons | apply g_next | (apply G.h; constructor <;> (first | exact Zc | apply gI | ((repeat' (first | exact Y0 | apply Y1 | ((first | apply Y4 | apply Y5); simp only [evs, Nat.reduceEqDiff, reduceIte] <;> rfl))); done) | (apply Y6; (try simp only [evs]); first | rfl)))))
 ((first | apply g_run | apply g_run0) <;> (first | ((repeat' (first | exact Y0 | apply Y1 | exact Y2 | apply Y3 | ((first | apply Y4 | apply Y5); simp only [evs, Nat.reduceEqDiff, reduceIte] <;> rfl))); done) | exact Rn.mk ((by simp only [evs]; exact is44 hR hx s)) | apply Cn.mk))
 rintro v m2 ⟨rfl, g⟩
 try simp only [evs] at g
 rw [hT]
 (repeat (first | apply wpN_cons | apply g_next | (apply G.h; constructor <;> (first | exact Zc | apply gI | ((repeat' (first | exact Y0 | apply Y1 | ((first | apply Y4 | apply Y5); simp only [evs, Nat.reduceEqDiff, reduceIte] <;> rfl))); done) | (apply Y6; (try simp only [evs]); first | rfl)))))
 (refine g_fin (by repeat' first | exact Rs.nil | apply Rs.cons | (apply Y4; simp only [evs, Nat.reduceEqDiff, reduceIte] <;> rfl)) (by (simp only [evs, Nat.reduceEqDiff, reduceIte] <;> first | rfl | (congr 1; omega) | omega)) ?_)
 exact ⟨rfl, by simp only [evs]; exact g⟩
set_option maxHeartbeats 2000000 in
theorem want50 {m : Mem} {rb tb tc i o : Nat} {K : List Tn} {t : Tn} (hR : Rd m rb tb tc K i o) (hx : K[i]? = some t) (hk : K.length ≤ 100000) (s : Bs) (hT : isT t s = true) : Runs evEnv 57 [ptr rb, encS s] m fun v m' => KR rb m m' ∧ Rd m' rb tb tc K (i + 1) o := by
 have hw := hR.row
 refine runs_start rfl rfl rfl rfl ?_
 (repeat (first | apply wpN_cons | apply g_next | (apply G.h; constructor <;> (first | exact Zc | apply gI | ((repeat' (first | exact Y0 | apply Y1 | ((first | apply Y4 | apply Y5); simp only [evs, Nat.reduceEqDiff, reduceIte] <;> rfl))); done) | (apply Y6; (try simp only [evs]); first | exact hw.load1 rfl rfl rfl)))))
 ((first | apply g_run | apply g_run0) <;> (first | ((repeat' (first | exact Y0 | apply Y1 | exact Y2 | apply Y3 | ((first | apply Y4 | apply Y5); simp only [evs, Nat.reduceEqDiff, reduceIte] <;> rfl))); done) | exact Rn.mk ((by simp only [evs]; exact eatT hR hx hk s hT)) | apply Cn.mk))
 rintro v m2 ⟨rfl, k, h2⟩
 try simp only [evs] at k
 (repeat (first | apply wpN_cons | apply g_next | (apply G.h; constructor <;> (first | exact Zc | apply gI | ((repeat' (first | exact Y0 | apply Y1 | ((first | apply Y4 | apply Y5); simp only [evs, Nat.reduceEqDiff, reduceIte] <;> rfl))); done) | (apply Y6; (try simp only [evs]); first | rfl)))))
 (refine g_finN (by first | exact Rs.nil | skip) (by (simp only [evs, Nat.reduceEqDiff, reduceIte] <;> first | rfl | (congr 1; omega) | omega)) ?_)
 exact ⟨by simp only [evs]; exact k, by simp only [evs]; exact h2⟩
set_option maxHeartbeats 2000000 in
theorem enter68 {m : Mem} {rb tb tc i o : Nat} {K : List Tn} {t : Tn} (hR : Rd m rb tb tc K i o) (hx : K[i]? = some t) (hk : K.length ≤ 100000) (ho : o ≤ 60) (s : Bs) (hT : isT t s = true) : Runs evEnv 72 [ptr rb, encS s] m fun v m' => KR rb m m' ∧ Rd m' rb tb tc K (i + 1) (o + 1) := by
 have hi := (List.getElem?_eq_some_iff.1 hx).1
 have hw := hR.row
 refine runs_start rfl rfl rfl rfl ?_
 (repeat (first | apply wpN_cons | apply g_next | (apply G.h; constructor <;> (first | exact Zc | apply gI | ((repeat' (first | exact Y0 | apply Y1 | ((first | apply Y4 | apply Y5); simp only [evs, Nat.reduceEqDiff, reduceIte] <;> rfl))); done) | (apply Y6; (try simp only [evs]); first | exact hw.load1 rfl rfl rfl)))))
 ((first | apply g_run | apply g_run0) <;> (first | ((repeat' (first | exact Y0 | apply Y1 | exact Y2 | apply Y3 | ((first | apply Y4 | apply Y5); simp only [evs, Nat.reduceEqDiff, reduceIte] <;> rfl))); done) | exact Rn.mk ((by simp only [evs]; exact is44 hR hx s)) | apply Cn.mk))
 rintro v m2 ⟨rfl, g⟩
 try simp only [evs] at g
 rw [hT]
 have h2 := hR.grow g
 have h2w := h2.row
 (repeat (first | apply wpN_cons | apply g_next | (apply G.h; constructor <;> (first | exact Zc | apply gI | ((repeat' (first | exact Y0 | apply Y1 | ((first | apply Y4 | apply Y5); simp only [evs, Nat.reduceEqDiff, reduceIte] <;> rfl))); done) | (apply Y6; (try simp only [evs]); first | exact h2w.load1 rfl rfl rfl)))))
 (apply g_stR <;> (first | exact Zc | apply gI | ((repeat' (first | exact Y0 | apply Y1 | exact Y2 | apply Y3 | ((first | apply Y4 | apply Y5); simp only [evs, Nat.reduceEqDiff, reduceIte] <;> rfl))); done) | (apply Hy.mk; (try simp only [evs]); first | exact h2w | assumption) | (apply Om.mk; first | exact h2w) | (apply Y6; (try simp only [evs]); first | rfl) | apply Cn.mk))
 intro m3 r3 o3 n3; simp only [evs] at r3 o3 n3
 obtain ⟨h3, k3⟩ := h2.next (i' := i) (o' := o + 1) r3 o3 n3
 have h3w := h3.row
 (repeat (first | apply wpN_cons | apply g_next | (apply G.h; constructor <;> (first | exact Zc | apply gI | ((repeat' (first | exact Y0 | apply Y1 | ((first | apply Y4 | apply Y5); simp only [evs, Nat.reduceEqDiff, reduceIte] <;> rfl))); done) | (apply Y6; (try simp only [evs]); first | exact h3w.load1 rfl rfl rfl)))))
 (apply g_stR <;> (first | exact Zc | apply gI | ((repeat' (first | exact Y0 | apply Y1 | exact Y2 | apply Y3 | ((first | apply Y4 | apply Y5); simp only [evs, Nat.reduceEqDiff, reduceIte] <;> rfl))); done) | (apply Hy.mk; (try simp only [evs]); first | exact h3w | assumption) | (apply Om.mk; first | exact h3w) | (apply Y6; (try simp only [evs]); first | rfl) | apply Cn.mk))
 intro m4 r4 o4 n4; simp only [evs] at r4 o4 n4
 obtain ⟨h4, k4⟩ := h3.next (i' := i + 1) (o' := o + 1) r4 o4 n4
 (repeat (first | apply wpN_cons | apply g_next | (apply G.h; constructor <;> (first | exact Zc | apply gI | ((repeat' (first | exact Y0 | apply Y1 | ((first | apply Y4 | apply Y5); simp only [evs, Nat.reduceEqDiff, reduceIte] <;> rfl))); done) | (apply Y6; (try simp only [evs]); first | rfl)))))
 (refine g_finN (by first | exact Rs.nil | skip) (by (simp only [evs, Nat.reduceEqDiff, reduceIte] <;> first | rfl | (congr 1; omega) | omega)) ?_)
 exact ⟨by simp only [evs]; exact (Keep.grow g).trans (k3.trans k4), by simp only [evs]; exact h4⟩
set_option maxHeartbeats 2000000 in
theorem name47 {m : Mem} {rb tb tc i o : Nat} {K : List Tn} {t : Tn} (hR : Rd m rb tb tc K i o) (hx : K[i]? = some t) (hk : K.length ≤ 100000) (h1 : t.kind = 1) : Runs evEnv 54 [ptr rb] m fun v m' => v = encS t.text ∧ KR rb m m' ∧ Rd m' rb tb tc K (i + 1) o := by
 have hi := (List.getElem?_eq_some_iff.1 hx).1
 have z := row_new m [I 0, encS [], I 0, I 0] 87 0
 have g1 : Grow m (m.new (rowObj [I 0, encS [], I 0, I 0] 87 0)) := (Grow.refl m).new _
 have h1' := hR.grow g1
 have hl := h1'.agg hx
 have h1w := h1'.row
 refine runs_start rfl rfl rfl rfl ?_
 (repeat (first | apply wpN_cons | apply g_next | (apply G.h; constructor <;> (first | exact Zc | apply gI | ((repeat' (first | exact Y0 | apply Y1 | ((first | apply Y4 | apply Y5); simp only [evs, Nat.reduceEqDiff, reduceIte] <;> rfl))); done) | (apply Y6; (try simp only [evs]); first | rfl)))))
 (apply g_regionN [10, 0, 1, 2, 3, 4, 5, 6, 7, 8, 9, 11] []; (focus exact Kr.mk (by kernel_rfl)); (focus exact Rf.mk))
 (repeat (first | apply wpN_cons | apply g_next | (apply G.h; constructor <;> (first | exact Zc | apply gI | ((repeat' (first | exact Y0 | apply Y1 | ((first | apply Y4 | apply Y5); simp only [evs, Nat.reduceEqDiff, reduceIte] <;> rfl))); done) | (apply Y6; (try simp only [evs]); first | exact h1w.load1 rfl rfl rfl | exact hl)))))
 (apply g_stR <;> (first | exact Zc | apply gI | ((repeat' (first | exact Y0 | apply Y1 | exact Y2 | apply Y3 | ((first | apply Y4 | apply Y5); simp only [evs, Nat.reduceEqDiff, reduceIte] <;> rfl))); done) | (apply Hy.mk; (try simp only [evs]); first | exact z | assumption) | (apply Om.mk; first | exact z) | (apply Y6; (try simp only [evs]); first | rfl) | apply Cn.mk))
 intro m3 r3 o3 n3; simp only [evs] at r3 o3 n3
 replace r3 : Row m3 m.next t.val 87 0 := r3
 have g3 : Grow m m3 := g1.wrote (Nat.le_refl _) o3 n3
 have h3 := hR.grow g3
 have h3w := h3.row
 (repeat (first | apply wpN_cons | apply g_next | (apply G.h; constructor <;> (first | exact Zc | apply gI | ((repeat' (first | exact Y0 | apply Y1 | ((first | apply Y4 | apply Y5); simp only [evs, Nat.reduceEqDiff, reduceIte] <;> rfl))); done) | (apply Y6; (try simp only [evs]); first | rfl)))))
 refine g_last (.mk ?_) ?_
 focus exact trivial
 obtain ⟨kd, tx, nm, ps⟩ := t
 obtain rfl : kd = 1 := h1
 (repeat (first | apply wpN_cons | apply g_next | (apply G.h; constructor <;> (first | exact Zc | apply gI | ((repeat' (first | exact Y0 | apply Y1 | ((first | apply Y4 | apply Y5); simp only [evs, Nat.reduceEqDiff, reduceIte] <;> rfl))); done) | (apply Y6; (try simp only [evs]); first | exact h3w.load1 rfl rfl rfl | exact r3.load1 rfl rfl rfl)))))
 (apply g_stR <;> (first | exact Zc | apply gI | ((repeat' (first | exact Y0 | apply Y1 | exact Y2 | apply Y3 | ((first | apply Y4 | apply Y5); simp only [evs, Nat.reduceEqDiff, reduceIte] <;> rfl))); done) | (apply Hy.mk; (try simp only [evs]); first | exact h3w | assumption) | (apply Om.mk; first | exact h3w) | (apply Y6; (try simp only [evs]); first | rfl) | apply Cn.mk))
 intro m4 r4 o4 n4; simp only [evs] at r4 o4 n4
 obtain ⟨h4, k4⟩ := h3.next (i' := i + 1) (o' := o) r4 o4 n4
 have r4' := r3.keep (Nat.le_of_eq n4.symm) (o4 _ (by have := hR.ne; omega))
 (repeat (first | apply wpN_cons | apply g_next | (apply G.h; constructor <;> (first | exact Zc | apply gI | ((repeat' (first | exact Y0 | apply Y1 | ((first | apply Y4 | apply Y5); simp only [evs, Nat.reduceEqDiff, reduceIte] <;> rfl))); done) | (apply Y6; (try simp only [evs]); first | exact r4'.load1 rfl rfl rfl)))))
 (refine g_fin (by repeat' first | exact Rs.nil | apply Rs.cons | (apply Y4; simp only [evs, Nat.reduceEqDiff, reduceIte] <;> rfl)) (by (simp only [evs, Nat.reduceEqDiff, reduceIte] <;> first | rfl | (congr 1; omega) | omega)) ?_)
 exact ⟨rfl, by simp only [evs]; exact (Keep.grow g3).trans k4, by simp only [evs]; exact h4⟩
end Go.Proofs.YthhcnfgeacnfiaaGreatDoor

namespace Go.Proofs.YthhcnfgeacnfiaaGreatDoor
open Go Go.Ev
set_option maxRecDepth 100000
set_option linter.unusedVariables false
set_option linter.unusedSimpArgs false
set_option pp.maxSteps 1500
theorem x_prim : primI [120] = none := by decide +kernel
/-- the globals' map: the one name, at the first node. -/
abbrev gmL : List (Value × Value) := [(encS [120], I 1)]
theorem find_L (m : Mem) : quiet.find evEnv m 9 (encS [120]) gmL = some (some (I 1)) := find_str (g := fun i => I i) m [120] [([120], 1)]
theorem find_0 (m : Mem) : quiet.find evEnv m 9 (encS [120]) [] = some none := find_str (g := fun i => I i) m [120] []
theorem upd_0 (m : Mem) : effect.upd evEnv m 9 (encS [120]) (I 1) [] = some gmL := upd_str (g := fun i => I i) m [120] 1 []
attribute [local irreducible] quiet allocs effect wp ret wpO Runs Act.tmp Act.eval fin results Tree.set binOp loadAt storeAt target wanted cellsFrom

section
variable {m : Mem} {A : WA}
set_option maxHeartbeats 2000000 in
theorem global78L {us : List Value} (p : Nat) (hp : p = 1) (hn : A.n ≤ 1000) (h : Wk m A 2 (.slice none 0 0)) (hG : Mp m A.gb gmL) (hU : Row m A.ub us 116 0) (hus : us.length = (3 + A.n) * 2) (hNm : Names m) (h0 : 0 < m.next) (hw0 : 0 < A.wb) (hu0 : 0 < A.ub) {n0 : Nat} (hn0 : n0 ≤ m.next) :
  Runs evEnv 85 [ptr A.wb, encS [120], I p] m fun _ m' => KB A m m' ∧ ∃ gv, Wk m' A 2 gv ∧ Sl (fun c => c < n0) m' gv 9 1 [encS [120]] ∧ Row m' A.ub (put us 2 [I 4, I 0]) 116 0 := by
 have hw := h.w
 have hld := h.nodes.get (i := p) (x := ⟨3, 1, [120], 0, 0⟩) (by rw [hp]; rfl)
 have z := row_new m [I 0, I 0, encS [], I 0, I 0] 58 0
 refine runs_start rfl rfl rfl rfl ?_
 (repeat (first | (apply G.h; constructor <;> (first | exact Zc | apply gI | ((repeat' (first | exact Y0 | apply Y1 | ((first | apply Y4 | apply Y5); simp only [evs, Nat.reduceEqDiff, reduceIte] <;> rfl))); done) | (apply Y6; (try simp only [evs]); first | exact hw.load1 rfl rfl rfl | exact hld)))))
 (apply g_stR <;> (first | exact Zc | apply gI | ((repeat' (first | exact Y0 | apply Y1 | exact Y2 | apply Y3 | ((first | apply Y4 | apply Y5); simp only [evs, Nat.reduceEqDiff, reduceIte] <;> rfl))); done) | (apply Hy.mk; (try simp only [evs]); first | exact z | assumption) | (apply Om.mk; first | exact z) | (apply Y6; (try simp only [evs]); first | rfl) | apply Cn.mk))
 intro m2 r2 o2 n2; simp only [evs] at r2 o2 n2
 have g2 : Grow m m2 := ((Grow.refl m).new _).wrote (Nat.le_refl _) o2 n2
 have h2 := h.grow g2
 have h2w := h2.w
 have hN2 := hNm.stay (X := fun c => c < m.next) h0 h0 (Keep.grow (T := []) g2)
 (repeat (first | (apply G.h; constructor <;> (first | exact Zc | apply gI | ((repeat' (first | exact Y0 | apply Y1 | ((first | apply Y4 | apply Y5); simp only [evs, Nat.reduceEqDiff, reduceIte] <;> rfl))); done) | (apply Y6; (try simp only [evs]); first | rfl)))))
 ((first | apply g_run | apply g_run0) <;> (first | ((repeat' (first | exact Y0 | apply Y1 | exact Y2 | apply Y3 | ((first | apply Y4 | apply Y5); simp only [evs, Nat.reduceEqDiff, reduceIte] <;> rfl))); done) | exact Rn.mk ((by simp only [evs]; exact prim21 [120] _ hN2)) | apply Cn.mk))
 rintro v m3 ⟨rfl, e3⟩
 try simp only [evs] at e3
 replace e3 := e3.symm
 subst e3
 rw [show primV [120] = .tuple ⟨[I 0, .bool false]⟩ by unfold primV; rw [x_prim]; rfl]
 have hG2 := hG.stay (Keep.grow (X := fun c => c < m.next) (T := []) g2) (.inl hG.1)
 have hgm := hG2.2
 have hfnd := find_L m2
 (repeat (first | (apply G.h; constructor <;> (first | exact Zc | apply gI | ((repeat' (first | exact Y0 | apply Y1 | ((first | apply Y4 | apply Y5); simp only [evs, Nat.reduceEqDiff, reduceIte] <;> rfl))); done) | (apply Y6; (try simp only [evs]); first | exact h2w.load1 rfl rfl rfl)))))
 (apply g_lookup (f := some (I 1)) <;> (first | exact Zc | apply gI | ((repeat' (first | exact Y0 | apply Y1 | exact Y2 | apply Y3 | ((first | apply Y4 | apply Y5); simp only [evs, Nat.reduceEqDiff, reduceIte] <;> rfl))); done) | (apply Hy.mk; (try simp only [evs]); first | exact hgm | exact hfnd | assumption) | (apply Om.mk; first | exact hgm | exact hfnd) | (apply Y6; (try simp only [evs]); first | rfl) | apply Cn.mk))
 have hu2 : Row m2 A.ub us 116 0 := hU.grow g2
 have hur : 0 + p * 2 + 2 ≤ us.length := by omega
 (repeat (first | (apply G.h; constructor <;> (first | exact Zc | apply gI | ((repeat' (first | exact Y0 | apply Y1 | ((first | apply Y4 | apply Y5); simp only [evs, Nat.reduceEqDiff, reduceIte] <;> rfl))); done) | (apply Y6; (try simp only [evs]); first | exact h2w.load1 rfl rfl rfl)))))
 (apply g_stR <;> (first | exact Zc | apply gI | ((repeat' (first | exact Y0 | apply Y1 | exact Y2 | apply Y3 | ((first | apply Y4 | apply Y5); simp only [evs, Nat.reduceEqDiff, reduceIte] <;> rfl))); done) | (apply Hy.mk; (try simp only [evs]); first | exact hu2 | exact hur | assumption) | (apply Om.mk; first | exact hu2 | exact hur) | (apply Y6; (try simp only [evs]); first | rfl) | apply Cn.mk))
 intro m5 r5 o5 n5; simp only [evs] at r5 o5 n5
 replace r5 : Row m5 A.ub (put us 2 [I 4, I 0]) 116 0 := by
  have w : Row m5 A.ub (put us (0 + p * 2) [I 4, I 0]) 116 0 := r5
  rw [hp] at w; exact w
 have k5 : KB A m2 m5 := Keep.row hu2 (fun hh => hh.2 rfl) (by decide) o5 n5
 have hwu : A.wb ≠ A.ub := h2w.ne hu2 (by decide)
 have hw5 := h2w.keep (m' := m5) (Nat.le_of_eq n5.symm) (o5 _ hwu)
 (repeat (first | (apply G.h; constructor <;> (first | exact Zc | apply gI | ((repeat' (first | exact Y0 | apply Y1 | ((first | apply Y4 | apply Y5); simp only [evs, Nat.reduceEqDiff, reduceIte] <;> rfl))); done) | (apply Y6; (try simp only [evs]); first | exact hw5.load1 rfl rfl rfl)))))
 have s5 : Sl (fun c => c < n0) (m5.new (rowObj [encS [120]] 9 0)) (.slice none 0 0) 9 1 [] := .inl ⟨rfl, rfl⟩
 have hx5 : ∀ c, c < n0 → c < (m5.new (rowObj [encS [120]] 9 0)).next := fun c hc => by
  have := g2.1
  show c < m5.next + 1
  omega
 have hin : effect.cellsIn (m5.new (rowObj [encS [120]] 9 0)) 1 (.slice (some ⟨m5.next, 0, none⟩) 1 1) = some (1, [encS [120]]) := cellsIn_row (kc := 1) (new := [encS [120]]) (row_new m5 [encS [120]] 9 0) (Nat.le_refl 1) rfl
 (apply g_app <;> (first | exact Zc | apply gI | ((repeat' (first | exact Y0 | apply Y1 | exact Y2 | apply Y3 | ((first | apply Y4 | apply Y5); simp only [evs, Nat.reduceEqDiff, reduceIte] <;> rfl))); done) | (apply Hy.mk; (try simp only [evs]); first | exact hin | exact s5 | exact hx5 | assumption) | (apply Om.mk; first | exact hin | exact s5 | exact hx5) | (apply Y6; (try simp only [evs]); first | rfl) | apply Cn.mk))
 intro v' m6 s6 k6 o6 b6 f6
 obtain ⟨c6, j6, p6, rfl, hc6⟩ := f6
 simp only [evs] at k6 o6 b6
 replace s6 : Sl (fun c => c < n0) m6 (.slice (some ⟨c6, 0, none⟩) j6 p6) 9 1 [encS [120]] := s6
 replace k6 : Keep (fun c => c < n0) [9] (m5.new (rowObj [encS [120]] 9 0)) m6 := k6
 have hk6 : ∀ b, b < m5.next → m6.get b = m5.get b := fun b hb => (o6 b (Nat.lt_succ_of_lt hb) (fun n c hh => by cases hh)).trans (mget_new' _ _ hb)
 have g56 : Grow m5 m6 := ⟨Nat.le_trans (Nat.le_succ _) k6.1, hk6⟩
 have hw6 := hw5.grow g56
 (repeat (first | (apply G.h; constructor <;> (first | exact Zc | apply gI | ((repeat' (first | exact Y0 | apply Y1 | ((first | apply Y4 | apply Y5); simp only [evs, Nat.reduceEqDiff, reduceIte] <;> rfl))); done) | (apply Y6; (try simp only [evs]); first | rfl)))))
 (apply g_stR <;> (first | exact Zc | apply gI | ((repeat' (first | exact Y0 | apply Y1 | exact Y2 | apply Y3 | ((first | apply Y4 | apply Y5); simp only [evs, Nat.reduceEqDiff, reduceIte] <;> rfl))); done) | (apply Hy.mk; (try simp only [evs]); first | exact hw6 | assumption) | (apply Om.mk; first | exact hw6) | (apply Y6; (try simp only [evs]); first | rfl) | apply Cn.mk))
 intro m7 r7 o7 n7; simp only [evs] at r7 o7 n7
 (repeat (first | (apply G.h; constructor <;> (first | exact Zc | apply gI | ((repeat' (first | exact Y0 | apply Y1 | ((first | apply Y4 | apply Y5); simp only [evs, Nat.reduceEqDiff, reduceIte] <;> rfl))); done) | (apply Y6; (try simp only [evs]); first | rfl)))))
 (refine g_finN (by first | exact Rs.nil | skip) (by (simp only [evs, Nat.reduceEqDiff, reduceIte] <;> first | rfl | (congr 1; omega) | omega)) ?_)
 simp only [evs]
 have k7 : KB A m6 m7 := Keep.row hw6 (fun hh => hh.1 rfl) (by decide) o7 n7
 have kall : KB A m2 m7 := k5.trans ((Keep.grow g56).trans k7)
 have ks : Sl (fun c => c < n0) m7 (.slice (some ⟨c6, 0, none⟩) j6 p6) 9 1 [encS [120]] := by
  rcases s6 with ⟨hh, -⟩ | ⟨b9, c9, r9, n9, hh, q0, q9, q1⟩
  ·cases hh
  ·cases hh
   exact .inr ⟨_, _, r9, _, rfl, q0, q9.keep (Nat.le_of_eq n7.symm) (o7 _ (q9.ne hw6 (by decide))), q1⟩
 exact ⟨(Keep.grow g2).trans kall, .slice (some ⟨c6, 0, none⟩) j6 p6, h2.keep kall r7, ks, (r5.grow g56).keep (Nat.le_of_eq n7.symm) (o7 _ (fun hh => hwu hh.symm))⟩

set_option maxHeartbeats 2000000 in
theorem variable77L {us : List Value} (hn : A.n ≤ 1000) (h : Wk m A 2 (.slice none 0 0)) (hG : Mp m A.gb gmL) (hU : Row m A.ub us 116 0) (hus : us.length = (3 + A.n) * 2) (hNm : Names m) (h0 : 0 < m.next) (hw0 : 0 < A.wb) (hu0 : 0 < A.ub) {n0 : Nat} (hn0 : n0 ≤ m.next) :
  Runs evEnv 84 [ptr A.wb, I 1, .agg ⟨[I 3, I 1, encS [120], I 0, I 0]⟩] m fun _ m' => KB A m m' ∧ ∃ gv, Wk m' A (3 + A.n) gv ∧ Sl (fun c => c < n0) m' gv 9 1 [encS [120]] ∧ Row m' A.ub (put us 2 [I 4, I 0]) 116 0 := by
 have z := row_new m [I 3, I 1, encS [120], I 0, I 0] 58 0
 have g1 : Grow m (m.new (rowObj [I 3, I 1, encS [120], I 0, I 0] 58 0)) := (Grow.refl m).new _
 have h1 := h.grow g1
 have h1f := h1.f
 refine runs_start rfl rfl rfl rfl ?_
 (repeat (first | (apply G.h; constructor <;> (first | exact Zc | apply gI | ((repeat' (first | exact Y0 | apply Y1 | ((first | apply Y4 | apply Y5); simp only [evs, Nat.reduceEqDiff, reduceIte] <;> rfl))); done) | (apply Y6; (try simp only [evs]); first | rfl)))))
 ((first | apply g_run | apply g_run0) <;> (first | ((repeat' (first | exact Y0 | apply Y1 | exact Y2 | apply Y3 | ((first | apply Y4 | apply Y5); simp only [evs, Nat.reduceEqDiff, reduceIte] <;> rfl))); done) | exact Rn.mk ((by simp only [evs]; exact top74L h1)) | apply Cn.mk))
 rintro v m2 ⟨rfl, e2⟩
 try simp only [evs] at e2
 subst e2
 have hN1 := hNm.stay (X := fun c => c < m.next) h0 h0 (Keep.grow (T := []) g1)
 have hG1 := hG.stay (Keep.grow (X := fun c => c < m.next) (T := []) g1) (.inl hG.1)
 (repeat (first | (apply G.h; constructor <;> (first | exact Zc | apply gI | ((repeat' (first | exact Y0 | apply Y1 | ((first | apply Y4 | apply Y5); simp only [evs, Nat.reduceEqDiff, reduceIte] <;> rfl))); done) | (apply Y6; (try simp only [evs]); first | exact h1f.load1 rfl rfl rfl | exact z.load1 rfl rfl rfl)))))
 ((first | apply g_run | apply g_run0) <;> (first | ((repeat' (first | exact Y0 | apply Y1 | exact Y2 | apply Y3 | ((first | apply Y4 | apply Y5); simp only [evs, Nat.reduceEqDiff, reduceIte] <;> rfl))); done) | exact Rn.mk ((by simp only [evs]; exact global78L 1 rfl hn h1 hG1 (hU.grow g1) hus hN1 (Nat.succ_pos _) hw0 hu0 (n0 := n0) (Nat.le_succ_of_le hn0))) | apply Cn.mk))
 rintro v m3 ⟨k3, gv, h3, s3, u3⟩
 try simp only [evs] at k3
 (repeat (first | (apply G.h; constructor <;> (first | exact Zc | apply gI | ((repeat' (first | exact Y0 | apply Y1 | ((first | apply Y4 | apply Y5); simp only [evs, Nat.reduceEqDiff, reduceIte] <;> rfl))); done) | (apply Y6; (try simp only [evs]); first | rfl)))))
 ((first | apply g_run | apply g_run0) <;> (first | ((repeat' (first | exact Y0 | apply Y1 | exact Y2 | apply Y3 | ((first | apply Y4 | apply Y5); simp only [evs, Nat.reduceEqDiff, reduceIte] <;> rfl))); done) | exact Rn.mk ((by simp only [evs]; exact kidsL hn h3)) | apply Cn.mk))
 rintro v2 m4 ⟨k4, h4⟩
 try simp only [evs] at k4
 have hwu : A.ub ≠ A.wb := fun hh => by
  have := u3.ne h3.w (by decide)
  exact this hh
 (repeat (first | (apply G.h; constructor <;> (first | exact Zc | apply gI | ((repeat' (first | exact Y0 | apply Y1 | ((first | apply Y4 | apply Y5); simp only [evs, Nat.reduceEqDiff, reduceIte] <;> rfl))); done) | (apply Y6; (try simp only [evs]); first | rfl)))))
 (refine g_fin (by repeat' first | exact Rs.nil | apply Rs.cons | (apply Y4; simp only [evs, Nat.reduceEqDiff, reduceIte] <;> rfl)) (by (simp only [evs, Nat.reduceEqDiff, reduceIte] <;> first | rfl | (congr 1; omega) | omega)) ?_)
 simp only [evs]
 exact ⟨(Keep.grow g1).trans (k3.trans k4.kb), gv, h4, s3.any k4 (by decide), u3.stay k4 (.inl hwu)⟩
set_option maxHeartbeats 2000000 in
theorem node59L {us : List Value} (hn : A.n ≤ 1000) (h : Wk m A 1 (.slice none 0 0)) (hG : Mp m A.gb gmL) (hU : Row m A.ub us 116 0) (hus : us.length = (3 + A.n) * 2) (hNm : Names m) (h0 : 0 < m.next) (hw0 : 0 < A.wb) (hu0 : 0 < A.ub) {n0 : Nat} (hn0 : n0 ≤ m.next) :
  Runs evEnv 67 [ptr A.wb] m fun _ m' => KB A m m' ∧ ∃ gv, Wk m' A (3 + A.n) gv ∧ Sl (fun c => c < n0) m' gv 9 1 [encS [120]] ∧ Row m' A.ub (put us 2 [I 4, I 0]) 116 0 := by
 have hw := h.w
 have hld := h.nodes.get (i := 1) (x := ⟨3, 1, [120], 0, 0⟩) rfl
 have z := row_new m [I 0, I 0, encS [], I 0, I 0] 58 0
 refine runs_start rfl rfl rfl rfl ?_
 (repeat (first | (apply G.h; constructor <;> (first | exact Zc | apply gI | ((repeat' (first | exact Y0 | apply Y1 | ((first | apply Y4 | apply Y5); simp only [evs, Nat.reduceEqDiff, reduceIte] <;> rfl))); done) | (apply Y6; (try simp only [evs]); first | exact hw.load1 rfl rfl rfl | exact hld)))))
 (apply g_stR <;> (first | exact Zc | apply gI | ((repeat' (first | exact Y0 | apply Y1 | exact Y2 | apply Y3 | ((first | apply Y4 | apply Y5); simp only [evs, Nat.reduceEqDiff, reduceIte] <;> rfl))); done) | (apply Hy.mk; (try simp only [evs]); first | exact z | assumption) | (apply Om.mk; first | exact z) | (apply Y6; (try simp only [evs]); first | rfl) | apply Cn.mk))
 intro m2 r2 o2 n2; simp only [evs] at r2 o2 n2
 replace r2 : Row m2 m.next [I 3, I 1, encS [120], I 0, I 0] 58 0 := r2
 have g2 : Grow m m2 := ((Grow.refl m).new _).wrote (Nat.le_refl _) o2 n2
 have h2 := h.grow g2
 have h2w := h2.w
 (repeat (first | (apply G.h; constructor <;> (first | exact Zc | apply gI | ((repeat' (first | exact Y0 | apply Y1 | ((first | apply Y4 | apply Y5); simp only [evs, Nat.reduceEqDiff, reduceIte] <;> rfl))); done) | (apply Y6; (try simp only [evs]); first | rfl)))))
 ((first | apply g_run | apply g_run0) <;> (first | ((repeat' (first | exact Y0 | apply Y1 | exact Y2 | apply Y3 | ((first | apply Y4 | apply Y5); simp only [evs, Nat.reduceEqDiff, reduceIte] <;> rfl))); done) | exact Rn.mk ((by simp only [evs]; exact top74L h2)) | apply Cn.mk))
 rintro v m3 ⟨rfl, e3⟩
 try simp only [evs] at e3
 replace e3 := e3.symm
 subst e3
 (repeat (first | (apply G.h; constructor <;> (first | exact Zc | apply gI | ((repeat' (first | exact Y0 | apply Y1 | ((first | apply Y4 | apply Y5); simp only [evs, Nat.reduceEqDiff, reduceIte] <;> rfl))); done) | (apply Y6; (try simp only [evs]); first | exact h2w.load1 rfl rfl rfl | exact r2.load1 rfl rfl rfl)))))
 (apply g_stR <;> (first | exact Zc | apply gI | ((repeat' (first | exact Y0 | apply Y1 | exact Y2 | apply Y3 | ((first | apply Y4 | apply Y5); simp only [evs, Nat.reduceEqDiff, reduceIte] <;> rfl))); done) | (apply Hy.mk; (try simp only [evs]); first | exact h2w | assumption) | (apply Om.mk; first | exact h2w) | (apply Y6; (try simp only [evs]); first | rfl) | apply Cn.mk))
 intro m4 r4 o4 n4; simp only [evs] at r4 o4 n4
 have k4 : KA A m2 m4 := Keep.row h2w (fun hh => hh rfl) (by decide) o4 n4
 have h4 : Wk m4 A 2 (.slice none 0 0) := h2.keep k4.kb r4
 have r24 := r2.stay k4 (.inr (by decide))
 have hN4 : Names m4 := (hNm.stay (X := fun c => c < m.next) h0 h0 (Keep.grow (T := []) g2)).stay (X := fun c => c ≠ A.wb) (by omega) (Nat.lt_of_lt_of_le h0 g2.1) k4
 have hG4 := (hG.stay (Keep.grow (X := fun c => c < m.next) (T := []) g2) (.inl hG.1)).stay k4 (.inr (by decide))
 have hU4 : Row m4 A.ub us 116 0 := (hU.grow g2).stay k4 (.inr (by decide))
 have n04 : n0 ≤ m4.next := Nat.le_trans hn0 (Nat.le_trans g2.1 k4.1)
 (repeat (first | (apply G.h; constructor <;> (first | exact Zc | apply gI | ((repeat' (first | exact Y0 | apply Y1 | ((first | apply Y4 | apply Y5); simp only [evs, Nat.reduceEqDiff, reduceIte] <;> rfl))); done) | (apply Y6; (try simp only [evs]); first | exact r24.load1 rfl rfl rfl | exact r24.loadA (k := 5) rfl rfl rfl (Nat.le_refl 5) rfl)))))
 ((first | apply g_run | apply g_run0) <;> (first | ((repeat' (first | exact Y0 | apply Y1 | exact Y2 | apply Y3 | ((first | apply Y4 | apply Y5); simp only [evs, Nat.reduceEqDiff, reduceIte] <;> rfl))); done) | exact Rn.mk ((by simp only [evs]; exact variable77L hn h4 hG4 hU4 hus hN4 (Nat.lt_of_lt_of_le h0 (Nat.le_trans g2.1 k4.1)) hw0 hu0 n04)) | apply Cn.mk))
 rintro v m5 ⟨k5, gv, h5, s5, u5⟩
 try simp only [evs] at k5
 (repeat (first | (apply G.h; constructor <;> (first | exact Zc | apply gI | ((repeat' (first | exact Y0 | apply Y1 | ((first | apply Y4 | apply Y5); simp only [evs, Nat.reduceEqDiff, reduceIte] <;> rfl))); done) | (apply Y6; (try simp only [evs]); first | rfl)))))
 (refine g_finN (by first | exact Rs.nil | skip) (by (simp only [evs, Nat.reduceEqDiff, reduceIte] <;> first | rfl | (congr 1; omega) | omega)) ?_)
 simp only [evs]
 exact ⟨(Keep.grow g2).trans (k4.kb.trans k5), gv, h5, s5, u5⟩
end
end Go.Proofs.YthhcnfgeacnfiaaGreatDoor

namespace Go.Proofs.YthhcnfgeacnfiaaGreatDoor
open Go Go.Ev
set_option maxRecDepth 100000
set_option linter.unusedVariables false
set_option linter.unusedSimpArgs false
set_option pp.maxSteps 1500
theorem D_zeros : ∀ (k i : Nat), D (zeros i k) k = some k
 | 0, i => rfl
 | k + 1, i => by
  rw [zeros, D]
  show (D (zeros (i + 1) k) (k + 0)).map (· + 1) = _
  have := D_zeros k (i + 1)
  rw [show D (zeros (i + 1) k) (k + 0) = some k from this]; rfl
theorem D_list (n : Nat) : D ((listN n).drop 1) 1 = some (2 + n) := by
 show (((D (zeros 0 n) (0 + (n : Int).toNat)).map (· + 1)).map (· + 1)) = _
 rw [Nat.zero_add, show ((n : Int)).toNat = n from rfl, D_zeros]
 simp only [Option.map_some]
 congr 1; omega
theorem zeros_pos : ∀ (k i : Nat), ∀ x ∈ zeros i k, 0 ≤ x.n
 | 0, i, x, h => by cases h
 | k + 1, i, x, h => by
  rw [zeros] at h
  rcases List.mem_cons.1 h with rfl | h
  ·exact Int.le_refl _
  ·exact zeros_pos k (i + 1) x h
theorem listN_pos (n : Nat) : ∀ x ∈ listN n, 0 ≤ x.n := by
 intro x h
 unfold listN at h
 rcases List.mem_cons.1 h with rfl | h
 ·decide
 rcases List.mem_cons.1 h with rfl | h
 ·decide
 rcases List.mem_cons.1 h with rfl | h
 ·exact Int.natCast_nonneg n
 ·exact zeros_pos n 0 x h
/-- behind a node. -/
theorem behindL (m : Mem) (b off cap n k w : Nat) (hN : Nodes m b off (listN n)) (hn : n ≤ 1000) (hk : k < 3 + n) (hD : D ((listN n).drop k) 1 = some w) :
  Runs evEnv 32 [.slice (some ⟨b, off, none⟩) (3 + n) cap, I k] m fun v m' => v = .tuple ⟨[I (k + w : Nat), I 0]⟩ ∧ m' = m := by
 have hl := listN_len n
 have := behind_runs m b off cap (listN n) hN (by omega) k (by omega)
 have hw := (D_le _ _ _ hD).2
 rw [List.length_drop] at hw
 rw [bh_D (listN_pos n) _ 1 k _ hD (by omega), hl] at this
 exact this
attribute [local irreducible] quiet allocs effect wp ret wpO Runs Act.tmp Act.eval fin results Tree.set binOp loadAt storeAt target wanted cellsFrom

section
variable {m : Mem} {A : WA}
set_option maxHeartbeats 2000000 in
theorem hoist28L (hn : A.n ≤ 1000) (h : Wk m A 1 (.slice none 0 0)) (hG : Mp m A.gb []) : Runs evEnv 35 [ptr A.wb] m fun _ m' => Keep (fun c => c ≠ A.gb) [mapTag] m m' ∧ Wk m' A 1 (.slice none 0 0) ∧ Mp m' A.gb gmL := by
 refine runs_start rfl rfl rfl rfl ?_
 (repeat (first | (apply G.h; constructor <;> (first | exact Zc | apply gI | ((repeat' (first | exact Y0 | apply Y1 | ((first | apply Y4 | apply Y5); simp only [evs, Nat.reduceEqDiff, reduceIte] <;> rfl))); done) | (apply Y6; (try simp only [evs]); first | rfl)))))
 refine ewp_loop (ι := Bool) (fun s a => (a.n = 56 ∧ a.defers = [] ∧ a.tmp 0 = ptr A.wb ∧ a.tmp 2 = I (if s then 1 else 3 + A.n : Nat)) ∧ (if s then a.m = m else Keep (fun c => c ≠ A.gb) [mapTag] m a.m ∧ Wk a.m A 1 (.slice none 0 0) ∧ Mp a.m A.gb gmL)) (fun s => if s then 1 else 0) true ?_ ?_
 ·exact ⟨(by refine ⟨?_, ?_, ?_, ?_⟩ <;> (simp only [evs, Nat.reduceEqDiff, reduceIte] <;> first | rfl | (congr 1; omega) | omega)), by rw [if_pos rfl]; (simp only [evs, Nat.reduceEqDiff, reduceIte] <;> first | rfl | (congr 1; omega) | omega)⟩
 rintro s a ⟨⟨qn, qd, q0, q2⟩, hs⟩ ih
 cases s with
 | true =>
  rw [if_pos rfl] at hs q2
  subst hs
  have hw := h.w
  have hld := h.nodes.get (i := 1) (x := ⟨3, 1, [120], 0, 0⟩) rfl
  have z := row_new a.m [I 0, I 0, encS [], I 0, I 0] 58 0
  (repeat (first | (apply G.h; constructor <;> (first | exact Zc | apply gI | ((repeat' (first | exact Y0 | apply Y1 | ((first | apply Y4 | apply Y5); simp only [evs, Nat.reduceEqDiff, reduceIte, qn, qd, q0, q2] <;> rfl))); done) | (apply Y6; (try simp only [evs, qn, qd, q0, q2]); first | exact hld | exact hw.load1 rfl rfl rfl)))))
  (apply g_stR <;> (first | exact Zc | apply gI | ((repeat' (first | exact Y0 | apply Y1 | exact Y2 | apply Y3 | ((first | apply Y4 | apply Y5); simp only [evs, Nat.reduceEqDiff, reduceIte, qn, qd, q0, q2] <;> rfl))); done) | (apply Hy.mk; (try simp only [evs, qn, qd, q0, q2]); first | exact z | assumption) | (apply Om.mk; first | exact z) | (apply Y6; (try simp only [evs, qn, qd, q0, q2]); first | rfl) | apply Cn.mk))
  intro m2 r2 o2 n2; simp only [evs, qn, qd, q0, q2] at r2 o2 n2
  replace r2 : Row m2 a.m.next [I 3, I 1, encS [120], I 0, I 0] 58 0 := r2
  have g2 : Grow a.m m2 := ((Grow.refl a.m).new _).wrote (Nat.le_refl _) o2 n2
  have h2 := h.grow g2
  have h2w := h2.w
  have hG2 : Mp m2 A.gb [] := hG.stay (Keep.grow (X := fun c => c < a.m.next) (T := []) g2) (.inl hG.1)
  have hgm := hG2.2
  have hfnd := find_0 m2
  have hupd := upd_0 m2
  (repeat (first | (apply G.h; constructor <;> (first | exact Zc | apply gI | ((repeat' (first | exact Y0 | apply Y1 | ((first | apply Y4 | apply Y5); simp only [evs, Nat.reduceEqDiff, reduceIte, qn, qd, q0, q2] <;> rfl))); done) | (apply Y6; (try simp only [evs, qn, qd, q0, q2]); first | exact r2.load1 rfl rfl rfl | exact h2w.load1 rfl rfl rfl)))))
  (apply g_lookup (f := none) <;> (first | exact Zc | apply gI | ((repeat' (first | exact Y0 | apply Y1 | exact Y2 | apply Y3 | ((first | apply Y4 | apply Y5); simp only [evs, Nat.reduceEqDiff, reduceIte, qn, qd, q0, q2] <;> rfl))); done) | (apply Hy.mk; (try simp only [evs, qn, qd, q0, q2]); first | exact hgm | exact hfnd | assumption) | (apply Om.mk; first | exact hgm | exact hfnd) | (apply Y6; (try simp only [evs, qn, qd, q0, q2]); first | rfl) | apply Cn.mk))
  (repeat (first | (apply G.h; constructor <;> (first | exact Zc | apply gI | ((repeat' (first | exact Y0 | apply Y1 | ((first | apply Y4 | apply Y5); simp only [evs, Nat.reduceEqDiff, reduceIte, qn, qd, q0, q2] <;> rfl))); done) | (apply Y6; (try simp only [evs, qn, qd, q0, q2]); first | exact r2.load1 rfl rfl rfl | exact h2w.load1 rfl rfl rfl)))))
  (apply g_update <;> (first | exact Zc | apply gI | ((repeat' (first | exact Y0 | apply Y1 | exact Y2 | apply Y3 | ((first | apply Y4 | apply Y5); simp only [evs, Nat.reduceEqDiff, reduceIte, qn, qd, q0, q2] <;> rfl))); done) | (apply Hy.mk; (try simp only [evs, qn, qd, q0, q2]); first | exact hG2 | exact hupd | assumption) | (apply Om.mk; first | exact hG2 | exact hupd) | (apply Y6; (try simp only [evs, qn, qd, q0, q2]); first | rfl) | apply Cn.mk))
  intro m3 mp3 o3 n3
  simp only [evs] at o3 n3
  have k3 : Keep (fun c => c ≠ A.gb) [mapTag] m2 m3 := Keep.wrote hG2.2 (fun hh => hh rfl) List.mem_cons_self o3 n3
  have h3 : Wk m3 A 1 (.slice none 0 0) := by
   refine ⟨h2.w.stay k3 (.inr (by decide)), h2.t.stay k3 (.inr (by decide)), h2.f.stay k3 (.inr (by decide)), ?_, Nat.lt_of_lt_of_le h2.nb k3.1, h2.ne⟩
   refine h2.nodes.stay (X := fun c => c ≠ A.gb) (fun hh => ?_) h2.nb k3
   obtain ⟨nn, c, ty, kd, e1, -⟩ := h2.nodes
   have e2 := hG2.2
   rw [← hh, e1] at e2
   cases e2
  have h3w := h3.w
  have hbeh := behindL m3 A.b A.off A.cap A.n 1 _ h3.nodes hn (by omega) (D_list A.n)
  (repeat (first | (apply G.h; constructor <;> (first | exact Zc | apply gI | ((repeat' (first | exact Y0 | apply Y1 | ((first | apply Y4 | apply Y5); simp only [evs, Nat.reduceEqDiff, reduceIte, qn, qd, q0, q2] <;> rfl))); done) | (apply Y6; (try simp only [evs, qn, qd, q0, q2]); first | exact h3w.load1 rfl rfl rfl)))))
  ((first | apply g_run | apply g_run0) <;> (first | ((repeat' (first | exact Y0 | apply Y1 | exact Y2 | apply Y3 | ((first | apply Y4 | apply Y5); simp only [evs, Nat.reduceEqDiff, reduceIte, qn, qd, q0, q2] <;> rfl))); done) | exact Rn.mk ((by simp only [evs, qn, qd, q0, q2]; exact hbeh)) | apply Cn.mk))
  rintro v m4 ⟨rfl, e4⟩
  try simp only [evs] at e4
  replace e4 := e4.symm
  subst e4
  (repeat (first | (apply G.h; constructor <;> (first | exact Zc | apply gI | ((repeat' (first | exact Y0 | apply Y1 | ((first | apply Y4 | apply Y5); simp only [evs, Nat.reduceEqDiff, reduceIte, qn, qd, q0, q2] <;> rfl))); done) | (apply Y6; (try simp only [evs, qn, qd, q0, q2]); first | rfl)))))
  refine ih false _ ⟨⟨by (simp only [evs, Nat.reduceEqDiff, reduceIte, qn, qd, q0, q2] <;> first | rfl | (congr 1; omega) | omega), by (simp only [evs, Nat.reduceEqDiff, reduceIte, qn, qd, q0, q2] <;> first | rfl | (congr 1; omega) | omega), by (simp only [evs, Nat.reduceEqDiff, reduceIte, qn, qd, q0, q2] <;> first | rfl | (congr 1; omega) | omega), ?_⟩, ?_⟩ (by decide)
  ·rw [if_neg (by decide), show 3 + A.n = 1 + (2 + A.n) by omega]; (simp only [evs, Nat.reduceEqDiff, reduceIte, qn, qd, q0, q2] <;> first | rfl | (congr 1; omega) | omega)
  ·rw [if_neg (by decide)]
   simp only [evs]
   exact ⟨(Keep.grow g2).trans k3, h3, mp3⟩
 | false =>
  clear ih
  rw [if_neg (by decide)] at hs q2
  obtain ⟨hk, h3, h4⟩ := hs
  have h3w := h3.w
  (repeat (first | (apply G.h; constructor <;> (first | exact Zc | apply gI | ((repeat' (first | exact Y0 | apply Y1 | ((first | apply Y4 | apply Y5); simp only [evs, Nat.reduceEqDiff, reduceIte, qn, qd, q0, q2] <;> rfl))); done) | (apply Y6; (try simp only [evs, qn, qd, q0, q2]); first | exact h3w.load1 rfl rfl rfl)))))
  (refine g_finN (by first | exact Rs.nil | skip) (by (simp only [evs, Nat.reduceEqDiff, reduceIte, qn, qd, q0, q2] <;> first | rfl | (congr 1; omega) | omega)) ?_)
  simp only [evs]
  exact ⟨hk, h3, h4⟩
end
end Go.Proofs.YthhcnfgeacnfiaaGreatDoor

namespace Go.Proofs.YthhcnfgeacnfiaaGreatDoor
open Go Go.Ev
set_option maxRecDepth 100000
set_option linter.unusedVariables false
set_option linter.unusedSimpArgs false
set_option pp.maxSteps 1500
theorem accept_zeros {bl : Du} {st : List (Du × Nat)} (n : Nat) (hb : bl.n = n) (hp : ∀ c, bl.pl c = 2) : ∀ (k c : Nat), c + k = n → accept (zeros c k) ((bl, c) :: st) = accept [] st
 | 0, c, h => accept_pop _ _ _ _ (by rw [hb]; omega)
 | k + 1, c, h => by
  rw [zeros, accept_cons _ _ _ _ _ (by rw [hb]; omega), hp]
  have h2 : mayB (zeroN c).kind 2 = true := rfl
  have h3 : okR (zeroN c) = true := rfl
  rw [h2, h3, Bool.true_and, Bool.true_and, accept_pop _ _ _ _ (by rfl)]
  exact accept_zeros n hb hp k (c + 1) (by omega)
theorem listN_ok (n : Nat) : okProg (listN n) = true := by
 unfold okProg listN
 rw [accept_cons _ _ _ _ _ (by decide)]
 have a1 : mayB 1 (root.pl 0) = true := rfl
 have a2 : okR ⟨1, 1, [], 0, 0⟩ = true := rfl
 rw [a1, a2, Bool.true_and, Bool.true_and, accept_cons _ _ _ _ _ (by decide)]
 have b1 : mayB 3 ((⟨1, 1, [], 0, 0⟩ : Nd).du.pl 0) = true := rfl
 have b2 : okR ⟨3, 1, [120], 0, 0⟩ = true := by decide +kernel
 rw [b1, b2, Bool.true_and, Bool.true_and, accept_cons _ _ _ _ _ (by decide)]
 have c1 : mayB 20 ((⟨3, 1, [120], 0, 0⟩ : Nd).du.pl 0) = true := rfl
 have c2 : okR ⟨20, n, [], 0, 8⟩ = true := by
  have : countB ⟨20, n, [], 0, 8⟩ = true := by
   unfold countB
   simp
  have h2 : fieldsB ⟨20, n, [], 0, 8⟩ = true := rfl
  unfold okR
  rw [this, h2]; rfl
 rw [c1, c2, Bool.true_and, Bool.true_and, accept_zeros n rfl (fun _ => rfl) n 0 (by omega), accept_pop _ _ _ _ (by rfl), accept_pop _ _ _ _ (by rfl)]
 rfl
theorem zeros_okx : ∀ (k i : Nat), i + k ≤ 1000 → ∀ x ∈ zeros i k, x.ok ∧ x.text.length ≤ 9223372036854775807
 | 0, i, h, x, hx => by cases hx
 | k + 1, i, h, x, hx => by
  rw [zeros] at hx
  rcases List.mem_cons.1 hx with rfl | hx
  ·refine ⟨?_, Nat.zero_le _⟩
   unfold Nd.ok zeroN; simp only; omega
  ·exact zeros_okx k (i + 1) (by omega) x hx
theorem listN_okx {n : Nat} (h : n ≤ 1000) : ∀ x ∈ listN n, x.ok ∧ x.text.length ≤ 9223372036854775807 := by
 intro x hx
 unfold listN at hx
 rcases List.mem_cons.1 hx with rfl | hx
 ·exact ⟨⟨by decide, by decide, by decide, by decide⟩, by decide⟩
 rcases List.mem_cons.1 hx with rfl | hx
 ·exact ⟨⟨by decide, by decide, by decide, by decide⟩, by decide⟩
 rcases List.mem_cons.1 hx with rfl | hx
 ·refine ⟨?_, Nat.zero_le _⟩
  unfold Nd.ok; simp only; omega
 ·exact zeros_okx n 0 (by omega) x hx
theorem rep_at {v : Value} : ∀ (k i : Nat), i < k → (repeatList [v] k)[i]? = some v
 | 0, i, h => by omega
 | k + 1, 0, h => rfl
 | k + 1, i + 1, h => by
  show (v :: repeatList [v] k)[i + 1]? = _
  rw [List.getElem?_cons_succ]; exact rep_at k i (by omega)
attribute [local irreducible] quiet allocs effect wp ret wpO Runs Act.tmp Act.eval fin results Tree.set binOp loadAt storeAt target wanted cellsFrom

set_option maxHeartbeats 4000000 in
theorem resolveL (b off cap n : Nat) (hn : n ≤ 500) (m : Mem) (hN : Nodes m b off (listN n)) (hNm : Names m) (hbn : b < m.next) (h0 : 0 < m.next) :
  Runs evEnv 18 [.slice (some ⟨b, off, none⟩) (3 + n) cap] m fun v m' => Keep (fun c => c < m.next) [105, 116, 64, mapTag] m m' ∧ ∃ fv uv gv, v = .tuple ⟨[.agg ⟨[fv, uv, gv]⟩, I 0, I 0]⟩ ∧ Sl (fun c => c < m.next) m' fv 73 4 [I 0, I 0, I 0, nilS] ∧ Sl (fun c => c < m.next) m' uv 116 2 (put (repeatList [I 0, I 0] (3 + n)) 2 [I 4, I 0]) ∧ Sl (fun c => c < m.next) m' gv 9 1 [encS [120]] := by
 have hlen := listN_len n
 have hp := listN_ok n
 have hchk : ∀ m' : Mem, Nodes m' b off (listN n) → b < m'.next → Runs evEnv 14 [.slice (some ⟨b, off, none⟩) (3 + n) cap] m' fun v m2 => Grow m' m2 ∧ ∃ p e : Nat, v = .tuple ⟨[.int .i64 p, .int .i64 e]⟩ ∧ (e = 0 ↔ okProg (listN n) = true) := fun m' h1 h2 => by
  have := check14 b off cap (listN n) (listN_okx (by omega)) (by omega) m' h1 h2 (by unfold listN; simp)
  rw [hlen] at this; exact this
 have hz := row_new m [nilS, nilS, nilS] 64 0
 have g1 : Grow m (m.new (rowObj [nilS, nilS, nilS] 64 0)) := (Grow.refl m).new _
 refine runs_start rfl rfl rfl rfl ?_
 (repeat (first | (apply G.h; constructor <;> (first | exact Zc | apply gI | ((repeat' (first | exact Y0 | apply Y1 | ((first | apply Y4 | apply Y5); simp only [evs, Nat.reduceEqDiff, reduceIte] <;> rfl))); done) | (apply Y6; (try simp only [evs]); first | rfl)))))
 ((first | apply g_run | apply g_run0) <;> (first | ((repeat' (first | exact Y0 | apply Y1 | exact Y2 | apply Y3 | ((first | apply Y4 | apply Y5); simp only [evs, Nat.reduceEqDiff, reduceIte] <;> rfl))); done) | exact Rn.mk ((by simp only [evs]; exact hchk _ (hN.grow hbn g1) (Nat.lt_succ_of_lt hbn))) | apply Cn.mk))
 rintro v m2 ⟨gr, p, e, rfl, he⟩
 try simp only [evs] at gr
 replace gr : Grow (m.new (rowObj [nilS, nilS, nilS] 64 0)) m2 := gr
 have g2 : Grow m m2 := g1.trans gr
 have hz2 := hz.grow gr
 have nx2 : m.next < m2.next := hz2.1
 obtain rfl : e = 0 := he.2 hp
 ·have hb1 : ∀ c, m.next ≤ c → ¬ c < m.next := fun c hc => by omega
  (repeat (first | (apply G.h; constructor <;> (first | exact Zc | apply gI | ((repeat' (first | exact Y0 | apply Y1 | ((first | apply Y4 | apply Y5); simp only [evs, Nat.reduceEqDiff, reduceIte] <;> rfl))); done) | (apply Y6; (try simp only [evs]); first | rfl)))))
  (apply g_makeSlice <;> (first | exact Zc | apply gI | ((repeat' (first | exact Y0 | apply Y1 | exact Y2 | apply Y3 | ((first | apply Y4 | apply Y5); simp only [evs, Nat.reduceEqDiff, reduceIte] <;> rfl))); done) | (apply Hy.mk; (try simp only [evs]); first | fail | assumption) | (apply Om.mk; first | fail) | (apply Y6; (try simp only [evs]); first | rfl) | apply Cn.mk))
  (repeat (first | (apply G.h; constructor <;> (first | exact Zc | apply gI | ((repeat' (first | exact Y0 | apply Y1 | ((first | apply Y4 | apply Y5); simp only [evs, Nat.reduceEqDiff, reduceIte] <;> rfl))); done) | (apply Y6; (try simp only [evs]); first | rfl)))))
  (apply g_makeSlice <;> (first | exact Zc | apply gI | ((repeat' (first | exact Y0 | apply Y1 | exact Y2 | apply Y3 | ((first | apply Y4 | apply Y5); simp only [evs, Nat.reduceEqDiff, reduceIte] <;> rfl))); done) | (apply Hy.mk; (try simp only [evs]); first | fail | assumption) | (apply Om.mk; first | fail) | (apply Y6; (try simp only [evs]); first | rfl) | apply Cn.mk))
  have rw0 := row_new (((m2.new (.map []))).new (rowObj (repeatList [.pointer none] (3 + n)) 112 0)) [.slice (some ⟨b, off, none⟩) (3 + n) cap, I 1, nilS, nilS, nilS, .map (some m2.next), nilS, .slice (some ⟨m2.next + 1, 0, none⟩) (3 + n) (3 + n), I 0, I 0] 105 0
  have rw1 := rw0.keep_new (rowObj (repeatList [I 0, I 0] (3 + n)) 116 0)
  have wbn : ((((m2.new (.map []))).new (rowObj (repeatList [.pointer none] (3 + n)) 112 0))).next = m2.next + 2 := rfl
  rw [wbn] at rw1
  (repeat (first | (apply G.h; constructor <;> (first | exact Zc | apply gI | ((repeat' (first | exact Y0 | apply Y1 | ((first | apply Y4 | apply Y5); simp only [evs, Nat.reduceEqDiff, reduceIte] <;> rfl))); done) | (apply Y6; (try simp only [evs]); first | rfl)))))
  (apply g_stR <;> (first | exact Zc | apply gI | ((repeat' (first | exact Y0 | apply Y1 | exact Y2 | apply Y3 | ((first | apply Y4 | apply Y5); simp only [evs, Nat.reduceEqDiff, reduceIte] <;> rfl))); done) | (apply Hy.mk; (try simp only [evs]); first | exact rw1 | assumption) | (apply Om.mk; first | exact rw1) | (apply Y6; (try simp only [evs]); first | rfl) | apply Cn.mk))
  intro me re oe ne; simp only [evs] at re oe ne
  have nxD : ((((((((m2.new (.map []))).new (rowObj (repeatList [.pointer none] (3 + n)) 112 0))).new (rowObj [.slice (some ⟨b, off, none⟩) (3 + n) cap, I 1, nilS, nilS, nilS, .map (some m2.next), nilS, .slice (some ⟨m2.next + 1, 0, none⟩) (3 + n) (3 + n), I 0, I 0] 105 0))).new (rowObj (repeatList [I 0, I 0] (3 + n)) 116 0))).next = m2.next + 4 := rfl
  have nxe : me.next = m2.next + 4 := ne
  have ke : Keep (fun c => c < m.next) [105] (((((((m2.new (.map []))).new (rowObj (repeatList [.pointer none] (3 + n)) 112 0))).new (rowObj [.slice (some ⟨b, off, none⟩) (3 + n) cap, I 1, nilS, nilS, nilS, .map (some m2.next), nilS, .slice (some ⟨m2.next + 1, 0, none⟩) (3 + n) (3 + n), I 0, I 0] 105 0))).new (rowObj (repeatList [I 0, I 0] (3 + n)) 116 0)) me := Keep.row rw1 (hb1 _ (by omega)) (by decide) oe ne
  (repeat (first | (apply G.h; constructor <;> (first | exact Zc | apply gI | ((repeat' (first | exact Y0 | apply Y1 | ((first | apply Y4 | apply Y5); simp only [evs, Nat.reduceEqDiff, reduceIte] <;> rfl))); done) | (apply Y6; (try simp only [evs]); first | rfl)))))
  have rf0 := row_new me [I 0, I 0, I 0, nilS] 73 0
  have re1 := re.keep_new (rowObj [I 0, I 0, I 0, nilS] 73 0)
  (apply g_stR <;> (first | exact Zc | apply gI | ((repeat' (first | exact Y0 | apply Y1 | exact Y2 | apply Y3 | ((first | apply Y4 | apply Y5); simp only [evs, Nat.reduceEqDiff, reduceIte] <;> rfl))); done) | (apply Hy.mk; (try simp only [evs]); first | exact re1 | assumption) | (apply Om.mk; first | exact re1) | (apply Y6; (try simp only [evs]); first | rfl) | apply Cn.mk))
  intro mg rg og ng; simp only [evs] at rg og ng
  have nxg : mg.next = m2.next + 5 := by rw [ng]; show me.next + 1 = _; omega
  have kg : Keep (fun c => c < m.next) [105] (me.new (rowObj [I 0, I 0, I 0, nilS] 73 0)) mg := Keep.row re1 (hb1 _ (by omega)) (by decide) og ng
  (repeat (first | (apply G.h; constructor <;> (first | exact Zc | apply gI | ((repeat' (first | exact Y0 | apply Y1 | ((first | apply Y4 | apply Y5); simp only [evs, Nat.reduceEqDiff, reduceIte] <;> rfl))); done) | (apply Y6; (try simp only [evs]); first | rfl)))))
  have rg1 := ((rg.keep_new (.map [])).keep_new (rowObj [I 0, nilS, I 0, .map (some mg.next)] 110 0)).keep_new (rowObj [ptr (mg.next + 1)] 106 0)
  (apply g_stR <;> (first | exact Zc | apply gI | ((repeat' (first | exact Y0 | apply Y1 | exact Y2 | apply Y3 | ((first | apply Y4 | apply Y5); simp only [evs, Nat.reduceEqDiff, reduceIte] <;> rfl))); done) | (apply Hy.mk; (try simp only [evs]); first | exact rg1 | assumption) | (apply Om.mk; first | exact rg1) | (apply Y6; (try simp only [evs]); first | rfl) | apply Cn.mk))
  intro mk rk ok' nk; simp only [evs] at rk ok' nk
  have nxk : mk.next = m2.next + 8 := by rw [nk]; show mg.next + 3 = _; omega
  have kk : Keep (fun c => c < m.next) [105] (((((mg.new (.map []))).new (rowObj [I 0, nilS, I 0, .map (some mg.next)] 110 0))).new (rowObj [ptr (mg.next + 1)] 106 0)) mk := Keep.row rg1 (hb1 _ (by omega)) (by decide) ok' nk
  have rk' : Row mk (m2.next + 2) [.slice (some ⟨b, off, none⟩) (3 + n) cap, I 1, .slice (some ⟨m2.next + 4, 0, none⟩) 1 1, .slice (some ⟨m2.next + 3, 0, none⟩) (3 + n) (3 + n), nilS, .map (some m2.next), .slice (some ⟨m2.next + 7, 0, none⟩) 1 1, .slice (some ⟨m2.next + 1, 0, none⟩) (3 + n) (3 + n), I 0, I 0] 105 0 := by
   have q := rk
   simp only [nxe, nxg, next_new] at q
   exact q
  have kMJ : Keep (fun c => c < m.next) [105] (((((mg.new (.map []))).new (rowObj [I 0, nilS, I 0, .map (some mg.next)] 110 0))).new (rowObj [ptr (mg.next + 1)] 106 0)) mk := kk
  have kMI : Keep (fun c => c < m.next) [105] (((mg.new (.map []))).new (rowObj [I 0, nilS, I 0, .map (some mg.next)] 110 0)) mk := (Keep.new _).trans kMJ
  have kMH : Keep (fun c => c < m.next) [105] (mg.new (.map [])) mk := (Keep.new _).trans kMI
  have kmg : Keep (fun c => c < m.next) [105] mg mk := (Keep.new _).trans kMH
  have kMF : Keep (fun c => c < m.next) [105] (me.new (rowObj [I 0, I 0, I 0, nilS] 73 0)) mk := kg.trans kmg
  have kme : Keep (fun c => c < m.next) [105] me mk := (Keep.new _).trans kMF
  have kMD : Keep (fun c => c < m.next) [105] (((((((m2.new (.map []))).new (rowObj (repeatList [.pointer none] (3 + n)) 112 0))).new (rowObj [.slice (some ⟨b, off, none⟩) (3 + n) cap, I 1, nilS, nilS, nilS, .map (some m2.next), nilS, .slice (some ⟨m2.next + 1, 0, none⟩) (3 + n) (3 + n), I 0, I 0] 105 0))).new (rowObj (repeatList [I 0, I 0] (3 + n)) 116 0)) mk := ke.trans kme
  have kMC : Keep (fun c => c < m.next) [105] (((((m2.new (.map []))).new (rowObj (repeatList [.pointer none] (3 + n)) 112 0))).new (rowObj [.slice (some ⟨b, off, none⟩) (3 + n) cap, I 1, nilS, nilS, nilS, .map (some m2.next), nilS, .slice (some ⟨m2.next + 1, 0, none⟩) (3 + n) (3 + n), I 0, I 0] 105 0)) mk := (Keep.new _).trans kMD
  have kMB : Keep (fun c => c < m.next) [105] (((m2.new (.map []))).new (rowObj (repeatList [.pointer none] (3 + n)) 112 0)) mk := (Keep.new _).trans kMC
  have kMA : Keep (fun c => c < m.next) [105] (m2.new (.map [])) mk := (Keep.new _).trans kMB
  have km2 : Keep (fun c => c < m.next) [105] m2 mk := (Keep.new _).trans kMA
  have km : Keep (fun c => c < m.next) [105] m mk := (Keep.grow g2).trans km2
  have q1 : Row mk (m2.next + 1) (repeatList [.pointer none] (3 + n)) 112 0 := (row_new (m2.new (.map [])) (repeatList [.pointer none] (3 + n)) 112 0).stay kMB (.inr (by decide))
  have q2 : Row mk (m2.next + 3) (repeatList [I 0, I 0] (3 + n)) 116 0 := (row_new (((((m2.new (.map []))).new (rowObj (repeatList [.pointer none] (3 + n)) 112 0))).new (rowObj [.slice (some ⟨b, off, none⟩) (3 + n) cap, I 1, nilS, nilS, nilS, .map (some m2.next), nilS, .slice (some ⟨m2.next + 1, 0, none⟩) (3 + n) (3 + n), I 0, I 0] 105 0)) (repeatList [I 0, I 0] (3 + n)) 116 0).stay kMD (.inr (by decide))
  have q3 : Row mk (m2.next + 4) [I 0, I 0, I 0, nilS] 73 0 := by have := rf0.stay kMF (.inr (by decide)); rw [nxe] at this; exact this
  have q4 : Row mk (m2.next + 7) [ptr (mg.next + 1)] 106 0 := by have q : Row mk (mg.next + 2) [ptr (mg.next + 1)] 106 0 := (row_new (((mg.new (.map []))).new (rowObj [I 0, nilS, I 0, .map (some mg.next)] 110 0)) [ptr (mg.next + 1)] 106 0).stay kMJ (.inr (by decide)); rw [nxg] at q ⊢; exact q
  have q5 : Row mk (mg.next + 1) [I 0, nilS, I 0, .map (some mg.next)] 110 0 := (row_new (mg.new (.map [])) [I 0, nilS, I 0, .map (some mg.next)] 110 0).stay kMI (.inr (by decide))
  have q7 : Mp mk m2.next [] := (mp_new m2).stay kMA (.inr (by decide))
  have zk := hz2.stay km2 (.inr (by decide))
  have kall : Keep (fun c => c < m.next) [] m mk := ⟨km.1, fun c o hc ho hx => km.2 c o hc ho (.inl hc)⟩
  have hW : Wk mk ⟨b, off, cap, n, m2.next + 2, m2.next + 3, 3 + n, m2.next, m2.next + 7, mg.next + 1, .slice (some ⟨m2.next + 4, 0, none⟩) 1 1, .slice (some ⟨m2.next + 1, 0, none⟩) (3 + n) (3 + n), .map (some mg.next)⟩ 1 nilS :=
   ⟨rk', q4, q5, hN.stay (X := fun c => c < m.next) hbn hbn kall, Nat.lt_of_lt_of_le hbn kall.1, by show b ≠ m2.next + 2; omega, by show b ≠ m2.next + 3; omega⟩
  have hNk := hNm.stay (X := fun c => c < m.next) h0 h0 kall
  have hrl : (repeatList [I 0, I 0] (3 + n)).length = (3 + n) * 2 := repeat_len2 _ _
  (repeat (first | (apply G.h; constructor <;> (first | exact Zc | apply gI | ((repeat' (first | exact Y0 | apply Y1 | ((first | apply Y4 | apply Y5); simp only [evs, Nat.reduceEqDiff, reduceIte] <;> rfl))); done) | (apply Y6; (try simp only [evs]); first | rfl)))))
  ((first | apply g_run | apply g_run0) <;> (first | ((repeat' (first | exact Y0 | apply Y1 | exact Y2 | apply Y3 | ((first | apply Y4 | apply Y5); simp only [evs, Nat.reduceEqDiff, reduceIte] <;> rfl))); done) | exact Rn.mk ((by simp only [evs]; exact hoist28L (show n ≤ 1000 by omega) hW q7)) | apply Cn.mk))
  rintro v m9 ⟨k9, h9, g9⟩
  try simp only [evs] at k9
  simp only at k9 g9
  have u9 : Row m9 (m2.next + 3) (repeatList [I 0, I 0] (3 + n)) 116 0 := q2.stay k9 (.inr (by decide))
  have f9 : Row m9 (m2.next + 4) [I 0, I 0, I 0, nilS] 73 0 := q3.stay k9 (.inr (by decide))
  have p9 : Row m9 (m2.next + 1) (repeatList [.pointer none] (3 + n)) 112 0 := q1.stay k9 (.inr (by decide))
  have z9 := zk.stay k9 (.inr (by decide))
  have hN9 : Names m9 := hNk.stay (X := fun c => c ≠ m2.next) (by show (0 : Nat) ≠ m2.next; omega) (Nat.lt_of_lt_of_le h0 kall.1) k9
  have hle9 : m.next ≤ m9.next := Nat.le_trans kall.1 k9.1
  have hn0 : loadAt evEnv m9 3 b (off + 0 * 5 + 1) = some (.int .i64 1) := h9.nodes.n 0 (by show 0 < (listN n).length; omega)
  have hkid : Runs evEnv 36 [ptr (m2.next + 2), .int .i64 1] m9 fun _ m' => KB ⟨b, off, cap, n, m2.next + 2, m2.next + 3, 3 + n, m2.next, m2.next + 7, mg.next + 1, .slice (some ⟨m2.next + 4, 0, none⟩) 1 1, .slice (some ⟨m2.next + 1, 0, none⟩) (3 + n) (3 + n), .map (some mg.next)⟩ m9 m' ∧ ∃ gv, Wk m' ⟨b, off, cap, n, m2.next + 2, m2.next + 3, 3 + n, m2.next, m2.next + 7, mg.next + 1, .slice (some ⟨m2.next + 4, 0, none⟩) 1 1, .slice (some ⟨m2.next + 1, 0, none⟩) (3 + n) (3 + n), .map (some mg.next)⟩ (3 + n) gv ∧ Sl (fun c => c < m.next) m' gv 9 1 [encS [120]] ∧ Row m' (m2.next + 3) (put (repeatList [I 0, I 0] (3 + n)) 2 [I 4, I 0]) 116 0 :=
   kidsG (k := 1) (fun j m' => if j = 0 then m' = m9 else ∃ gv, Wk m' ⟨b, off, cap, n, m2.next + 2, m2.next + 3, 3 + n, m2.next, m2.next + 7, mg.next + 1, .slice (some ⟨m2.next + 4, 0, none⟩) 1 1, .slice (some ⟨m2.next + 1, 0, none⟩) (3 + n) (3 + n), .map (some mg.next)⟩ (3 + n) gv ∧ Sl (fun c => c < m.next) m' gv 9 1 [encS [120]] ∧ Row m' (m2.next + 3) (put (repeatList [I 0, I 0] (3 + n)) 2 [I 4, I 0]) 116 0) (by decide) (fun j hj m1 h1 => by
    obtain rfl : j = 0 := by omega
    rw [if_pos rfl] at h1
    subst h1
    exact node59L (by show n ≤ 1000; omega) h9 g9 u9 hrl hN9 (Nat.lt_of_lt_of_le h0 hle9) (Nat.succ_pos _) (Nat.succ_pos _) hle9) rfl
  have h03 : 0 < 3 + n := by omega
  (repeat (first | (apply G.h; constructor <;> (first | exact Zc | apply gI | ((repeat' (first | exact Y0 | apply Y1 | ((first | apply Y4 | apply Y5); simp only [evs, Nat.reduceEqDiff, reduceIte] <;> rfl))); done) | (apply Y6; (try simp only [evs]); first | exact hn0)))))
  ((first | apply g_run | apply g_run0) <;> (first | ((repeat' (first | exact Y0 | apply Y1 | exact Y2 | apply Y3 | ((first | apply Y4 | apply Y5); simp only [evs, Nat.reduceEqDiff, reduceIte] <;> rfl))); done) | exact Rn.mk ((by simp only [evs]; exact hkid)) | apply Cn.mk))
  rintro v m10 ⟨k10, gv, h10, s10, u10⟩
  try simp only [evs] at k10
  have w10 : Row m10 (m2.next + 2) [.slice (some ⟨b, off, none⟩) (3 + n) cap, I (3 + n : Nat), .slice (some ⟨m2.next + 4, 0, none⟩) 1 1, .slice (some ⟨m2.next + 3, 0, none⟩) (3 + n) (3 + n), gv, .map (some m2.next), .slice (some ⟨m2.next + 7, 0, none⟩) 1 1, .slice (some ⟨m2.next + 1, 0, none⟩) (3 + n) (3 + n), I 0, I 0] 105 0 := h10.w
  have f10 : Row m10 (m2.next + 4) [I 0, I 0, I 0, nilS] 73 0 := f9.stay k10 (.inr (by decide))
  have p10 : Row m10 (m2.next + 1) (repeatList [.pointer none] (3 + n)) 112 0 := p9.stay k10 (.inr (by decide))
  have z10 := z9.stay k10 (.inr (by decide))
  have kk10 : Keep (fun c => c < m.next) [105, 116, 64, mapTag] m m10 := (km.mono (by simp)).trans (((Keep.sub k9 fun c hc => by show c ≠ m2.next; have hc : c < m.next := hc; omega).mono (by simp)).trans ((Keep.sub k10 fun c hc => by show c ≠ m2.next + 2 ∧ c ≠ m2.next + 3; have hc : c < m.next := hc; omega).mono (by simp)))
  (repeat (first | (apply G.h; constructor <;> (first | exact Zc | apply gI | ((repeat' (first | exact Y0 | apply Y1 | ((first | apply Y4 | apply Y5); simp only [evs, Nat.reduceEqDiff, reduceIte] <;> rfl))); done) | (apply Y6; (try simp only [evs]); first | exact w10.load1 rfl rfl rfl)))))
  refine ewp_loop (ι := Nat) (fun i a => (a.n = 109 ∧ a.defers = [] ∧ a.tmp 2 = ptr m.next ∧ a.tmp 7 = ptr (m2.next + 2) ∧ a.tmp 71 = .slice (some ⟨m2.next + 1, 0, none⟩) (3 + n) (3 + n) ∧ a.tmp 72 = I (3 + n : Nat) ∧ a.tmp 73 = I i) ∧ i ≤ 3 + n ∧ a.m = m10) (fun i => 3 + n - i) 0 ?_ ?_
  ·exact ⟨(by refine ⟨?_, ?_, ?_, ?_, ?_, ?_, ?_⟩ <;> (simp only [evs, Nat.reduceEqDiff, reduceIte] <;> first | rfl | (congr 1; omega) | omega)), Nat.zero_le _, by (simp only [evs, Nat.reduceEqDiff, reduceIte] <;> first | rfl | (congr 1; omega) | omega)⟩
  rintro i a ⟨⟨qn, qd, q2_, q7_, q71, q72, q73⟩, hi, qm⟩ ih
  rcases Nat.lt_or_ge i (3 + n) with hlt | hge
  ·have hri : (repeatList [.pointer none] (3 + n))[0 + i * 1]? = some (.pointer none) := by rw [show 0 + i * 1 = i by omega]; exact rep_at _ _ hlt
   (repeat (first | (apply G.h; constructor <;> (first | exact Zc | apply gI | ((repeat' (first | exact Y0 | apply Y1 | ((first | apply Y4 | apply Y5); simp only [evs, Nat.reduceEqDiff, reduceIte, qn, qd, q2_, q7_, q71, q72, q73, qm] <;> rfl))); done) | (apply Y6; (try simp only [evs, qn, qd, q2_, q7_, q71, q72, q73, qm]); first | exact p10.load1 rfl rfl hri)))))
   exact ih (i + 1) _ ⟨(by refine ⟨?_, ?_, ?_, ?_, ?_, ?_, ?_⟩ <;> (simp only [evs, Nat.reduceEqDiff, reduceIte, qn, qd, q2_, q7_, q71, q72, q73] <;> first | rfl | (congr 1; omega) | omega)), hlt, by (simp only [evs, Nat.reduceEqDiff, reduceIte, qm] <;> first | rfl | (congr 1; omega) | omega)⟩ (by omega)
  ·obtain rfl : i = 3 + n := by omega
   clear ih
   obtain ⟨ga, gn, gc, rfl, -⟩ := s10.form (by decide)
   (repeat (first | (apply G.h; constructor <;> (first | exact Zc | apply gI | ((repeat' (first | exact Y0 | apply Y1 | ((first | apply Y4 | apply Y5); simp only [evs, Nat.reduceEqDiff, reduceIte, qn, qd, q2_, q7_, q71, q72, q73, qm] <;> rfl))); done) | (apply Y6; (try simp only [evs, qn, qd, q2_, q7_, q71, q72, q73, qm]); first | exact w10.loadA rfl rfl rfl (show 0 + 2 + 3 ≤ 10 by decide) rfl)))))
   (apply g_stR <;> (first | exact Zc | apply gI | ((repeat' (first | exact Y0 | apply Y1 | exact Y2 | apply Y3 | ((first | apply Y4 | apply Y5); simp only [evs, Nat.reduceEqDiff, reduceIte, qn, qd, q2_, q7_, q71, q72, q73, qm] <;> rfl))); done) | (apply Hy.mk; (try simp only [evs, qn, qd, q2_, q7_, q71, q72, q73, qm]); first | exact z10 | assumption) | (apply Om.mk; first | exact z10) | (apply Y6; (try simp only [evs, qn, qd, q2_, q7_, q71, q72, q73, qm]); first | rfl) | apply Cn.mk))
   intro m3 r3 o3 n3; simp only [evs, qn, qd, q2_, q7_, q71, q72, q73, qm] at r3 o3 n3
   (repeat (first | (apply G.h; constructor <;> (first | exact Zc | apply gI | ((repeat' (first | exact Y0 | apply Y1 | ((first | apply Y4 | apply Y5); simp only [evs, Nat.reduceEqDiff, reduceIte, qn, qd, q2_, q7_, q71, q72, q73] <;> rfl))); done) | (apply Y6; (try simp only [evs, qn, qd, q2_, q7_, q71, q72, q73]); first | rfl)))))
   have k3 : Keep (fun c => c < m.next) [64] m10 m3 := Keep.row z10 (hb1 _ (Nat.le_refl _)) (by decide) o3 n3
   refine g_fin3c (b := m.next) (o := 0) (.agg ⟨[.slice (some ⟨m2.next + 4, 0, none⟩) 1 1, .slice (some ⟨m2.next + 3, 0, none⟩) (3 + n) (3 + n), .slice ga gn gc]⟩) (I 0) (I 0) rfl ?_ ?_ ?_ ?_ ?_ ?_
   ·(simp only [evs, Nat.reduceEqDiff, reduceIte, qn, qd, q2_, q7_, q71, q72, q73] <;> first | rfl | (congr 1; omega) | omega)
   ·(simp only [evs, Nat.reduceEqDiff, reduceIte, qn, qd, q2_, q7_, q71, q72, q73] <;> first | rfl | (congr 1; omega) | omega)
   ·simp only [evs]; exact r3.loadA rfl rfl rfl (Nat.le_refl 3) rfl
   ·(simp only [evs, Nat.reduceEqDiff, reduceIte, qn, qd, q2_, q7_, q71, q72, q73] <;> first | rfl | (congr 1; omega) | omega)
   ·(simp only [evs, Nat.reduceEqDiff, reduceIte, qn, qd, q2_, q7_, q71, q72, q73] <;> first | rfl | (congr 1; omega) | omega)
   ·simp only [evs]
    refine ⟨kk10.trans (k3.mono (by simp)), _, _, _, rfl, ?_, ?_, s10.stay k3 (by decide)⟩
    ·exact .inr ⟨_, 1, _, 1, rfl, hb1 _ (by omega), f10.stay k3 (.inr (by decide)), rfl, Nat.le_refl _, rfl⟩
    ·exact .inr ⟨_, 3 + n, _, 3 + n, rfl, hb1 _ (by omega), u10.stay k3 (.inr (by decide)), by rw [put_length, hrl], Nat.le_refl _, by rw [List.take_of_length_le (by rw [put_length, hrl]; exact Nat.le_refl _)]⟩
end Go.Proofs.YthhcnfgeacnfiaaGreatDoor
