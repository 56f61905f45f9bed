/- Part of a verified evaluator of the model's programs and of runs by it: SLA SO1. -/
import Derived.Test.YtihokakelnfdgaaDoorSM
import Derived.Test.YtihokakelnfdgaaDoorSN
import Derived.Test.YtihokakelnfdgaaDoorEvV
import Derived.ChangeSlices
import Derived.OpenShut
namespace Go.Proofs.YtihokakelnfdgaaDoor
open Go Go.Ev
set_option maxRecDepth 100000
set_option linter.unusedVariables false
set_option linter.unusedSimpArgs false
set_option pp.maxSteps 1500

theorem n_useNe {m : Mem} (a b : Int) : Bn evEnv m .neq 57 (.agg ⟨[I a, I b]⟩) (.agg ⟨[I a, I b]⟩) (.bool false) := by
 refine .mk ?_
 obtain ⟨f0, f1, h2, a1, a2, a3, b1, b2, b3⟩ : ∃ f0 f1 : Field, evEnv.under 57 = some (.struct #[f0, f1]) ∧ f0.offset = 0 ∧ f0.type = 3 ∧ f0.name = "Where" ∧ f1.offset = 1 ∧ f1.type = 3 ∧ f1.name = "N" := ⟨_, _, rfl, rfl, rfl, rfl, rfl, rfl, rfl⟩
 have h4 : evEnv.eqs.any (Nat.beq 57) = true := by rfl
 have h5 : evEnv.under 3 = some (.int .i64) := by rfl
 simp [Go.Ev.binOp, Go.Ev.isTok, Go.Ev.binOp0, Go.Ev.eqAny, h2, h4, Go.Ev.eqFlds, a1, a2, a3, b1, b2, b3, h5]
theorem live10 (m : Mem) : Runs evEnv 10 [] m fun v m' => v = .bool true ∧ m' = m := ⟨1, .bool true, m, rfl, rfl, rfl⟩

theorem filter_nth {α : Type} (p : α → Bool) (l : List α) (i : Nat) (hi : i < l.length) (hp : p l[i] = true) : (l.filter p)[((l.take i).filter p).length]? = some l[i] := by
 have h : l = l.take i ++ l[i] :: l.drop (i + 1) := by rw [← List.drop_eq_getElem_cons hi, List.take_append_drop]
 have h2 : l.filter p = (l.take i).filter p ++ (l[i] :: (l.drop (i + 1)).filter p) := by
  conv => lhs; rw [h]
  rw [List.filter_append, List.filter_cons, hp, if_pos rfl]
 rw [h2, List.getElem?_append_right (Nat.le_refl _), Nat.sub_self]; rfl
theorem filter_take (p : Nat → Bool) (l : List Nat) (i : Nat) (hi : i < l.length) : ((l.take (i + 1)).filter p).length = ((l.take i).filter p).length + (if p l[i] then 1 else 0) := by
 rw [List.take_add_one, List.getElem?_eq_getElem hi, Option.toList_some, List.filter_append, List.length_append]
 congr 1
 rw [List.filter_cons]
 split <;> rfl
theorem encPs_drop : ∀ (us : List (Nat × Nat)) (q : Nat) (u : Nat × Nat), us[q]? = some u → ((encPs us).drop (q * 2)).take 2 = encP u
 | [], q, u, h => by simp at h
 | x :: us, 0, u, h => by simp only [List.getElem?_cons_zero, Option.some.injEq] at h; subst h; rfl
 | x :: us, q + 1, u, h => by
  rw [List.getElem?_cons_succ] at h
  have := encPs_drop us q u h
  rw [show (q + 1) * 2 = (encP x).length + q * 2 by simp [encP]; omega]
  show ((encP x ++ encPs us).drop _).take 2 = _
  rw [← List.drop_drop, List.drop_left]; exact this
theorem fnL_nth (l : List Nd) {i n : Nat} (hi : i < n) (hf : isFnAt l i = true) : (fnL l 0 n)[(fnL l 0 i).length]? = some (i, numAt l i) := by
 have e : fnL l 0 n = fnL l 0 i ++ (fnL l i 1 ++ fnL l (i + 1) (n - i - 1)) := by
  rw [← fnL_add l i, show 1 + (n - i - 1) = n - i by omega]
  have := fnL_add l 0 i (n - i)
  rw [show i + (n - i) = n by omega, Nat.zero_add] at this
  exact this
 rw [e, List.getElem?_append_right (Nat.le_refl _), Nat.sub_self]
 have : fnL l i 1 = [(i, numAt l i)] := by unfold fnL; simp [hf]
 rw [this]; rfl
theorem fnL_succ (l : List Nd) (i : Nat) : (fnL l 0 (i + 1)).length = (fnL l 0 i).length + (if isFnAt l i then 1 else 0) := by
 rw [fnL_add, List.length_append, Nat.zero_add]
 congr 1
 unfold fnL
 simp only [List.range'_one, List.filter_cons, List.filter_nil]
 split <;> rfl
attribute [local irreducible] quiet allocs effect wp ret wpO Runs Act.tmp Act.eval fin results Tree.set binOp loadAt storeAt target wanted cellsFrom

theorem num15 (e : Int) (m : Mem) : Runs evEnv 15 [I e] m fun v m' => v = I e ∧ m' = m := by
 refine runs_start rfl rfl rfl rfl ?_
 (repeat (first | (apply G.h; constructor <;> (first | exact Rf.mk | ((first | apply Ev.mk | apply Dn.mk); (simp only [evs, Nat.reduceEqDiff, reduceIte] <;> rfl)) | apply g_wpO | (apply Bk; exact BxS) | (apply Ld.mk; (try simp only [evs]); first | rfl | fail) | apply g_wp | apply g_ret | apply g_sel | (apply Om.mk; first | omega | exact Nat.le_of_ble_eq_true rfl | fail) | ((repeat (first | exact Evp.nil | (apply Evp.cons; (focus (apply Ev.mk; (simp only [evs, Nat.reduceEqDiff, reduceIte] <;> rfl))))));done) | (apply Hy.mk; assumption) | (apply Kr.mk; decide +kernel) | fail))))
 (refine g_fin (by repeat (first | exact Rs.nil | (apply Rs.cons; (focus (apply Ev.mk; (simp only [evs, Nat.reduceEqDiff, reduceIte] <;> rfl)))))) (by (simp only [evs, Nat.reduceEqDiff, reduceIte] <;> first | rfl | (congr 1; omega) | omega)) ?_)
 exact ⟨rfl, by (simp only [evs, Nat.reduceEqDiff, reduceIte] <;> first | rfl | (congr 1; omega) | omega)⟩

theorem Ints.get {m : Mem} {v : Value} {ps : List Nat} (h : Ints m v ps) {i : Nat} (hi : i < ps.length) : ∃ kb cap r, v = .slice (some ⟨kb, 0, none⟩) ps.length cap ∧ Row m kb r 3 0 ∧ r[0 + i * 1]? = some (I (ps[i] : Nat)) := by
 rcases h with ⟨-, h⟩ | ⟨kb, cap, r, e1, e2, e3, e4, e5⟩
 ·rw [h] at hi; simp at hi
 ·refine ⟨kb, cap, r, e1, e2, ?_⟩
  have : (r.take (ps.length * 1))[i]? = some (I (ps[i] : Nat)) := by rw [e5, List.getElem?_map, List.getElem?_eq_getElem hi]; rfl
  rw [List.getElem?_take_of_lt (by omega)] at this
  rw [show 0 + i * 1 = i by omega]; exact this
theorem Ints.form {m : Mem} {v : Value} {ps : List Nat} (h : Ints m v ps) : ∃ a c, v = .slice a ps.length c := by
 rcases h with ⟨h, h2⟩ | ⟨kb, cap, r, e1, e2, e3, e4, e5⟩
 ·exact ⟨none, 0, by rw [h, h2]; rfl⟩
 ·exact ⟨_, _, e1⟩
theorem Nodes.str {m : Mem} {b off : Nat} {l : List Nd} (h : Nodes m b off l) (i : Nat) (hi : i < l.length) : loadAt evEnv m 9 b (off + i * 5 + 2) = some (encS l[i].text) := by
 obtain ⟨n, c, ty, kd, h1, h2, h3⟩ := h
 exact load_cell rfl rfl h1 (by omega) (h3 i 2 hi (by omega))
theorem Nodes.num {m : Mem} {b off : Nat} {l : List Nd} (h : Nodes m b off l) (i : Nat) (hi : i < l.length) : loadAt evEnv m 3 b (off + i * 5 + 3) = some (I l[i].num) := by
 obtain ⟨n, c, ty, kd, h1, h2, h3⟩ := h
 exact load_cell rfl rfl h1 (by omega) (h3 i 3 hi (by omega))

theorem globals7_nil (sl : Option Addr) (cap : Nat) (m : Mem) : Runs evEnv 7 [.slice sl 0 cap] m fun v _ => v = .bool true := by
 refine runs_start rfl rfl rfl rfl ?_
 (repeat (first | (apply G.h; constructor <;> (first | exact Rf.mk | ((first | apply Ev.mk | apply Dn.mk); (simp only [evs, Nat.reduceEqDiff, reduceIte] <;> rfl)) | apply g_wpO | (apply Bk; exact BxS) | (apply Ld.mk; (try simp only [evs]); first | rfl | fail) | apply g_wp | apply g_ret | apply g_sel | (apply Om.mk; first | omega | exact Nat.le_of_ble_eq_true rfl | fail) | ((repeat (first | exact Evp.nil | (apply Evp.cons; (focus (apply Ev.mk; (simp only [evs, Nat.reduceEqDiff, reduceIte] <;> rfl))))));done) | (apply Hy.mk; assumption) | (apply Kr.mk; decide +kernel) | fail))))
 ((first | apply g_run | apply g_run0 | fail) <;> (first | exact Rf.mk | ((first | apply Ev.mk | apply Dn.mk); (simp only [evs, Nat.reduceEqDiff, reduceIte] <;> rfl)) | apply g_wpO | (apply Bk; exact BxS) | (apply Ld.mk; (try simp only [evs]); first | rfl | fail) | apply g_wp | apply g_ret | apply g_sel | (apply Om.mk; first | omega | exact Nat.le_of_ble_eq_true rfl | fail) | ((repeat (first | exact Evp.nil | (apply Evp.cons; (focus (apply Ev.mk; (simp only [evs, Nat.reduceEqDiff, reduceIte] <;> rfl))))));done) | (apply Hy.mk; assumption) | (apply Kr.mk; decide +kernel) | ((repeat (first | exact Evl.nil | (apply Evl.cons; (focus (apply Ev.mk; (simp only [evs, Nat.reduceEqDiff, reduceIte] <;> rfl))))));done) | exact Rn.mk (resolve12_nil sl cap _) | apply Cn.mk | fail))
 rintro v m2 ⟨rfl, gr⟩
 have hz := row_new m2 [nilS, nilS, nilS] 31 0
 (repeat (first | (apply G.h; constructor <;> (first | exact Rf.mk | ((first | apply Ev.mk | apply Dn.mk); (simp only [evs, Nat.reduceEqDiff, reduceIte] <;> rfl)) | apply g_wpO | (apply Bk; exact BxS) | (apply Ld.mk; (try simp only [evs]); first | rfl | fail) | apply g_wp | apply g_ret | apply g_sel | (apply Om.mk; first | omega | exact Nat.le_of_ble_eq_true rfl | fail) | ((repeat (first | exact Evp.nil | (apply Evp.cons; (focus (apply Ev.mk; (simp only [evs, Nat.reduceEqDiff, reduceIte] <;> rfl))))));done) | (apply Hy.mk; assumption) | (apply Kr.mk; decide +kernel) | fail))))
 (apply g_stR <;> (first | exact Rf.mk | ((first | apply Ev.mk | apply Dn.mk); (simp only [evs, Nat.reduceEqDiff, reduceIte] <;> rfl)) | apply g_wpO | (apply Bk; exact BxS) | (apply Ld.mk; (try simp only [evs]); first | rfl | fail) | apply g_wp | apply g_ret | apply g_sel | (apply Om.mk; first | omega | exact Nat.le_of_ble_eq_true rfl | exact hz) | ((repeat (first | exact Evp.nil | (apply Evp.cons; (focus (apply Ev.mk; (simp only [evs, Nat.reduceEqDiff, reduceIte] <;> rfl))))));done) | (apply Hy.mk; (try simp only [evs]); first | exact hz | assumption | fail) | (apply Kr.mk; decide +kernel) | apply Cn.mk | ((repeat (first | exact Evl.nil | (apply Evl.cons; (focus (apply Ev.mk; (simp only [evs, Nat.reduceEqDiff, reduceIte] <;> rfl))))));done) | fail))
 intro m3 r3 o3 n3; simp only [evs] at r3 o3 n3
 (repeat (first | (apply G.h; constructor <;> (first | exact Rf.mk | ((first | apply Ev.mk | apply Dn.mk); (simp only [evs, Nat.reduceEqDiff, reduceIte] <;> rfl)) | apply g_wpO | (apply Bk; exact BxS) | (apply Ld.mk; (try simp only [evs]); first | rfl | fail) | apply g_wp | apply g_ret | apply g_sel | (apply Om.mk; first | omega | exact Nat.le_of_ble_eq_true rfl | fail) | ((repeat (first | exact Evp.nil | (apply Evp.cons; (focus (apply Ev.mk; (simp only [evs, Nat.reduceEqDiff, reduceIte] <;> rfl))))));done) | (apply Hy.mk; assumption) | (apply Kr.mk; decide +kernel) | fail))))
 ((first | apply g_run | apply g_run0 | fail) <;> (first | exact Rf.mk | ((first | apply Ev.mk | apply Dn.mk); (simp only [evs, Nat.reduceEqDiff, reduceIte] <;> rfl)) | apply g_wpO | (apply Bk; exact BxS) | (apply Ld.mk; (try simp only [evs]); first | rfl | fail) | apply g_wp | apply g_ret | apply g_sel | (apply Om.mk; first | omega | exact Nat.le_of_ble_eq_true rfl | fail) | ((repeat (first | exact Evp.nil | (apply Evp.cons; (focus (apply Ev.mk; (simp only [evs, Nat.reduceEqDiff, reduceIte] <;> rfl))))));done) | (apply Hy.mk; assumption) | (apply Kr.mk; decide +kernel) | ((repeat (first | exact Evl.nil | (apply Evl.cons; (focus (apply Ev.mk; (simp only [evs, Nat.reduceEqDiff, reduceIte] <;> rfl))))));done) | exact Rn.mk (num15 6 _) | apply Cn.mk | fail))
 rintro v m4 ⟨rfl, rfl⟩
 (repeat (first | (apply G.h; constructor <;> (first | exact Rf.mk | ((first | apply Ev.mk | apply Dn.mk); (simp only [evs, Nat.reduceEqDiff, reduceIte] <;> rfl)) | apply g_wpO | (apply Bk; exact BxS) | (apply Ld.mk; (try simp only [evs]); first | rfl | fail) | apply g_wp | apply g_ret | apply g_sel | (apply Om.mk; first | omega | exact Nat.le_of_ble_eq_true rfl | fail) | ((repeat (first | exact Evp.nil | (apply Evp.cons; (focus (apply Ev.mk; (simp only [evs, Nat.reduceEqDiff, reduceIte] <;> rfl))))));done) | (apply Hy.mk; assumption) | (apply Kr.mk; decide +kernel) | fail))))
 ((first | apply g_run | apply g_run0 | fail) <;> (first | exact Rf.mk | ((first | apply Ev.mk | apply Dn.mk); (simp only [evs, Nat.reduceEqDiff, reduceIte] <;> rfl)) | apply g_wpO | (apply Bk; exact BxS) | (apply Ld.mk; (try simp only [evs]); first | rfl | fail) | apply g_wp | apply g_ret | apply g_sel | (apply Om.mk; first | omega | exact Nat.le_of_ble_eq_true rfl | fail) | ((repeat (first | exact Evp.nil | (apply Evp.cons; (focus (apply Ev.mk; (simp only [evs, Nat.reduceEqDiff, reduceIte] <;> rfl))))));done) | (apply Hy.mk; assumption) | (apply Kr.mk; decide +kernel) | ((repeat (first | exact Evl.nil | (apply Evl.cons; (focus (apply Ev.mk; (simp only [evs, Nat.reduceEqDiff, reduceIte] <;> rfl))))));done) | exact Rn.mk (live10 _) | apply Cn.mk | fail))
 rintro v m5 ⟨rfl, rfl⟩
 (repeat (first | (apply G.h; constructor <;> (first | exact Rf.mk | ((first | apply Ev.mk | apply Dn.mk); (simp only [evs, Nat.reduceEqDiff, reduceIte] <;> rfl)) | apply g_wpO | (apply Bk; exact BxS) | (apply Ld.mk; (try simp only [evs]); first | rfl | fail) | apply g_wp | apply g_ret | apply g_sel | (apply Om.mk; first | omega | exact Nat.le_of_ble_eq_true rfl | fail) | ((repeat (first | exact Evp.nil | (apply Evp.cons; (focus (apply Ev.mk; (simp only [evs, Nat.reduceEqDiff, reduceIte] <;> rfl))))));done) | (apply Hy.mk; assumption) | (apply Kr.mk; decide +kernel) | fail))))
 (refine g_fin (by repeat (first | exact Rs.nil | (apply Rs.cons; (focus (apply Ev.mk; (simp only [evs, Nat.reduceEqDiff, reduceIte] <;> rfl)))))) (by (simp only [evs, Nat.reduceEqDiff, reduceIte] <;> first | rfl | (congr 1; omega) | omega)) ?_)
 rfl
theorem globals7_long (sl : Option Addr) (n cap : Nat) (hn : 400 < n) (hn2 : n ≤ 9223372036854775807) (m : Mem) : Runs evEnv 7 [.slice sl n cap] m fun v _ => v = .bool true := by
 refine runs_start rfl rfl rfl rfl ?_
 (repeat (first | (apply G.h; constructor <;> (first | exact Rf.mk | ((first | apply Ev.mk | apply Dn.mk); (simp only [evs, Nat.reduceEqDiff, reduceIte] <;> rfl)) | apply g_wpO | (apply Bk; exact BxS) | (apply Ld.mk; (try simp only [evs]); first | rfl | fail) | apply g_wp | apply g_ret | apply g_sel | (apply Om.mk; first | omega | exact Nat.le_of_ble_eq_true rfl | fail) | ((repeat (first | exact Evp.nil | (apply Evp.cons; (focus (apply Ev.mk; (simp only [evs, Nat.reduceEqDiff, reduceIte] <;> rfl))))));done) | (apply Hy.mk; assumption) | (apply Kr.mk; decide +kernel) | fail))))
 ((first | apply g_run | apply g_run0 | fail) <;> (first | exact Rf.mk | ((first | apply Ev.mk | apply Dn.mk); (simp only [evs, Nat.reduceEqDiff, reduceIte] <;> rfl)) | apply g_wpO | (apply Bk; exact BxS) | (apply Ld.mk; (try simp only [evs]); first | rfl | fail) | apply g_wp | apply g_ret | apply g_sel | (apply Om.mk; first | omega | exact Nat.le_of_ble_eq_true rfl | fail) | ((repeat (first | exact Evp.nil | (apply Evp.cons; (focus (apply Ev.mk; (simp only [evs, Nat.reduceEqDiff, reduceIte] <;> rfl))))));done) | (apply Hy.mk; assumption) | (apply Kr.mk; decide +kernel) | ((repeat (first | exact Evl.nil | (apply Evl.cons; (focus (apply Ev.mk; (simp only [evs, Nat.reduceEqDiff, reduceIte] <;> rfl))))));done) | exact Rn.mk (live10 _) | apply Cn.mk | fail))
 rintro v m5 ⟨rfl, rfl⟩
 (repeat (first | (apply G.h; constructor <;> (first | exact Rf.mk | ((first | apply Ev.mk | apply Dn.mk); (simp only [evs, Nat.reduceEqDiff, reduceIte] <;> rfl)) | apply g_wpO | (apply Bk; exact BxS) | (apply Ld.mk; (try simp only [evs]); first | rfl | fail) | apply g_wp | apply g_ret | apply g_sel | (apply Om.mk; first | omega | exact Nat.le_of_ble_eq_true rfl | fail) | ((repeat (first | exact Evp.nil | (apply Evp.cons; (focus (apply Ev.mk; (simp only [evs, Nat.reduceEqDiff, reduceIte] <;> rfl))))));done) | (apply Hy.mk; assumption) | (apply Kr.mk; decide +kernel) | fail))))
 (refine g_fin (by repeat (first | exact Rs.nil | (apply Rs.cons; (focus (apply Ev.mk; (simp only [evs, Nat.reduceEqDiff, reduceIte] <;> rfl)))))) (by (simp only [evs, Nat.reduceEqDiff, reduceIte] <;> first | rfl | (congr 1; omega) | omega)) ?_)
 rfl

set_option maxHeartbeats 4000000 in
theorem globals7 (b off cap : Nat) (l : List Nd) (hok : ∀ x ∈ l, x.ok ∧ x.text.length ≤ 9223372036854775807) (hl : l.length ≤ 400) (hne : l ≠ []) (m : Mem) (hN : Nodes m b off l) (hNm : Names m) (hbn : b < m.next) (h0 : 0 < m.next) :
  Runs evEnv 7 [.slice (some ⟨b, off, none⟩) l.length cap] m fun v _ => v = .bool true := by
 have hpos : 0 < l.length := List.length_pos_iff.2 hne
 refine runs_start rfl rfl rfl rfl ?_
 (repeat (first | (apply G.h; constructor <;> (first | exact Rf.mk | ((first | apply Ev.mk | apply Dn.mk); (simp only [evs, Nat.reduceEqDiff, reduceIte] <;> rfl)) | apply g_wpO | (apply Bk; exact BxS) | (apply Ld.mk; (try simp only [evs]); first | rfl | fail) | apply g_wp | apply g_ret | apply g_sel | (apply Om.mk; first | omega | exact Nat.le_of_ble_eq_true rfl | fail) | ((repeat (first | exact Evp.nil | (apply Evp.cons; (focus (apply Ev.mk; (simp only [evs, Nat.reduceEqDiff, reduceIte] <;> rfl))))));done) | (apply Hy.mk; assumption) | (apply Kr.mk; decide +kernel) | fail))))
 ((first | apply g_run | apply g_run0 | fail) <;> (first | exact Rf.mk | ((first | apply Ev.mk | apply Dn.mk); (simp only [evs, Nat.reduceEqDiff, reduceIte] <;> rfl)) | apply g_wpO | (apply Bk; exact BxS) | (apply Ld.mk; (try simp only [evs]); first | rfl | fail) | apply g_wp | apply g_ret | apply g_sel | (apply Om.mk; first | omega | exact Nat.le_of_ble_eq_true rfl | fail) | ((repeat (first | exact Evp.nil | (apply Evp.cons; (focus (apply Ev.mk; (simp only [evs, Nat.reduceEqDiff, reduceIte] <;> rfl))))));done) | (apply Hy.mk; assumption) | (apply Kr.mk; decide +kernel) | ((repeat (first | exact Evl.nil | (apply Evl.cons; (focus (apply Ev.mk; (simp only [evs, Nat.reduceEqDiff, reduceIte] <;> rfl))))));done) | exact Rn.mk (resolve12 b off cap l hok hl hne _ (by simp only [evs]; exact hN) (by simp only [evs]; exact hNm) (by simp only [evs]; exact hbn) (by simp only [evs]; exact h0)) | apply Cn.mk | fail))
 rintro v m2 ⟨k2, hres⟩
 try simp only [evs] at k2
 have hN2 : Nodes m2 b off l := hN.stay (X := fun c => c < m.next) hbn hbn k2
 have hbn2 : b < m2.next := Nat.lt_of_lt_of_le hbn k2.1
 rcases hres with ⟨hp, e, he, rfl⟩ | ⟨hp, ⟨he, rfl⟩ | ⟨he, fv, uv, gv, cvs, rfl, sf, cf, su, sg⟩⟩
 ·have hz := row_new m2 [nilS, nilS, nilS] 31 0
  (repeat (first | (apply G.h; constructor <;> (first | exact Rf.mk | ((first | apply Ev.mk | apply Dn.mk); (simp only [evs, Nat.reduceEqDiff, reduceIte] <;> rfl)) | apply g_wpO | (apply Bk; exact BxS) | (apply Ld.mk; (try simp only [evs]); first | rfl | fail) | apply g_wp | apply g_ret | apply g_sel | (apply Om.mk; first | omega | exact Nat.le_of_ble_eq_true rfl | fail) | ((repeat (first | exact Evp.nil | (apply Evp.cons; (focus (apply Ev.mk; (simp only [evs, Nat.reduceEqDiff, reduceIte] <;> rfl))))));done) | (apply Hy.mk; assumption) | (apply Kr.mk; decide +kernel) | fail))))
  (apply g_stR <;> (first | exact Rf.mk | ((first | apply Ev.mk | apply Dn.mk); (simp only [evs, Nat.reduceEqDiff, reduceIte] <;> rfl)) | apply g_wpO | (apply Bk; exact BxS) | (apply Ld.mk; (try simp only [evs]); first | rfl | fail) | apply g_wp | apply g_ret | apply g_sel | (apply Om.mk; first | omega | exact Nat.le_of_ble_eq_true rfl | exact hz) | ((repeat (first | exact Evp.nil | (apply Evp.cons; (focus (apply Ev.mk; (simp only [evs, Nat.reduceEqDiff, reduceIte] <;> rfl))))));done) | (apply Hy.mk; (try simp only [evs]); first | exact hz | assumption | fail) | (apply Kr.mk; decide +kernel) | apply Cn.mk | ((repeat (first | exact Evl.nil | (apply Evl.cons; (focus (apply Ev.mk; (simp only [evs, Nat.reduceEqDiff, reduceIte] <;> rfl))))));done) | fail))
  intro m3 r3 o3 n3; simp only [evs] at r3 o3 n3
  (repeat (first | (apply G.h; constructor <;> (first | exact Rf.mk | ((first | apply Ev.mk | apply Dn.mk); (simp only [evs, Nat.reduceEqDiff, reduceIte] <;> rfl)) | apply g_wpO | (apply Bk; exact BxS) | (apply Ld.mk; (try simp only [evs]); first | rfl | fail) | apply g_wp | apply g_ret | apply g_sel | (apply Om.mk; first | omega | exact Nat.le_of_ble_eq_true rfl | fail) | ((repeat (first | exact Evp.nil | (apply Evp.cons; (focus (apply Ev.mk; (simp only [evs, Nat.reduceEqDiff, reduceIte] <;> rfl))))));done) | (apply Hy.mk; assumption) | (apply Kr.mk; decide +kernel) | fail))))
  ((first | apply g_run | apply g_run0 | fail) <;> (first | exact Rf.mk | ((first | apply Ev.mk | apply Dn.mk); (simp only [evs, Nat.reduceEqDiff, reduceIte] <;> rfl)) | apply g_wpO | (apply Bk; exact BxS) | (apply Ld.mk; (try simp only [evs]); first | rfl | fail) | apply g_wp | apply g_ret | apply g_sel | (apply Om.mk; first | omega | exact Nat.le_of_ble_eq_true rfl | fail) | ((repeat (first | exact Evp.nil | (apply Evp.cons; (focus (apply Ev.mk; (simp only [evs, Nat.reduceEqDiff, reduceIte] <;> rfl))))));done) | (apply Hy.mk; assumption) | (apply Kr.mk; decide +kernel) | ((repeat (first | exact Evl.nil | (apply Evl.cons; (focus (apply Ev.mk; (simp only [evs, Nat.reduceEqDiff, reduceIte] <;> rfl))))));done) | exact Rn.mk (num15 e _) | apply Cn.mk | fail))
  rintro v m4 ⟨rfl, rfl⟩
  (repeat (first | (apply G.h; constructor <;> (first | exact Rf.mk | ((first | apply Ev.mk | apply Dn.mk); (simp only [evs, Nat.reduceEqDiff, reduceIte] <;> rfl)) | apply g_wpO | (apply Bk; exact BxS) | (apply Ld.mk; (try simp only [evs]); first | rfl | fail) | apply g_wp | apply g_ret | apply g_sel | (apply Om.mk; first | omega | exact Nat.le_of_ble_eq_true rfl | fail) | ((repeat (first | exact Evp.nil | (apply Evp.cons; (focus (apply Ev.mk; (simp only [evs, Nat.reduceEqDiff, reduceIte] <;> rfl))))));done) | (apply Hy.mk; assumption) | (apply Kr.mk; decide +kernel) | fail))))
  ((first | apply g_run | apply g_run0 | fail) <;> (first | exact Rf.mk | ((first | apply Ev.mk | apply Dn.mk); (simp only [evs, Nat.reduceEqDiff, reduceIte] <;> rfl)) | apply g_wpO | (apply Bk; exact BxS) | (apply Ld.mk; (try simp only [evs]); first | rfl | fail) | apply g_wp | apply g_ret | apply g_sel | (apply Om.mk; first | omega | exact Nat.le_of_ble_eq_true rfl | fail) | ((repeat (first | exact Evp.nil | (apply Evp.cons; (focus (apply Ev.mk; (simp only [evs, Nat.reduceEqDiff, reduceIte] <;> rfl))))));done) | (apply Hy.mk; assumption) | (apply Kr.mk; decide +kernel) | ((repeat (first | exact Evl.nil | (apply Evl.cons; (focus (apply Ev.mk; (simp only [evs, Nat.reduceEqDiff, reduceIte] <;> rfl))))));done) | exact Rn.mk (live10 _) | apply Cn.mk | fail))
  rintro v m5 ⟨rfl, rfl⟩
  (repeat (first | (apply G.h; constructor <;> (first | exact Rf.mk | ((first | apply Ev.mk | apply Dn.mk); (simp only [evs, Nat.reduceEqDiff, reduceIte] <;> rfl)) | apply g_wpO | (apply Bk; exact BxS) | (apply Ld.mk; (try simp only [evs]); first | rfl | fail) | apply g_wp | apply g_ret | apply g_sel | (apply Om.mk; first | omega | exact Nat.le_of_ble_eq_true rfl | fail) | ((repeat (first | exact Evp.nil | (apply Evp.cons; (focus (apply Ev.mk; (simp only [evs, Nat.reduceEqDiff, reduceIte] <;> rfl))))));done) | (apply Hy.mk; assumption) | (apply Kr.mk; decide +kernel) | fail))))
  (refine g_fin (by repeat (first | exact Rs.nil | (apply Rs.cons; (focus (apply Ev.mk; (simp only [evs, Nat.reduceEqDiff, reduceIte] <;> rfl)))))) (by (simp only [evs, Nat.reduceEqDiff, reduceIte] <;> first | rfl | (congr 1; omega) | omega)) ?_)
  rfl
 ·generalize walked l = W at he
  have hz := row_new m2 [nilS, nilS, nilS] 31 0
  (repeat (first | (apply G.h; constructor <;> (first | exact Rf.mk | ((first | apply Ev.mk | apply Dn.mk); (simp only [evs, Nat.reduceEqDiff, reduceIte] <;> rfl)) | apply g_wpO | (apply Bk; exact BxS) | (apply Ld.mk; (try simp only [evs]); first | rfl | fail) | apply g_wp | apply g_ret | apply g_sel | (apply Om.mk; first | omega | exact Nat.le_of_ble_eq_true rfl | fail) | ((repeat (first | exact Evp.nil | (apply Evp.cons; (focus (apply Ev.mk; (simp only [evs, Nat.reduceEqDiff, reduceIte] <;> rfl))))));done) | (apply Hy.mk; assumption) | (apply Kr.mk; decide +kernel) | fail))))
  (apply g_stR <;> (first | exact Rf.mk | ((first | apply Ev.mk | apply Dn.mk); (simp only [evs, Nat.reduceEqDiff, reduceIte] <;> rfl)) | apply g_wpO | (apply Bk; exact BxS) | (apply Ld.mk; (try simp only [evs]); first | rfl | fail) | apply g_wp | apply g_ret | apply g_sel | (apply Om.mk; first | omega | exact Nat.le_of_ble_eq_true rfl | exact hz) | ((repeat (first | exact Evp.nil | (apply Evp.cons; (focus (apply Ev.mk; (simp only [evs, Nat.reduceEqDiff, reduceIte] <;> rfl))))));done) | (apply Hy.mk; (try simp only [evs]); first | exact hz | assumption | fail) | (apply Kr.mk; decide +kernel) | apply Cn.mk | ((repeat (first | exact Evl.nil | (apply Evl.cons; (focus (apply Ev.mk; (simp only [evs, Nat.reduceEqDiff, reduceIte] <;> rfl))))));done) | fail))
  intro m3 r3 o3 n3; simp only [evs] at r3 o3 n3
  (repeat (first | (apply G.h; constructor <;> (first | exact Rf.mk | ((first | apply Ev.mk | apply Dn.mk); (simp only [evs, Nat.reduceEqDiff, reduceIte] <;> rfl)) | apply g_wpO | (apply Bk; exact BxS) | (apply Ld.mk; (try simp only [evs]); first | rfl | fail) | apply g_wp | apply g_ret | apply g_sel | (apply Om.mk; first | omega | exact Nat.le_of_ble_eq_true rfl | fail) | ((repeat (first | exact Evp.nil | (apply Evp.cons; (focus (apply Ev.mk; (simp only [evs, Nat.reduceEqDiff, reduceIte] <;> rfl))))));done) | (apply Hy.mk; assumption) | (apply Kr.mk; decide +kernel) | fail))))
  ((first | apply g_run | apply g_run0 | fail) <;> (first | exact Rf.mk | ((first | apply Ev.mk | apply Dn.mk); (simp only [evs, Nat.reduceEqDiff, reduceIte] <;> rfl)) | apply g_wpO | (apply Bk; exact BxS) | (apply Ld.mk; (try simp only [evs]); first | rfl | fail) | apply g_wp | apply g_ret | apply g_sel | (apply Om.mk; first | omega | exact Nat.le_of_ble_eq_true rfl | fail) | ((repeat (first | exact Evp.nil | (apply Evp.cons; (focus (apply Ev.mk; (simp only [evs, Nat.reduceEqDiff, reduceIte] <;> rfl))))));done) | (apply Hy.mk; assumption) | (apply Kr.mk; decide +kernel) | ((repeat (first | exact Evl.nil | (apply Evl.cons; (focus (apply Ev.mk; (simp only [evs, Nat.reduceEqDiff, reduceIte] <;> rfl))))));done) | exact Rn.mk (num15 W.e _) | apply Cn.mk | fail))
  rintro v m4 ⟨rfl, rfl⟩
  (repeat (first | (apply G.h; constructor <;> (first | exact Rf.mk | ((first | apply Ev.mk | apply Dn.mk); (simp only [evs, Nat.reduceEqDiff, reduceIte] <;> rfl)) | apply g_wpO | (apply Bk; exact BxS) | (apply Ld.mk; (try simp only [evs]); first | rfl | fail) | apply g_wp | apply g_ret | apply g_sel | (apply Om.mk; first | omega | exact Nat.le_of_ble_eq_true rfl | fail) | ((repeat (first | exact Evp.nil | (apply Evp.cons; (focus (apply Ev.mk; (simp only [evs, Nat.reduceEqDiff, reduceIte] <;> rfl))))));done) | (apply Hy.mk; assumption) | (apply Kr.mk; decide +kernel) | fail))))
  ((first | apply g_run | apply g_run0 | fail) <;> (first | exact Rf.mk | ((first | apply Ev.mk | apply Dn.mk); (simp only [evs, Nat.reduceEqDiff, reduceIte] <;> rfl)) | apply g_wpO | (apply Bk; exact BxS) | (apply Ld.mk; (try simp only [evs]); first | rfl | fail) | apply g_wp | apply g_ret | apply g_sel | (apply Om.mk; first | omega | exact Nat.le_of_ble_eq_true rfl | fail) | ((repeat (first | exact Evp.nil | (apply Evp.cons; (focus (apply Ev.mk; (simp only [evs, Nat.reduceEqDiff, reduceIte] <;> rfl))))));done) | (apply Hy.mk; assumption) | (apply Kr.mk; decide +kernel) | ((repeat (first | exact Evl.nil | (apply Evl.cons; (focus (apply Ev.mk; (simp only [evs, Nat.reduceEqDiff, reduceIte] <;> rfl))))));done) | exact Rn.mk (live10 _) | apply Cn.mk | fail))
  rintro v m5 ⟨rfl, rfl⟩
  (repeat (first | (apply G.h; constructor <;> (first | exact Rf.mk | ((first | apply Ev.mk | apply Dn.mk); (simp only [evs, Nat.reduceEqDiff, reduceIte] <;> rfl)) | apply g_wpO | (apply Bk; exact BxS) | (apply Ld.mk; (try simp only [evs]); first | rfl | fail) | apply g_wp | apply g_ret | apply g_sel | (apply Om.mk; first | omega | exact Nat.le_of_ble_eq_true rfl | fail) | ((repeat (first | exact Evp.nil | (apply Evp.cons; (focus (apply Ev.mk; (simp only [evs, Nat.reduceEqDiff, reduceIte] <;> rfl))))));done) | (apply Hy.mk; assumption) | (apply Kr.mk; decide +kernel) | fail))))
  (refine g_fin (by repeat (first | exact Rs.nil | (apply Rs.cons; (focus (apply Ev.mk; (simp only [evs, Nat.reduceEqDiff, reduceIte] <;> rfl)))))) (by (simp only [evs, Nat.reduceEqDiff, reduceIte] <;> first | rfl | (congr 1; omega) | omega)) ?_)
  rfl
 ·obtain ⟨w1, w2, w3, w4⟩ := walked_globals hp hl hpos he
  have P := okProg_prg hp
  have hall := (prog_D hp).1
  generalize walked l = W at he w1 w2 w3 w4 sf cf su sg
  obtain ⟨fa, fn, fc, rfl, fl⟩ := sf.form (by decide)
  obtain ⟨ua, un, uc, rfl, ul⟩ := su.form (by decide)
  obtain ⟨ga, gn, gc, rfl, gl⟩ := sg.form (by decide)
  have hfn : fn = W.funs.length := by rw [encFns_len _ _ cf.1] at fl; omega
  have hgn : gn = ((tops l).filter (isDecl l)).length := by rw [w1] at gl; simp at gl; omega
  generalize hus : finish W.decls W.means W.uses = us at w2 su ul
  have hz := row_new m2 [nilS, nilS, nilS] 31 0
  (repeat (first | (apply G.h; constructor <;> (first | exact Rf.mk | ((first | apply Ev.mk | apply Dn.mk); (simp only [evs, Nat.reduceEqDiff, reduceIte] <;> rfl)) | apply g_wpO | (apply Bk; exact BxS) | (apply Ld.mk; (try simp only [evs]); first | rfl | fail) | apply g_wp | apply g_ret | apply g_sel | (apply Om.mk; first | omega | exact Nat.le_of_ble_eq_true rfl | fail) | ((repeat (first | exact Evp.nil | (apply Evp.cons; (focus (apply Ev.mk; (simp only [evs, Nat.reduceEqDiff, reduceIte] <;> rfl))))));done) | (apply Hy.mk; assumption) | (apply Kr.mk; decide +kernel) | fail))))
  (apply g_stR <;> (first | exact Rf.mk | ((first | apply Ev.mk | apply Dn.mk); (simp only [evs, Nat.reduceEqDiff, reduceIte] <;> rfl)) | apply g_wpO | (apply Bk; exact BxS) | (apply Ld.mk; (try simp only [evs]); first | rfl | fail) | apply g_wp | apply g_ret | apply g_sel | (apply Om.mk; first | omega | exact Nat.le_of_ble_eq_true rfl | exact hz) | ((repeat (first | exact Evp.nil | (apply Evp.cons; (focus (apply Ev.mk; (simp only [evs, Nat.reduceEqDiff, reduceIte] <;> rfl))))));done) | (apply Hy.mk; (try simp only [evs]); first | exact hz | assumption | fail) | (apply Kr.mk; decide +kernel) | apply Cn.mk | ((repeat (first | exact Evl.nil | (apply Evl.cons; (focus (apply Ev.mk; (simp only [evs, Nat.reduceEqDiff, reduceIte] <;> rfl))))));done) | fail))
  intro m3 r3 o3 n3; simp only [evs] at r3 o3 n3
  have gr3 : Grow m2 m3 := ((Grow.refl m2).new _).wrote (Nat.le_refl _) o3 n3
  have hN3 := hN2.grow hbn2 gr3
  have hk20 := kids34 b off cap l (fun x hx => ⟨P.pos x hx, (hok x hx).1.2.1.2⟩) (by omega) 0 l.length m3 hpos hN3 (Nat.lt_of_lt_of_le hbn2 gr3.1) (by simpa using hall)
  (repeat (first | (apply G.h; constructor <;> (first | exact Rf.mk | ((first | apply Ev.mk | apply Dn.mk); (simp only [evs, Nat.reduceEqDiff, reduceIte] <;> rfl)) | apply g_wpO | (apply Bk; exact BxS) | (apply Ld.mk; (try simp only [evs]); first | rfl | fail) | apply g_wp | apply g_ret | apply g_sel | (apply Om.mk; first | omega | exact Nat.le_of_ble_eq_true rfl | fail) | ((repeat (first | exact Evp.nil | (apply Evp.cons; (focus (apply Ev.mk; (simp only [evs, Nat.reduceEqDiff, reduceIte] <;> rfl))))));done) | (apply Hy.mk; assumption) | (apply Kr.mk; decide +kernel) | fail))))
  ((first | apply g_run | apply g_run0 | fail) <;> (first | exact Rf.mk | ((first | apply Ev.mk | apply Dn.mk); (simp only [evs, Nat.reduceEqDiff, reduceIte] <;> rfl)) | apply g_wpO | (apply Bk; exact BxS) | (apply Ld.mk; (try simp only [evs]); first | rfl | fail) | apply g_wp | apply g_ret | apply g_sel | (apply Om.mk; first | omega | exact Nat.le_of_ble_eq_true rfl | fail) | ((repeat (first | exact Evp.nil | (apply Evp.cons; (focus (apply Ev.mk; (simp only [evs, Nat.reduceEqDiff, reduceIte] <;> rfl))))));done) | (apply Hy.mk; assumption) | (apply Kr.mk; decide +kernel) | ((repeat (first | exact Evl.nil | (apply Evl.cons; (focus (apply Ev.mk; (simp only [evs, Nat.reduceEqDiff, reduceIte] <;> rfl))))));done) | exact Rn.mk (num15 0 _) | apply Cn.mk | fail))
  rintro v m4 ⟨rfl, rfl⟩
  (repeat (first | (apply G.h; constructor <;> (first | exact Rf.mk | ((first | apply Ev.mk | apply Dn.mk); (simp only [evs, Nat.reduceEqDiff, reduceIte] <;> rfl)) | apply g_wpO | (apply Bk; exact BxS) | (apply Ld.mk; (try simp only [evs]); first | rfl | fail) | apply g_wp | apply g_ret | apply g_sel | (apply Om.mk; first | omega | exact Nat.le_of_ble_eq_true rfl | fail) | ((repeat (first | exact Evp.nil | (apply Evp.cons; (focus (apply Ev.mk; (simp only [evs, Nat.reduceEqDiff, reduceIte] <;> rfl))))));done) | (apply Hy.mk; assumption) | (apply Kr.mk; decide +kernel) | fail))))
  ((first | apply g_run | apply g_run0 | fail) <;> (first | exact Rf.mk | ((first | apply Ev.mk | apply Dn.mk); (simp only [evs, Nat.reduceEqDiff, reduceIte] <;> rfl)) | apply g_wpO | (apply Bk; exact BxS) | (apply Ld.mk; (try simp only [evs]); first | rfl | fail) | apply g_wp | apply g_ret | apply g_sel | (apply Om.mk; first | omega | exact Nat.le_of_ble_eq_true rfl | fail) | ((repeat (first | exact Evp.nil | (apply Evp.cons; (focus (apply Ev.mk; (simp only [evs, Nat.reduceEqDiff, reduceIte] <;> rfl))))));done) | (apply Hy.mk; assumption) | (apply Kr.mk; decide +kernel) | ((repeat (first | exact Evl.nil | (apply Evl.cons; (focus (apply Ev.mk; (simp only [evs, Nat.reduceEqDiff, reduceIte] <;> rfl))))));done) | exact Rn.mk ((by simp only [evs]; exact hk20)) | apply Cn.mk | fail))
  rintro v m5 ⟨gr5, hI⟩
  try simp only [evs] at gr5
  have htops : kidsP l l[0].n.toNat (0 + 1) = tops l := by unfold tops; rw [List.getElem?_eq_getElem hpos]
  rw [htops] at hI
  have g25 : Grow m2 m5 := gr3.trans gr5
  have hN5 := hN3.grow (Nat.lt_of_lt_of_le hbn2 gr3.1) gr5
  have r35 := r3.grow gr5
  have sf5 := sf.grow g25
  have su5 := su.grow g25
  have sg5 := sg.grow g25
  obtain ⟨ka, kc, rfl⟩ := hI.form
  obtain ⟨c0, ht0, hc0⟩ := P.tp hpos hall
  have htl : ∀ q ∈ tops l, q < l.length := fun q hq => by
   rw [ht0] at hq
   have := kidsP_lt P c0 1 _ hc0 q hq
   omega
  have htn : (tops l).length ≤ 400 := by
   rw [ht0, kidsP_len]
   have := (D_le _ _ _ hc0).1
   omega
  (repeat (first | (apply G.h; constructor <;> (first | exact Rf.mk | ((first | apply Ev.mk | apply Dn.mk); (simp only [evs, Nat.reduceEqDiff, reduceIte] <;> rfl)) | apply g_wpO | (apply Bk; exact BxS) | (apply Ld.mk; (try simp only [evs]); first | rfl | fail) | apply g_wp | apply g_ret | apply g_sel | (apply Om.mk; first | omega | exact Nat.le_of_ble_eq_true rfl | fail) | ((repeat (first | exact Evp.nil | (apply Evp.cons; (focus (apply Ev.mk; (simp only [evs, Nat.reduceEqDiff, reduceIte] <;> rfl))))));done) | (apply Hy.mk; assumption) | (apply Kr.mk; decide +kernel) | fail))))
  refine ewp_loop (ι := Nat) (fun i a => (a.n = 155 ∧ a.defers = [] ∧ a.tmp 0 = .slice (some ⟨b, off, none⟩) l.length cap ∧ a.tmp 3 = ptr m2.next ∧ a.tmp 6 = .slice ka (tops l).length kc ∧ a.tmp 7 = I (((tops l).take i).filter (isDecl l)).length ∧ a.tmp 8 = I i) ∧ a.m = m5 ∧ i ≤ (tops l).length) (fun i => (tops l).length - i) 0 ?_ ?_
  ·exact ⟨(by refine ⟨?_, ?_, ?_, ?_, ?_, ?_, ?_⟩ <;> (simp only [evs, Nat.reduceEqDiff, reduceIte] <;> first | rfl | (congr 1; omega) | omega)), by (simp only [evs, Nat.reduceEqDiff, reduceIte] <;> first | rfl | (congr 1; omega) | omega), Nat.zero_le _⟩
  rintro i a ⟨⟨qn, qd, q0, q3, q6, q7, q8⟩, qm, hi⟩ ih
  rcases Nat.lt_or_ge i (tops l).length with hlt | hge
  ·obtain ⟨kb, kcap, kr, e1, e2, e3⟩ := hI.get hlt
   cases e1
   have hq := htl _ (List.getElem_mem hlt)
   have hsucc := filter_take (isDecl l) (tops l) i hlt
   have hnth := filter_nth (isDecl l) (tops l) i hlt
   generalize (tops l)[i] = qq at e3 hq hsucc hnth
   have hkn := hN5.kind qq hq
   have hst := hN5.str qq hq
   have hdec : isDecl l qq = decide (l[qq].kind = 3 ∨ l[qq].kind = 12) := by unfold isDecl; rw [List.getElem?_eq_getElem hq]
   have hnm : nameAt l qq = l[qq].text := by unfold nameAt; rw [List.getElem?_eq_getElem hq]
   generalize l[qq].kind = kd at hkn hdec
   generalize l[qq].text = tx at hst hnm
   generalize hnn : (((tops l).take i).filter (isDecl l)).length = nn at q7 hsucc hnth
   have hnb : nn ≤ 400 := by
    rw [← hnn]
    exact Nat.le_trans (List.length_filter_le _ _) (by rw [List.length_take]; omega)
   by_cases hd : kd = 3 ∨ kd = 12
   ·rw [decide_eq_true hd] at hdec
    rw [hdec, if_pos rfl] at hsucc
    have hnth' := hnth hdec
    have hng : nn < gn := by rw [hgn]; exact (List.getElem?_eq_some_iff.1 hnth').1
    obtain ⟨gb, gcap, gr, gn', y1, y2, y3, y4, y5, y6, y7⟩ := sg5.at (i := nn) (by rw [gl]; omega)
    cases y1
    have hgr : gr[0 + nn * 1]? = some (encS tx) := by
     rw [show 0 + nn * 1 = nn by omega, y7, w1, List.map_map, List.getElem?_map, hnth']
     show some (encS (nameAt l qq)) = _
     rw [hnm]
    have huq := w2 nn qq hnth'
    have hql : qq < us.length := (List.getElem?_eq_some_iff.1 huq).1
    have hun : us.length = un := by rw [encPs_len] at ul; omega
    obtain ⟨ub, ucap, ur, un', z1, z2, z3, z4, z5, z6, z7⟩ := su5.at (i := qq * 2) (by rw [encPs_len]; omega)
    cases z1
    have hur0 : un * 2 ≤ uc * 2 := Nat.mul_le_mul_right _ z5
    have hur : (ur.drop (0 + qq * 2)).take 2 = [I 4, I nn] := by
     have q := encPs_drop us qq _ huq
     rw [z6, List.drop_take, List.take_take, Nat.min_eq_left (by omega)] at q
     rw [Nat.zero_add]; exact q
    have hurl : 0 + qq * 2 + 2 ≤ ur.length := by omega
    rcases (show kd = 3 ∨ (kd ≠ 3 ∧ kd = 12) by omega) with h3 | ⟨h3, h12⟩
    all_goals
     (repeat (first | (apply G.h; constructor <;> (first | exact Rf.mk | ((first | apply Ev.mk | apply Dn.mk); (simp only [evs, Nat.reduceEqDiff, reduceIte, qn, qd, q0, q3, q6, q7, q8, qm] <;> rfl)) | apply g_wpO | (apply Bk; exact BxS) | (apply Ld.mk; (try simp only [evs, qn, qd, q0, q3, q6, q7, q8, qm]); first | exact e2.load1 rfl rfl e3 | exact hkn | exact hst | exact r35.load1 rfl rfl rfl | exact y3.load1 rfl rfl hgr | exact z3.loadA rfl rfl rfl hurl hur | fail) | apply g_wp | apply g_ret | apply g_sel | (apply Om.mk; first | omega | exact Nat.le_of_ble_eq_true rfl | fail) | ((repeat (first | exact Evp.nil | (apply Evp.cons; (focus (apply Ev.mk; (simp only [evs, Nat.reduceEqDiff, reduceIte, qn, qd, q0, q3, q6, q7, q8, qm] <;> rfl))))));done) | (apply Hy.mk; assumption) | (apply Kr.mk; decide +kernel) | fail))))
     refine ih (i + 1) _ ⟨(by refine ⟨?_, ?_, ?_, ?_, ?_, ?_, ?_⟩ <;> (simp only [evs, Nat.reduceEqDiff, reduceIte, qn, qd, q0, q3, q6, q7, q8, hsucc] <;> first | rfl | (congr 1; omega) | omega)), by (simp only [evs, Nat.reduceEqDiff, reduceIte, qm] <;> first | rfl | (congr 1; omega) | omega), hlt⟩ (by omega)
   ·rw [decide_eq_false hd] at hdec
    rw [hdec] at hsucc
    have hsucc' : (((tops l).take (i + 1)).filter (isDecl l)).length = nn := by rw [hsucc]; rfl
    have h3 : kd ≠ 3 := by omega
    have h12 : kd ≠ 12 := by omega
    (repeat (first | (apply G.h; constructor <;> (first | exact Rf.mk | ((first | apply Ev.mk | apply Dn.mk); (simp only [evs, Nat.reduceEqDiff, reduceIte, qn, qd, q0, q3, q6, q7, q8, qm] <;> rfl)) | apply g_wpO | (apply Bk; exact BxS) | (apply Ld.mk; (try simp only [evs, qn, qd, q0, q3, q6, q7, q8, qm]); first | exact e2.load1 rfl rfl e3 | exact hkn | fail) | apply g_wp | apply g_ret | apply g_sel | (apply Om.mk; first | omega | exact Nat.le_of_ble_eq_true rfl | fail) | ((repeat (first | exact Evp.nil | (apply Evp.cons; (focus (apply Ev.mk; (simp only [evs, Nat.reduceEqDiff, reduceIte, qn, qd, q0, q3, q6, q7, q8, qm] <;> rfl))))));done) | (apply Hy.mk; assumption) | (apply Kr.mk; decide +kernel) | fail))))
    refine ih (i + 1) _ ⟨(by refine ⟨?_, ?_, ?_, ?_, ?_, ?_, ?_⟩ <;> (simp only [evs, Nat.reduceEqDiff, reduceIte, qn, qd, q0, q3, q6, q7, q8, hsucc'] <;> first | rfl | (congr 1; omega) | omega)), by (simp only [evs, Nat.reduceEqDiff, reduceIte, qm] <;> first | rfl | (congr 1; omega) | omega), hlt⟩ (by omega)
  ·obtain rfl : i = (tops l).length := by omega
   rw [List.take_length, ← hgn] at q7
   (repeat (first | (apply G.h; constructor <;> (first | exact Rf.mk | ((first | apply Ev.mk | apply Dn.mk); (simp only [evs, Nat.reduceEqDiff, reduceIte, qn, qd, q0, q3, q6, q7, q8] <;> rfl)) | apply g_wpO | (apply Bk; exact BxS) | (apply Ld.mk; (try simp only [evs, qn, qd, q0, q3, q6, q7, q8]); first | rfl | fail) | apply g_wp | apply g_ret | apply g_sel | (apply Om.mk; first | omega | exact Nat.le_of_ble_eq_true rfl | fail) | ((repeat (first | exact Evp.nil | (apply Evp.cons; (focus (apply Ev.mk; (simp only [evs, Nat.reduceEqDiff, reduceIte, qn, qd, q0, q3, q6, q7, q8] <;> rfl))))));done) | (apply Hy.mk; assumption) | (apply Kr.mk; decide +kernel) | fail))))
   refine ewp_loop (ι := Nat) (fun i a => (a.n = 155 ∧ a.defers = [] ∧ a.tmp 0 = .slice (some ⟨b, off, none⟩) l.length cap ∧ a.tmp 3 = ptr m2.next ∧ a.tmp 7 = I gn ∧ a.tmp 9 = I (1 + (fnL l 0 i).length : Nat) ∧ a.tmp 10 = I i) ∧ a.m = m5 ∧ i ≤ l.length) (fun i => l.length - i) 0 ?_ ?_
   ·exact ⟨(by refine ⟨?_, ?_, ?_, ?_, ?_, ?_, ?_⟩ <;> (simp only [evs, Nat.reduceEqDiff, reduceIte, qn, qd, q0, q3, q6, q7, q8] <;> first | rfl | (congr 1; omega) | omega)), by (simp only [evs, Nat.reduceEqDiff, reduceIte, qm] <;> first | rfl | (congr 1; omega) | omega), Nat.zero_le _⟩
   clear ih qn qd q0 q3 q6 q7 q8 qm
   rintro i a ⟨⟨pn, pd, p0, p3, p7, p9, p10⟩, pm, hi⟩ ih
   have hwl : fn = 1 + (fnL l 0 l.length).length := by
    have := congrArg List.length w3
    rw [List.length_cons] at this
    unfold fnK at this
    rw [List.length_map] at this
    omega
   rcases Nat.lt_or_ge i l.length with hlt | hge
   ·have hkn := hN5.kind i hlt
    have hnu := hN5.num i hlt
    have hfd : isFnAt l i = decide (l[i].kind = 12 ∨ l[i].kind = 31) := by unfold isFnAt; rw [List.getElem?_eq_getElem hlt]
    have hnumA : numAt l i = l[i].num := by unfold numAt; rw [List.getElem?_eq_getElem hlt]
    have hsucc := fnL_succ l i
    generalize l[i].kind = kd at hkn hfd
    generalize l[i].num = nu at hnu hnumA
    generalize hcc : (fnL l 0 i).length = cc at p9 hsucc
    by_cases hd : kd = 12 ∨ kd = 31
    ·rw [decide_eq_true hd] at hfd
     rw [hfd, if_pos rfl] at hsucc
     have hnth := fnL_nth l hlt hfd
     rw [hcc, hnumA] at hnth
     have hcl := (List.getElem?_eq_some_iff.1 hnth).1
     have hfb : (fnL l 0 l.length).length ≤ l.length := by unfold fnL; rw [List.length_map]; exact Nat.le_trans (List.length_filter_le _ _) (by rw [List.length_range']; exact Nat.le_refl _)
     have hfk : (fnK W)[1 + cc]? = some (i, nu) := by rw [w3, Nat.add_comm, List.getElem?_cons_succ]; exact hnth
     have hfl1 : 1 + cc < W.funs.length := by omega
     have hg : W.funs[1 + cc]? = some W.funs[1 + cc] := List.getElem?_eq_getElem hfl1
     have hcv : cvs[1 + cc]? = some (cvs[1 + cc]'(by rw [cf.1]; exact hfl1)) := List.getElem?_eq_getElem _
     unfold fnK at hfk
     rw [List.getElem?_map, hg] at hfk
     simp only [Option.map_some, Option.some.injEq, Prod.mk.injEq] at hfk
     have hg0 := encFns_get cvs W.funs (1 + cc) 0 _ _ hcv hg (by omega)
     have hg1 := encFns_get cvs W.funs (1 + cc) 1 _ _ hcv hg (by omega)
     obtain ⟨fb, fcap, fr, fn', y1, y2, y3, y4, y5, y6, -⟩ := sf5.at (i := (1 + cc) * 4 + 1) (by rw [fl]; omega)
     cases y1
     have hf0 : fr[0 + (1 + cc) * 4 + 0]? = some (I i) := by
      rw [y6, List.getElem?_take_of_lt (by omega)] at hg0
      rw [show 0 + (1 + cc) * 4 + 0 = (1 + cc) * 4 + 0 by omega, hg0]
      show some (I (W.funs[1 + cc].node : Nat)) = _
      rw [hfk.1]
     have hf1 : fr[0 + (1 + cc) * 4 + 1]? = some (I nu) := by
      rw [y6, List.getElem?_take_of_lt (by omega)] at hg1
      rw [show 0 + (1 + cc) * 4 + 1 = (1 + cc) * 4 + 1 by omega, hg1]
      show some (I W.funs[1 + cc].params) = _
      rw [hfk.2]
     rcases (show kd = 12 ∨ (kd ≠ 12 ∧ kd = 31) by omega) with h3 | ⟨h3, h12⟩
     all_goals
      (repeat (first | (apply G.h; constructor <;> (first | exact Rf.mk | ((first | apply Ev.mk | apply Dn.mk); (simp only [evs, Nat.reduceEqDiff, reduceIte, pn, pd, p0, p3, p7, p9, p10, pm] <;> rfl)) | apply g_wpO | (apply Bk; exact BxS) | (apply Ld.mk; (try simp only [evs, pn, pd, p0, p3, p7, p9, p10, pm]); first | exact hkn | exact hnu | exact y3.load1 rfl rfl hf0 | exact y3.load1 rfl rfl hf1 | exact r35.load1 rfl rfl rfl | fail) | apply g_wp | apply g_ret | apply g_sel | (apply Om.mk; first | omega | exact Nat.le_of_ble_eq_true rfl | fail) | ((repeat (first | exact Evp.nil | (apply Evp.cons; (focus (apply Ev.mk; (simp only [evs, Nat.reduceEqDiff, reduceIte, pn, pd, p0, p3, p7, p9, p10, pm] <;> rfl))))));done) | (apply Hy.mk; assumption) | (apply Kr.mk; decide +kernel) | fail))))
      refine ih (i + 1) _ ⟨(by refine ⟨?_, ?_, ?_, ?_, ?_, ?_, ?_⟩ <;> (simp only [evs, Nat.reduceEqDiff, reduceIte, pn, pd, p0, p3, p7, p9, p10, hsucc] <;> first | rfl | (congr 1; omega) | omega)), by (simp only [evs, Nat.reduceEqDiff, reduceIte, pm] <;> first | rfl | (congr 1; omega) | omega), hlt⟩ (by omega)
    ·rw [decide_eq_false hd] at hfd
     rw [hfd] at hsucc
     have hsucc' : (fnL l 0 (i + 1)).length = cc := by rw [hsucc]; rfl
     have h3 : kd ≠ 12 := by omega
     have h12 : kd ≠ 31 := by omega
     (repeat (first | (apply G.h; constructor <;> (first | exact Rf.mk | ((first | apply Ev.mk | apply Dn.mk); (simp only [evs, Nat.reduceEqDiff, reduceIte, pn, pd, p0, p3, p7, p9, p10, pm] <;> rfl)) | apply g_wpO | (apply Bk; exact BxS) | (apply Ld.mk; (try simp only [evs, pn, pd, p0, p3, p7, p9, p10, pm]); first | exact hkn | fail) | apply g_wp | apply g_ret | apply g_sel | (apply Om.mk; first | omega | exact Nat.le_of_ble_eq_true rfl | fail) | ((repeat (first | exact Evp.nil | (apply Evp.cons; (focus (apply Ev.mk; (simp only [evs, Nat.reduceEqDiff, reduceIte, pn, pd, p0, p3, p7, p9, p10, pm] <;> rfl))))));done) | (apply Hy.mk; assumption) | (apply Kr.mk; decide +kernel) | fail))))
     refine ih (i + 1) _ ⟨(by refine ⟨?_, ?_, ?_, ?_, ?_, ?_, ?_⟩ <;> (simp only [evs, Nat.reduceEqDiff, reduceIte, pn, pd, p0, p3, p7, p9, p10, hsucc'] <;> first | rfl | (congr 1; omega) | omega)), by (simp only [evs, Nat.reduceEqDiff, reduceIte, pm] <;> first | rfl | (congr 1; omega) | omega), hlt⟩ (by omega)
   ·obtain rfl : i = l.length := by omega
    rw [← hwl] at p9
    (repeat (first | (apply G.h; constructor <;> (first | exact Rf.mk | ((first | apply Ev.mk | apply Dn.mk); (simp only [evs, Nat.reduceEqDiff, reduceIte, pn, pd, p0, p3, p7, p9, p10, pm] <;> rfl)) | apply g_wpO | (apply Bk; exact BxS) | (apply Ld.mk; (try simp only [evs, pn, pd, p0, p3, p7, p9, p10, pm]); first | exact r35.load1 rfl rfl rfl | fail) | apply g_wp | apply g_ret | apply g_sel | (apply Om.mk; first | omega | exact Nat.le_of_ble_eq_true rfl | fail) | ((repeat (first | exact Evp.nil | (apply Evp.cons; (focus (apply Ev.mk; (simp only [evs, Nat.reduceEqDiff, reduceIte, pn, pd, p0, p3, p7, p9, p10, pm] <;> rfl))))));done) | (apply Hy.mk; assumption) | (apply Kr.mk; decide +kernel) | fail))))
    ((first | apply g_run | apply g_run0 | fail) <;> (first | exact Rf.mk | ((first | apply Ev.mk | apply Dn.mk); (simp only [evs, Nat.reduceEqDiff, reduceIte, pn, pd, p0, p3, p7, p9, p10, pm] <;> rfl)) | apply g_wpO | (apply Bk; exact BxS) | (apply Ld.mk; (try simp only [evs, pn, pd, p0, p3, p7, p9, p10, pm]); first | rfl | fail) | apply g_wp | apply g_ret | apply g_sel | (apply Om.mk; first | omega | exact Nat.le_of_ble_eq_true rfl | fail) | ((repeat (first | exact Evp.nil | (apply Evp.cons; (focus (apply Ev.mk; (simp only [evs, Nat.reduceEqDiff, reduceIte, pn, pd, p0, p3, p7, p9, p10, pm] <;> rfl))))));done) | (apply Hy.mk; assumption) | (apply Kr.mk; decide +kernel) | ((repeat (first | exact Evl.nil | (apply Evl.cons; (focus (apply Ev.mk; (simp only [evs, Nat.reduceEqDiff, reduceIte, pn, pd, p0, p3, p7, p9, p10, pm] <;> rfl))))));done) | exact Rn.mk (live10 _) | apply Cn.mk | fail))
    rintro v m6 ⟨rfl, rfl⟩
    (repeat (first | (apply G.h; constructor <;> (first | exact Rf.mk | ((first | apply Ev.mk | apply Dn.mk); (simp only [evs, Nat.reduceEqDiff, reduceIte, pn, pd, p0, p3, p7, p9, p10, pm] <;> rfl)) | apply g_wpO | (apply Bk; exact BxS) | (apply Ld.mk; (try simp only [evs, pn, pd, p0, p3, p7, p9, p10, pm]); first | rfl | fail) | apply g_wp | apply g_ret | apply g_sel | (apply Om.mk; first | omega | exact Nat.le_of_ble_eq_true rfl | fail) | ((repeat (first | exact Evp.nil | (apply Evp.cons; (focus (apply Ev.mk; (simp only [evs, Nat.reduceEqDiff, reduceIte, pn, pd, p0, p3, p7, p9, p10, pm] <;> rfl))))));done) | (apply Hy.mk; assumption) | (apply Kr.mk; decide +kernel) | fail))))
    (refine g_fin (by repeat (first | exact Rs.nil | (apply Rs.cons; (focus (apply Ev.mk; (simp only [evs, Nat.reduceEqDiff, reduceIte, pn, pd, p0, p3, p7, p9, p10, pm] <;> rfl)))))) (by (simp only [evs, Nat.reduceEqDiff, reduceIte, pn, pd, p0, p3, p7, p9, p10, pm] <;> first | rfl | (congr 1; omega) | omega)) ?_)
    rfl
end Go.Proofs.YtihokakelnfdgaaDoor

namespace Go.Proofs.YtihokakelnfdgaaDoor
set_option linter.unusedSimpArgs false
open Go Go.Ev Go.ChangeShapes Go.WideShapes
set_option linter.unusedVariables false
set_option maxRecDepth 100000

theorem val_len (x : Nd) : x.val.length = 5 := rfl
theorem vals_get : ∀ (l : List Nd) (i j : Nat) (hi : i < l.length), j < 5 → (l.flatMap Nd.val)[i * 5 + j]? = l[i].val[j]?
 | x :: l, 0, j, hi, hj => by rw [List.flatMap_cons, List.getElem?_append_left (by rw [val_len]; omega)]; simp
 | x :: l, i + 1, j, hi, hj => by
  rw [List.flatMap_cons, List.getElem?_append_right (by rw [val_len]; omega), val_len, show (i + 1) * 5 + j - 5 = i * 5 + j by omega]
  simpa using vals_get l i j (by simpa using hi) hj
theorem vals_len : ∀ (l : List Nd), (l.flatMap Nd.val).length = l.length * 5
 | [] => rfl
 | x :: l => by rw [List.flatMap_cons, List.length_append, val_len, vals_len l, List.length_cons]; omega
theorem vals_plain : ∀ (l : List Nd), (l.flatMap Nd.val).all Ev.plainCell = true
 | [] => rfl
 | x :: l => by rw [List.flatMap_cons, List.all_append, vals_plain l]; rfl

theorem argMemG_nodes (gs : List (Option (Nat × TypeId × List Value))) (off : Nat) (l : List Nd) (e : TypeId) : Nodes (argMemG gs off (l.flatMap Nd.val) e) gs.length off l := by
 refine ⟨_, _, e, 1, argMemG_get _ _ _ _, by rw [vals_len]; exact Nat.le_refl _, fun i j hi hj => ?_⟩
 have := vals_len l
 rw [get_ofList, if_pos (by omega), show off + i * 5 + j - off = i * 5 + j by omega, vals_get l i j hi hj]

section
variable {H : Type} {enc : TypeId × Value → H} {w : World} {base : Nat} {spare : Nat → Bool} {held : Bool}

theorem one_int {fuel : Nat} {cs : List Value} {j : Nat} {y : DataW H × List MemPlace} (hj : j < cs.length) (h : DataW.trod enc Tryd.prog w base spare held fuel 3 ((cs.drop j).take 1) = some y) : ∃ n : Int, cs[j]? = some (.int .i64 n) ∧ -9223372036854775808 ≤ n ∧ n ≤ 9223372036854775807 := by
 obtain ⟨n, h1, h2, h3⟩ := DataW.trod_int Tryd.underlying3 h
 have e := congrArg (·[0]?) h1
 simp only [List.getElem?_take, List.getElem?_drop] at e
 simp only [Lit.wf, Bool.and_eq_true, decide_eq_true_eq, IntKind.min, IntKind.max, IntKind.signed, IntKind.bits, if_true] at h3
 exact ⟨n, by simpa using e, by omega, by omega⟩
theorem one_str {fuel : Nat} {cs : List Value} {j : Nat} {y : DataW H × List MemPlace} (hj : j < cs.length) (h : DataW.trod enc Tryd.prog w base spare held fuel 9 ((cs.drop j).take 1) = some y) : ∃ s : List UInt8, cs[j]? = some (.string ⟨⟨s⟩⟩) ∧ s.length ≤ 9223372036854775807 := by
 obtain ⟨s, h1, h2, h3⟩ := DataW.trod_string Tryd.underlying9 h
 have e := congrArg (·[0]?) h1
 simp only [List.getElem?_take, List.getElem?_drop] at e
 obtain ⟨⟨s⟩⟩ := s
 refine ⟨s, by simpa using e, ?_⟩
 have : s.length ≤ maxLen := h3
 unfold maxLen at this
 omega

theorem one_node {fuel : Nat} {cs : List Value} {y : DataW H × List MemPlace} (h : DataW.trod enc Tryd.prog w base spare held fuel 43 cs = some y) : ∃ x : Nd, cs = x.val ∧ x.ok ∧ x.text.length ≤ 9223372036854775807 := by
 obtain ⟨xs, n, rfl, rfl, hlen, hxl, hel⟩ := DataW.trod_struct Tryd.underlying43 h
 have c3 : Tryd.prog.cellsOf 3 = 1 := by kernel_rfl
 have c9 : Tryd.prog.cellsOf 9 = 1 := by kernel_rfl
 have c43 : Tryd.prog.cellsOf 43 = 5 := by kernel_rfl
 rw [c43] at hlen
 have hxl5 : xs.length = 5 := hxl
 have get : ∀ j (hj : j < 5), xs[j]? = some xs[j] := fun j hj => List.getElem?_eq_getElem (by omega)
 have h0 : DataW.trod enc Tryd.prog w base spare held n 3 ((cs.drop 0).take (Tryd.prog.cellsOf 3)) = xs[0]? := hel 0 _ rfl
 rw [c3] at h0
 have h1 : DataW.trod enc Tryd.prog w base spare held n 3 ((cs.drop 1).take (Tryd.prog.cellsOf 3)) = xs[1]? := hel 1 _ rfl
 rw [c3] at h1
 have h2 : DataW.trod enc Tryd.prog w base spare held n 9 ((cs.drop 2).take (Tryd.prog.cellsOf 9)) = xs[2]? := hel 2 _ rfl
 rw [c9] at h2
 have h3 : DataW.trod enc Tryd.prog w base spare held n 3 ((cs.drop 3).take (Tryd.prog.cellsOf 3)) = xs[3]? := hel 3 _ rfl
 rw [c3] at h3
 have h4 : DataW.trod enc Tryd.prog w base spare held n 3 ((cs.drop 4).take (Tryd.prog.cellsOf 3)) = xs[4]? := hel 4 _ rfl
 rw [c3] at h4
 rw [get 0 (by omega)] at h0
 rw [get 1 (by omega)] at h1
 rw [get 2 (by omega)] at h2
 rw [get 3 (by omega)] at h3
 rw [get 4 (by omega)] at h4
 obtain ⟨kind, e0, b0, b0'⟩ := one_int (j := 0) (by omega) h0
 obtain ⟨nn, e1, b1, b1'⟩ := one_int (j := 1) (by omega) h1
 obtain ⟨s, e2, b2⟩ := one_str (j := 2) (by omega) h2
 obtain ⟨num, e3, b3, b3'⟩ := one_int (j := 3) (by omega) h3
 obtain ⟨pos, e4, b4, b4'⟩ := one_int (j := 4) (by omega) h4
 refine ⟨⟨kind, nn, s, num, pos⟩, ?_, ⟨⟨b0, b0'⟩, ⟨b1, b1'⟩, ⟨b3, b3'⟩, ⟨b4, b4'⟩⟩, b2⟩
 apply List.ext_getElem?
 intro i
 rcases i with _ | _ | _ | _ | _ | i
 ·exact e0
 ·exact e1
 ·exact e2
 ·exact e3
 ·exact e4
 ·rw [List.getElem?_eq_none (by omega), List.getElem?_eq_none (by show 5 ≤ i + 1 + 1 + 1 + 1 + 1; omega)]

/-- an argument that is a slice of nodes. -/
theorem open_nodes {fuel : Nat} {cs : List Value} {y : DataW H × List MemPlace} (h : DataW.trod enc Tryd.prog w base spare held fuel 24 cs = some y) :
  (∃ a cap, cs = [.slice a 0 cap]) ∨ ∃ (b off cap : Nat) (l : List Nd) (c : Array Value) (e : TypeId) (fr : Nat × Nat), cs = [.slice (some ⟨b, off, none⟩) l.length cap] ∧ l ≠ [] ∧ (∀ x ∈ l, x.ok ∧ x.text.length ≤ 9223372036854775807) ∧
   w.heap[b]? = some (.cells c e fr) ∧ off + (l.flatMap Nd.val).length ≤ c.size ∧ ∀ i, i < (l.flatMap Nd.val).length → c[off + i]? = (l.flatMap Nd.val)[i]? := by
 letI : Sym := ⟨fun _ => none⟩
 rcases DataW.trod_slice Tryd.underlying24 h with ⟨rfl, _⟩ | ⟨a, len, cap, elems, rest, n, rfl, rfl, rfl, hb, hl, hm, hlen, hel, _, _⟩
 ·exact .inl ⟨none, 0, rfl⟩
 rcases Nat.eq_zero_or_pos len with rfl | hpos
 ·exact .inl ⟨some a, cap, rfl⟩
 right
 have c43 : Tryd.prog.cellsOf 43 = 5 := by kernel_rfl
 rw [c43] at hel
 have each : ∀ i : Fin len, ∃ x : Nd, w.cells? base (a.add (i.1 * 5)) 5 = some x.val ∧ x.ok ∧ x.text.length ≤ 9223372036854775807 := by
  intro i
  have h1 := hel i.1 i.2
  rw [List.getElem?_eq_getElem (by omega), Option.bind_eq_some_iff] at h1
  obtain ⟨cs', h2, h3⟩ := h1
  obtain ⟨x, rfl, hx⟩ := one_node h3
  exact ⟨x, h2, hx⟩
 let l : List Nd := List.ofFn fun i : Fin len => Classical.choose (each i)
 have hll : l.length = len := List.length_ofFn
 have hli : ∀ i (hi : i < l.length), w.cells? base (a.add (i * 5)) 5 = some l[i].val ∧ l[i].ok ∧ l[i].text.length ≤ 9223372036854775807 := by
  intro i hi
  have := Classical.choose_spec (each ⟨i, by omega⟩)
  rw [show l[i] = Classical.choose (each ⟨i, by omega⟩) from by simp [l]]
  exact this
 have cell : ∀ i j (hi : i < l.length), j < 5 → w.cell? ((a.add (i * 5)).add j) = l[i].val[j]? := by
  intro i j hi hj
  have h1 := (hli i hi).1
  unfold World.cells? at h1
  split at h1
  ·exact mapM_some_get h1 j j (by simp [hj])
  ·cases h1
 obtain ⟨b, off, sp⟩ := a
 have hsp : sp = none := by
  have h1 := cell 0 0 (by omega) (by omega)
  have e : ((⟨b, off, sp⟩ : Addr).add (0 * 5)).add 0 = ⟨b, off, sp⟩ := by simp [Addr.add]
  have h2 : w.cell? ⟨b, off, sp⟩ = some (.int .i64 (l[0]'(by omega)).kind) := by rw [← e]; exact h1
  cases sp with
  | none => rfl
  | some s =>
   exfalso
   unfold World.cell? at h2
   split at h2
   ·simp at h2
   ·cases h2
 subst hsp
 have cell2 : ∀ i j (hi : i < l.length), j < 5 → w.cell? ⟨b, off + (i * 5 + j), none⟩ = l[i].val[j]? := by
  intro i j hi hj
  rw [← cell i j hi hj, add_at, add_at, Nat.add_assoc]
 have h00 := cell2 0 0 (by omega) (by omega)
 have hcell : ∃ c e fr, w.heap[b]? = some (.cells c e fr) := by
  have h01 : w.cell? ⟨b, off + (0 * 5 + 0), none⟩ = some (.int .i64 (l[0]'(by omega)).kind) := h00
  unfold World.cell? at h01
  split at h01
  ·rename_i c e fr hh
   exact ⟨c, e, fr, hh⟩
  ·cases h01
 obtain ⟨c, e, fr, hh⟩ := hcell
 have hall : ∀ i, i < (l.flatMap Nd.val).length → c[off + i]? = (l.flatMap Nd.val)[i]? := by
  intro i hi
  rw [vals_len] at hi
  have := cell2 (i / 5) (i % 5) (by omega) (Nat.mod_lt _ (by decide))
  rw [cell_at hh] at this
  rw [show off + i = off + (i / 5 * 5 + i % 5) by omega, this, ← vals_get l (i / 5) (i % 5) (by omega) (Nat.mod_lt _ (by decide)), show i / 5 * 5 + i % 5 = i by omega]
 refine ⟨b, off, cap, l, c, e, fr, by rw [hll], by intro h; rw [h] at hll; simp at hll; omega, fun x hx => ?_, hh, ?_, hall⟩
 ·obtain ⟨i, hi, rfl⟩ := List.getElem_of_mem hx
  exact (hli i hi).2
 ·have hL := vals_len l
  have hlast := hall (l.length * 5 - 1) (by omega)
  rw [List.getElem?_eq_getElem (by omega)] at hlast
  have := (Array.getElem?_eq_some_iff.1 hlast).1
  omega
end
end Go.Proofs.YtihokakelnfdgaaDoor
