/- Part of a verified evaluator of the model's programs and of runs by it: SV2 SQI. -/
import Derived.Test.YtihokakelnfdgaaDoorSL
namespace Go.Ev
set_option linter.unusedSimpArgs false
open Go
set_option linter.unusedVariables false
theorem repeat_len2 (z : List Value) : ∀ n, (repeatList z n).length = n * z.length
 | 0 => by simp [repeatList]
 | n + 1 => by rw [repeatList, List.length_append, repeat_len2 z n, Nat.succ_mul, Nat.add_comm]
section
variable {E : Env} {all l : List Oper} {k : List Kont} {a : Act} {Q : Ex → Act → Prop} {d : Nat} {t : TypeId} {pos : String} {af : Array Edge}
theorem g_makeSlice {ts e : TypeId} {x y : Operand} {i : TypeInfo} {z : Value} {n : Nat} (hu : Rf (E.under ts) (some (.slice e))) (hi : Rf (E.ti e) (some i)) (hz : Rf i.zero (some z)) (hx : Ev a x (.int .i64 (Int.ofNat n))) (hy : Ev a y (.int .i64 (Int.ofNat n))) (hn : Om (n ≤ 100000)) (hb : Rf (Nat.ble i.bytes 1000 && Nat.ble i.size 1000) true) (hzl : Rf (Nat.beq (cellsOf z).length i.size) true) (hd : Dn a d)
  (h : wpO E all l k ((a.mem (a.m.new (rowObj (repeatList (cellsOf z) n) e 0))).upd d (.slice (some ⟨a.m.next, 0, none⟩) n n)) Q) : wpO E all (⟨some d, .makeSlice ts x y, t, pos, af, none⟩ :: l) k a Q := by
 refine ewpO_alloc rfl rfl ?_ hd.h h
 have hb := hb.h
 simp only [Bool.and_eq_true, Nat.ble_eq] at hb
 have hn := hn.h
 have h1 : n * i.bytes ≤ 100000 * 1000 := Nat.mul_le_mul hn hb.1
 have hzl' := Nat.eq_of_beq_eq_true hzl.h
 have h2 : n * i.size ≤ 100000 * 1000 := Nat.mul_le_mul hn hb.2
 have e1 : Nat.ble n n = true := Nat.ble_eq_true_of_le (Nat.le_refl n)
 have e2 : Nat.ble (n * i.bytes) 1000000000 = true := Nat.ble_eq_true_of_le (by omega)
 have e3 : Nat.blt n 1000000000 = true := by simp [Nat.blt_eq]; omega
 have e4 : Nat.ble (repeatList (cellsOf z) n).length 1000000000 = true := Nat.ble_eq_true_of_le (by rw [repeat_len2, hzl']; omega)
 have hx := hx.h
 have hy := hy.h
 simp only [allocs, hu.h, hx, hy, hi.h, hz.h, e1, e2, e3, hzl.h, Bool.and_true, cond_true, newCells, e4, withAddr]
 rfl
theorem g_fin3c {rs : List ResultVar} {Q : Value → Mem → Prop} {t0 ty t1 t2 b o : Nat} (v0 v1 v2 : Value) (hrs : rs = [.cell t0 ty, .tmp t1, .tmp t2]) (hd : a.defers = []) (h0 : a.tmp t0 = .pointer (some ⟨b, o, none⟩)) (hl : loadAt E a.m ty b o = some v0) (h1 : a.tmp t1 = v1) (h2 : a.tmp t2 = v2) (h : Q (.tuple ⟨[v0, v1, v2]⟩) a.m) : ret E [] .ret a (fin E rs Q) := by
 subst hrs
 exact eret_nil (fin_ret hd (res_cell h0 hl (res_tmp h1 (res_tmp h2 res_nil))) h)
end
end Go.Ev
namespace Go.Proofs.YtihokakelnfdgaaDoor
open Go Go.Ev
set_option linter.unusedVariables false

/-! The end of Resolve. -/
def stepU (ds : List Dc) : Option Nat → Nat × Nat → Nat × Nat
 | some d, u => match ds[d]? with | some c => (if c.cap then 2 else 1, c.slot) | none => u
 | none, u => u
theorem stepU_some {ds : List Dc} {d : Nat} {c : Dc} {u : Nat × Nat} (h : ds[d]? = some c) : stepU ds (some d) u = (if c.cap then 2 else 1, c.slot) := by
 show (match ds[d]? with | some c => (if c.cap then 2 else 1, c.slot) | none => u) = _
 rw [h]
theorem finish_zip (ds : List Dc) : ∀ (ms : List (Option Nat)) (us : List (Nat × Nat)), ms.length = us.length → finish ds ms us = List.zipWith (stepU ds) ms us
 | [], [], _ => rfl
 | [], _ :: _, h => by simp at h
 | _ :: _, [], h => by simp at h
 | some d :: ms, u :: us, h => by rw [finish, List.zipWith_cons_cons, finish_zip ds ms us (by simpa using h)]; rfl
 | none :: ms, u :: us, h => by rw [finish, List.zipWith_cons_cons, finish_zip ds ms us (by simpa using h)]; rfl
/-- what the uses are behind so many. -/
def finTo (ds : List Dc) (ms : List (Option Nat)) (us : List (Nat × Nat)) (i : Nat) : List (Nat × Nat) := (List.zipWith (stepU ds) ms us).take i ++ us.drop i
theorem finTo_len (ds : List Dc) (ms : List (Option Nat)) (us : List (Nat × Nat)) (i : Nat) (h : ms.length = us.length) (hi : i ≤ us.length) : (finTo ds ms us i).length = us.length := by
 unfold finTo; simp [h]; omega
theorem finTo_get (ds : List Dc) (ms : List (Option Nat)) (us : List (Nat × Nat)) (i : Nat) (h : ms.length = us.length) (hi : i < us.length) : (finTo ds ms us i)[i]? = us[i]? := by
 unfold finTo
 rw [List.getElem?_append_right (by simp [h]; omega)]
 simp only [List.length_take, List.length_zipWith, h, Nat.min_self, Nat.min_eq_left (Nat.le_of_lt hi), Nat.sub_self, List.getElem?_drop, Nat.add_zero]
theorem finTo_succ (ds : List Dc) (ms : List (Option Nat)) (us : List (Nat × Nat)) (i : Nat) (h : ms.length = us.length) (hi : i < us.length) {o : Option Nat} {u : Nat × Nat} (ho : ms[i]? = some o) (hu : us[i]? = some u) :
  finTo ds ms us (i + 1) = (finTo ds ms us i).set i (stepU ds o u) := by
 have hz : (List.zipWith (stepU ds) ms us)[i]? = some (stepU ds o u) := by rw [List.getElem?_zipWith, ho, hu]
 have hzl : i < (List.zipWith (stepU ds) ms us).length := by simp [h]; omega
 unfold finTo
 rw [List.set_append_right _ _ (by simp [h]; omega)]
 have h1 : i - ((List.zipWith (stepU ds) ms us).take i).length = 0 := by simp [h]; omega
 rw [h1, List.drop_eq_getElem_cons hi, List.set_cons_zero]
 rw [List.take_add_one, hz]
 simp
end Go.Proofs.YtihokakelnfdgaaDoor

namespace Go.Proofs.YtihokakelnfdgaaDoor
open Go Go.Ev
set_option maxRecDepth 100000
set_option linter.unusedVariables false
set_option linter.unusedSimpArgs false
set_option pp.maxSteps 1500
attribute [local irreducible] quiet allocs effect wp ret wpO Runs Act.tmp Act.eval fin results Tree.set binOp loadAt storeAt target wanted cellsFrom

section
theorem put_put (r : List Value) (o : Nat) (a b c : Value) : put (put r o [a, b]) o [c] = put r o [c, b] := by
 simp only [put]
 rw [List.set_comm _ _ (by omega), List.set_set, List.set_comm _ _ (by omega)]
theorem start_inv {l : List Nd} (h1 : 1 ≤ l.length) : Inv l 1 (start l) where
 pc := h1
 ne := by simp [start]
 nfr := by simp [start]
 uses := by simp [start]
 means := by simp [start]
 globals := by simp [start]
 nf := by simp [start]
 slots := by simp [start]
 caps := by simp [start]
 fr := by simp [start]
 refs := ⟨by simp [start], by simp [start]⟩
 own := by simp [start]
theorem uses0 (n : Nat) : encPs (List.replicate n (0, 0)) = repeatList [I 0, I 0] n := by
 induction n with
 | zero => rfl
 | succ n ih => rw [List.replicate_succ, repeatList, ← ih]; rfl
theorem means0 (n : Nat) : (List.replicate n (none : Option Nat)).map (optPtr []) = repeatList [.pointer none] n := by
 induction n with
 | zero => rfl
 | succ n ih => rw [List.replicate_succ, repeatList, ← ih]; rfl

abbrev nilS : Value := .slice none 0 0
/-- what Resolve answers for a program. -/
def ResV (X : Nat → Prop) (m' : Mem) (W : MS) (v : Value) : Prop :=
 (W.e ≠ 0 ∧ v = .tuple ⟨[.agg ⟨[nilS, nilS, nilS]⟩, I W.e, I W.place]⟩) ∨
 (W.e = 0 ∧ ∃ fv uv gv cvs, v = .tuple ⟨[.agg ⟨[fv, uv, gv]⟩, I 0, I 0]⟩ ∧ Sl X m' fv 49 4 (encFns cvs W.funs) ∧ CapsR X m' cvs W.funs ∧ Sl X m' uv 57 2 (encPs (finish W.decls W.means W.uses)) ∧ Sl X m' gv 9 1 (W.globals.map encS))

theorem check27_nil (sl : Option Addr) (cap : Nat) (m : Mem) : Runs evEnv 27 [.slice sl 0 cap] m fun v m' => v = .tuple ⟨[.int .i64 0, .int .i64 6]⟩ ∧ m' = m := by
 refine runs_start rfl rfl rfl rfl ?_
 (repeat (first | apply wpN_cons | apply g_next | (apply G.h; constructor <;> (first | exact Zc | apply gI | ((repeat' (first | exact Y0 | apply Y1 | ((first | apply Y4 | apply Y5); simp only [evs, Nat.reduceEqDiff, reduceIte] <;> rfl))); done) | (apply Y6; (try simp only [evs]); first | rfl)))))
 (refine g_fin (by repeat' first | exact Rs.nil | apply Rs.cons | (apply Y4; simp only [evs, Nat.reduceEqDiff, reduceIte] <;> rfl)) (by (simp only [evs, Nat.reduceEqDiff, reduceIte] <;> first | rfl | (congr 1; omega) | omega)) ?_)
 exact ⟨rfl, by (simp only [evs, Nat.reduceEqDiff, reduceIte] <;> first | rfl | (congr 1; omega) | omega)⟩
theorem resolve12_nil (sl : Option Addr) (cap : Nat) (m : Mem) : Runs evEnv 12 [.slice sl 0 cap] m fun v m' => v = .tuple ⟨[.agg ⟨[nilS, nilS, nilS]⟩, I 6, I 0]⟩ ∧ Grow m m' := by
 have hz := row_new m [nilS, nilS, nilS] 31 0
 have g1 : Grow m (m.new (rowObj [nilS, nilS, nilS] 31 0)) := (Grow.refl m).new _
 refine runs_start rfl rfl rfl rfl ?_
 (repeat (first | apply wpN_cons | apply g_next | (apply G.h; constructor <;> (first | exact Zc | apply gI | ((repeat' (first | exact Y0 | apply Y1 | ((first | apply Y4 | apply Y5); simp only [evs, Nat.reduceEqDiff, reduceIte] <;> rfl))); done) | (apply Y6; (try simp only [evs]); first | rfl)))))
 ((first | apply g_run | apply g_run0) <;> (first | ((repeat' (first | exact Y0 | apply Y1 | exact Y2 | apply Y3 | ((first | apply Y4 | apply Y5); simp only [evs, Nat.reduceEqDiff, reduceIte] <;> rfl))); done) | exact Rn.mk (check27_nil _ _ _) | apply Cn.mk))
 rintro v m2 ⟨rfl, rfl⟩
 (repeat (first | apply wpN_cons | apply g_next | (apply G.h; constructor <;> (first | exact Zc | apply gI | ((repeat' (first | exact Y0 | apply Y1 | ((first | apply Y4 | apply Y5); simp only [evs, Nat.reduceEqDiff, reduceIte] <;> rfl))); done) | (apply Y6; (try simp only [evs]); first | rfl)))))
 (apply g_stR <;> (first | exact Zc | apply gI | ((repeat' (first | exact Y0 | apply Y1 | exact Y2 | apply Y3 | ((first | apply Y4 | apply Y5); simp only [evs, Nat.reduceEqDiff, reduceIte] <;> rfl))); done) | (apply Hy.mk; (try simp only [evs]); first | exact hz | assumption) | (apply Om.mk; first | exact hz) | (apply Y6; (try simp only [evs]); first | rfl) | apply Cn.mk))
 intro m3 r3 o3 n3; simp only [evs] at r3 o3 n3
 (repeat (first | apply wpN_cons | apply g_next | (apply G.h; constructor <;> (first | exact Zc | apply gI | ((repeat' (first | exact Y0 | apply Y1 | ((first | apply Y4 | apply Y5); simp only [evs, Nat.reduceEqDiff, reduceIte] <;> rfl))); done) | (apply Y6; (try simp only [evs]); first | rfl)))))
 refine g_fin3c (b := m.next) (o := 0) (.agg ⟨[nilS, nilS, nilS]⟩) (I 6) (I 0) rfl ?_ ?_ ?_ ?_ ?_ ?_
 ·(simp only [evs, Nat.reduceEqDiff, reduceIte] <;> first | rfl | (congr 1; omega) | omega)
 ·(simp only [evs, Nat.reduceEqDiff, reduceIte] <;> first | rfl | (congr 1; omega) | omega)
 ·simp only [evs]; exact r3.loadA rfl rfl rfl (Nat.le_refl 3) rfl
 ·(simp only [evs, Nat.reduceEqDiff, reduceIte] <;> first | rfl | (congr 1; omega) | omega)
 ·(simp only [evs, Nat.reduceEqDiff, reduceIte] <;> first | rfl | (congr 1; omega) | omega)
 ·refine ⟨rfl, ?_⟩
  simp only [evs]; exact g1.wrote (Nat.le_refl _) o3 n3

set_option maxHeartbeats 4000000 in
theorem resolve12 (b off cap : Nat) (l : List Nd) (hok : ∀ x ∈ l, x.ok ∧ x.text.length ≤ 9223372036854775807) (hl : l.length ≤ 600) (hne : l ≠ []) (m : Mem) (hN : Nodes m b off l) (hNm : Names m) (hbn : b < m.next) (h0 : 0 < m.next) :
  Runs evEnv 12 [.slice (some ⟨b, off, none⟩) l.length cap] m fun v m' => Keep (fun c => c < m.next) TT m m' ∧
   ((okProg l = false ∧ ∃ e : Nat, e ≠ 0 ∧ v = .tuple ⟨[.agg ⟨[nilS, nilS, nilS]⟩, I e, I 0]⟩) ∨ (okProg l = true ∧ ResV (fun c => c < m.next) m' (walked l) v)) := by
 have hpos : 0 < l.length := List.length_pos_iff.2 hne
 have hz := row_new m [nilS, nilS, nilS] 31 0
 have g1 : Grow m (m.new (rowObj [nilS, nilS, nilS] 31 0)) := (Grow.refl m).new _
 refine runs_start rfl rfl rfl rfl ?_
 (repeat (first | apply wpN_cons | apply g_next | (apply G.h; constructor <;> (first | exact Zc | apply gI | ((repeat' (first | exact Y0 | apply Y1 | ((first | apply Y4 | apply Y5); simp only [evs, Nat.reduceEqDiff, reduceIte] <;> rfl))); done) | (apply Y6; (try simp only [evs]); first | rfl)))))
 ((first | apply g_run | apply g_run0) <;> (first | ((repeat' (first | exact Y0 | apply Y1 | exact Y2 | apply Y3 | ((first | apply Y4 | apply Y5); simp only [evs, Nat.reduceEqDiff, reduceIte] <;> rfl))); done) | exact Rn.mk (check14 b off cap l hok (by omega) _ (by simp only [evs]; exact hN.grow hbn g1) (by simp only [evs]; exact Nat.lt_succ_of_lt hbn) hne) | apply Cn.mk))
 rintro v m2 ⟨gr, p, e, rfl, he⟩
 simp only [evs] at gr
 replace gr : Grow (m.new (rowObj [nilS, nilS, nilS] 31 0)) m2 := gr
 have g2 : Grow m m2 := g1.trans gr
 have hz2 := hz.grow gr
 have nx2 : m.next < m2.next := hz2.1
 by_cases hp : okProg l = true
 ·obtain rfl : e = 0 := he.2 hp
  have hb1 : ∀ c, m.next ≤ c → ¬ c < m.next := fun c hc => by omega
  (repeat (first | apply wpN_cons | apply g_next | (apply G.h; constructor <;> (first | exact Zc | apply gI | ((repeat' (first | exact Y0 | apply Y1 | ((first | apply Y4 | apply Y5); simp only [evs, Nat.reduceEqDiff, reduceIte] <;> rfl))); done) | (apply Y6; (try simp only [evs]); first | rfl)))))
  (apply g_makeSlice <;> (first | exact Zc | apply gI | ((repeat' (first | exact Y0 | apply Y1 | exact Y2 | apply Y3 | ((first | apply Y4 | apply Y5); simp only [evs, Nat.reduceEqDiff, reduceIte] <;> rfl))); done) | (apply Hy.mk; (try simp only [evs]); first | fail | assumption) | (apply Om.mk; first | fail) | (apply Y6; (try simp only [evs]); first | rfl) | apply Cn.mk))
  (repeat (first | apply wpN_cons | apply g_next | (apply G.h; constructor <;> (first | exact Zc | apply gI | ((repeat' (first | exact Y0 | apply Y1 | ((first | apply Y4 | apply Y5); simp only [evs, Nat.reduceEqDiff, reduceIte] <;> rfl))); done) | (apply Y6; (try simp only [evs]); first | rfl)))))
  (apply g_makeSlice <;> (first | exact Zc | apply gI | ((repeat' (first | exact Y0 | apply Y1 | exact Y2 | apply Y3 | ((first | apply Y4 | apply Y5); simp only [evs, Nat.reduceEqDiff, reduceIte] <;> rfl))); done) | (apply Hy.mk; (try simp only [evs]); first | fail | assumption) | (apply Om.mk; first | fail) | (apply Y6; (try simp only [evs]); first | rfl) | apply Cn.mk))
  have rw0 := row_new (((m2.new (.map []))).new (rowObj (repeatList [.pointer none] l.length) 90 0)) [.slice (some ⟨b, off, none⟩) l.length cap, I 1, nilS, nilS, nilS, .map (some m2.next), nilS, .slice (some ⟨m2.next + 1, 0, none⟩) l.length l.length, I 0, I 0] 83 0
  have rw1 := rw0.keep_new (rowObj (repeatList [I 0, I 0] l.length) 57 0)
  have wbn : ((((m2.new (.map []))).new (rowObj (repeatList [.pointer none] l.length) 90 0))).next = m2.next + 2 := rfl
  rw [wbn] at rw1
  (repeat (first | apply wpN_cons | apply g_next | (apply G.h; constructor <;> (first | exact Zc | apply gI | ((repeat' (first | exact Y0 | apply Y1 | ((first | apply Y4 | apply Y5); simp only [evs, Nat.reduceEqDiff, reduceIte] <;> rfl))); done) | (apply Y6; (try simp only [evs]); first | rfl)))))
  (apply g_stR <;> (first | exact Zc | apply gI | ((repeat' (first | exact Y0 | apply Y1 | exact Y2 | apply Y3 | ((first | apply Y4 | apply Y5); simp only [evs, Nat.reduceEqDiff, reduceIte] <;> rfl))); done) | (apply Hy.mk; (try simp only [evs]); first | exact rw1 | assumption) | (apply Om.mk; first | exact rw1) | (apply Y6; (try simp only [evs]); first | rfl) | apply Cn.mk))
  intro me re oe ne; simp only [evs] at re oe ne
  have nxD : ((((((((m2.new (.map []))).new (rowObj (repeatList [.pointer none] l.length) 90 0))).new (rowObj [.slice (some ⟨b, off, none⟩) l.length cap, I 1, nilS, nilS, nilS, .map (some m2.next), nilS, .slice (some ⟨m2.next + 1, 0, none⟩) l.length l.length, I 0, I 0] 83 0))).new (rowObj (repeatList [I 0, I 0] l.length) 57 0))).next = m2.next + 4 := rfl
  have nxe : me.next = m2.next + 4 := ne
  have ke : Keep (fun c => c < m.next) [83] (((((((m2.new (.map []))).new (rowObj (repeatList [.pointer none] l.length) 90 0))).new (rowObj [.slice (some ⟨b, off, none⟩) l.length cap, I 1, nilS, nilS, nilS, .map (some m2.next), nilS, .slice (some ⟨m2.next + 1, 0, none⟩) l.length l.length, I 0, I 0] 83 0))).new (rowObj (repeatList [I 0, I 0] l.length) 57 0)) me := Keep.row rw1 (hb1 _ (by omega)) (by decide) oe ne
  (repeat (first | apply wpN_cons | apply g_next | (apply G.h; constructor <;> (first | exact Zc | apply gI | ((repeat' (first | exact Y0 | apply Y1 | ((first | apply Y4 | apply Y5); simp only [evs, Nat.reduceEqDiff, reduceIte] <;> rfl))); done) | (apply Y6; (try simp only [evs]); first | rfl)))))
  have rf0 := row_new me [I 0, I 0, I 0, nilS] 49 0
  have re1 := re.keep_new (rowObj [I 0, I 0, I 0, nilS] 49 0)
  (apply g_stR <;> (first | exact Zc | apply gI | ((repeat' (first | exact Y0 | apply Y1 | exact Y2 | apply Y3 | ((first | apply Y4 | apply Y5); simp only [evs, Nat.reduceEqDiff, reduceIte] <;> rfl))); done) | (apply Hy.mk; (try simp only [evs]); first | exact re1 | assumption) | (apply Om.mk; first | exact re1) | (apply Y6; (try simp only [evs]); first | rfl) | apply Cn.mk))
  intro mg rg og ng; simp only [evs] at rg og ng
  have nxg : mg.next = m2.next + 5 := by rw [ng]; show me.next + 1 = _; omega
  have kg : Keep (fun c => c < m.next) [83] (me.new (rowObj [I 0, I 0, I 0, nilS] 49 0)) mg := Keep.row re1 (hb1 _ (by omega)) (by decide) og ng
  (repeat (first | apply wpN_cons | apply g_next | (apply G.h; constructor <;> (first | exact Zc | apply gI | ((repeat' (first | exact Y0 | apply Y1 | ((first | apply Y4 | apply Y5); simp only [evs, Nat.reduceEqDiff, reduceIte] <;> rfl))); done) | (apply Y6; (try simp only [evs]); first | rfl)))))
  have rg1 := ((rg.keep_new (.map [])).keep_new (rowObj [I 0, nilS, I 0, .map (some mg.next)] 88 0)).keep_new (rowObj [ptr (mg.next + 1)] 84 0)
  (apply g_stR <;> (first | exact Zc | apply gI | ((repeat' (first | exact Y0 | apply Y1 | exact Y2 | apply Y3 | ((first | apply Y4 | apply Y5); simp only [evs, Nat.reduceEqDiff, reduceIte] <;> rfl))); done) | (apply Hy.mk; (try simp only [evs]); first | exact rg1 | assumption) | (apply Om.mk; first | exact rg1) | (apply Y6; (try simp only [evs]); first | rfl) | apply Cn.mk))
  intro mk rk ok' nk; simp only [evs] at rk ok' nk
  have nxk : mk.next = m2.next + 8 := by rw [nk]; show mg.next + 3 = _; omega
  have kk : Keep (fun c => c < m.next) [83] (((((mg.new (.map []))).new (rowObj [I 0, nilS, I 0, .map (some mg.next)] 88 0))).new (rowObj [ptr (mg.next + 1)] 84 0)) mk := Keep.row rg1 (hb1 _ (by omega)) (by decide) ok' nk
  have rk' : Row mk (m2.next + 2) [.slice (some ⟨b, off, none⟩) l.length cap, I 1, .slice (some ⟨m2.next + 4, 0, none⟩) 1 1, .slice (some ⟨m2.next + 3, 0, none⟩) l.length l.length, nilS, .map (some m2.next), .slice (some ⟨m2.next + 7, 0, none⟩) 1 1, .slice (some ⟨m2.next + 1, 0, none⟩) l.length l.length, I 0, I 0] 83 0 := by
   have q := rk
   simp only [nxe, nxg, next_new] at q
   exact q
  have kMJ : Keep (fun c => c < m.next) [83] (((((mg.new (.map []))).new (rowObj [I 0, nilS, I 0, .map (some mg.next)] 88 0))).new (rowObj [ptr (mg.next + 1)] 84 0)) mk := kk
  have kMI : Keep (fun c => c < m.next) [83] (((mg.new (.map []))).new (rowObj [I 0, nilS, I 0, .map (some mg.next)] 88 0)) mk := (Keep.new _).trans kMJ
  have kMH : Keep (fun c => c < m.next) [83] (mg.new (.map [])) mk := (Keep.new _).trans kMI
  have kmg : Keep (fun c => c < m.next) [83] mg mk := (Keep.new _).trans kMH
  have kMF : Keep (fun c => c < m.next) [83] (me.new (rowObj [I 0, I 0, I 0, nilS] 49 0)) mk := kg.trans kmg
  have kme : Keep (fun c => c < m.next) [83] me mk := (Keep.new _).trans kMF
  have kMD : Keep (fun c => c < m.next) [83] (((((((m2.new (.map []))).new (rowObj (repeatList [.pointer none] l.length) 90 0))).new (rowObj [.slice (some ⟨b, off, none⟩) l.length cap, I 1, nilS, nilS, nilS, .map (some m2.next), nilS, .slice (some ⟨m2.next + 1, 0, none⟩) l.length l.length, I 0, I 0] 83 0))).new (rowObj (repeatList [I 0, I 0] l.length) 57 0)) mk := ke.trans kme
  have kMC : Keep (fun c => c < m.next) [83] (((((m2.new (.map []))).new (rowObj (repeatList [.pointer none] l.length) 90 0))).new (rowObj [.slice (some ⟨b, off, none⟩) l.length cap, I 1, nilS, nilS, nilS, .map (some m2.next), nilS, .slice (some ⟨m2.next + 1, 0, none⟩) l.length l.length, I 0, I 0] 83 0)) mk := (Keep.new _).trans kMD
  have kMB : Keep (fun c => c < m.next) [83] (((m2.new (.map []))).new (rowObj (repeatList [.pointer none] l.length) 90 0)) mk := (Keep.new _).trans kMC
  have kMA : Keep (fun c => c < m.next) [83] (m2.new (.map [])) mk := (Keep.new _).trans kMB
  have km2 : Keep (fun c => c < m.next) [83] m2 mk := (Keep.new _).trans kMA
  have km : Keep (fun c => c < m.next) [83] m mk := (Keep.grow g2).trans km2
  have q1 : Row mk (m2.next + 1) (repeatList [.pointer none] l.length) 90 0 := (row_new (m2.new (.map [])) (repeatList [.pointer none] l.length) 90 0).stay kMB (.inr (by decide))
  have q2 : Row mk (m2.next + 3) (repeatList [I 0, I 0] l.length) 57 0 := (row_new (((((m2.new (.map []))).new (rowObj (repeatList [.pointer none] l.length) 90 0))).new (rowObj [.slice (some ⟨b, off, none⟩) l.length cap, I 1, nilS, nilS, nilS, .map (some m2.next), nilS, .slice (some ⟨m2.next + 1, 0, none⟩) l.length l.length, I 0, I 0] 83 0)) (repeatList [I 0, I 0] l.length) 57 0).stay kMD (.inr (by decide))
  have q3 : Row mk (m2.next + 4) [I 0, I 0, I 0, nilS] 49 0 := by have := rf0.stay kMF (.inr (by decide)); rw [nxe] at this; exact this
  have q4 : Row mk (m2.next + 7) [ptr (mg.next + 1)] 84 0 := by have q : Row mk (mg.next + 2) [ptr (mg.next + 1)] 84 0 := (row_new (((mg.new (.map []))).new (rowObj [I 0, nilS, I 0, .map (some mg.next)] 88 0)) [ptr (mg.next + 1)] 84 0).stay kMJ (.inr (by decide)); rw [nxg] at q ⊢; exact q
  have q5 : Row mk (mg.next + 1) [I 0, nilS, I 0, .map (some mg.next)] 88 0 := (row_new (mg.new (.map [])) [I 0, nilS, I 0, .map (some mg.next)] 88 0).stay kMI (.inr (by decide))
  have q6 : Mp mk mg.next [] := (mp_new mg).stay kMH (.inr (by decide))
  have q7 : Mp mk m2.next [] := (mp_new m2).stay kMA (.inr (by decide))
  have zk := hz2.stay km2 (.inr (by decide))
  have nb1 : ∀ c, m2.next ≤ c → ¬ c < m.next := fun c hc => by omega
  have h0 : Rep (fun c => c < m.next) { (⟨b, off, cap, l, hoisted l⟩ : Args) with g := [] } mk (m2.next + 2) (start l) [mg.next + 1] [] ⟨.slice (some ⟨m2.next + 4, 0, none⟩) 1 1, .slice (some ⟨m2.next + 3, 0, none⟩) l.length l.length, nilS, m2.next, .slice (some ⟨m2.next + 7, 0, none⟩) 1 1, .slice (some ⟨m2.next + 1, 0, none⟩) l.length l.length, [nilS]⟩ := by
   refine { hX := fun c hc => by have : c < m.next := hc; omega, x0 := h0, names := hNm.stay (X := fun c => c < m.next) h0 h0 km, xn := hbn, nodes := hN.stay (X := fun c => c < m.next) hbn hbn km, xw := nb1 _ (by omega), w := rk', funs := ?_, caps := ?_, uses := ?_, globals := .inl ⟨rfl, rfl⟩, gx := nb1 _ (Nat.le_refl _), gmap := q7, frames := ?_, means := ?_, decls := ?_, frs := ?_ }
   ·exact .inr ⟨_, 1, _, 1, rfl, nb1 _ (by omega), q3, rfl, Nat.le_refl _, rfl⟩
   ·refine ⟨rfl, fun i cv f e1 e2 => ?_, fun i j v w c e1 e2 e3 e4 => ?_⟩
    ·rcases i with _ | i
     ·cases e1; cases e2; exact .inl ⟨rfl, rfl⟩
     ·simp at e1
    ·rcases i with _ | i
     ·cases e1; cases e3
     ·simp at e1
   ·refine .inr ⟨_, _, _, _, rfl, nb1 _ (by omega), q2, by rw [repeat_len2]; rfl, Nat.le_refl _, ?_⟩
    show encPs (List.replicate l.length (0, 0)) = _
    rw [uses0, List.take_of_length_le (by rw [repeat_len2]; exact Nat.le_refl _)]
   ·exact .inr ⟨_, 1, _, 1, rfl, nb1 _ (by omega), q4, rfl, Nat.le_refl _, rfl⟩
   ·refine .inr ⟨_, _, _, _, rfl, nb1 _ (by omega), q1, by rw [repeat_len2]; rfl, Nat.le_refl _, ?_⟩
    show (List.replicate l.length none).map (optPtr []) = _
    rw [means0, List.take_of_length_le (by rw [repeat_len2]; exact Nat.le_refl _)]
   ·exact ⟨rfl, List.nodup_nil, fun i b d hb => by simp at hb⟩
   ·refine ⟨mg.next, nilS, [], mg.next, ⟨Nat.le_succ _, by omega, nb1 _ (by omega), q5, .inl ⟨rfl, rfl⟩, (fun c n k hv => by cases hv), trivial, Nat.le_refl _, by omega, nb1 _ (by omega), q6, by simp⟩, ?_⟩
    show m2.next + 1 ≤ mg.next
    omega
  have P : Prog (⟨b, off, cap, l, hoisted l⟩ : Args) := ⟨okProg_prg hp, hpos, (prog_D hp).1, hl, rfl⟩
  have hho := hoist28 (A := ⟨b, off, cap, l, hoisted l⟩) h0 P.prg P.pos P.all (by simp only; omega)
  (repeat (first | apply wpN_cons | apply g_next | (apply G.h; constructor <;> (first | exact Zc | apply gI | ((repeat' (first | exact Y0 | apply Y1 | ((first | apply Y4 | apply Y5); simp only [evs, Nat.reduceEqDiff, reduceIte] <;> rfl))); done) | (apply Y6; (try simp only [evs]); first | rfl)))))
  ((first | apply g_run | apply g_run0) <;> (first | ((repeat' (first | exact Y0 | apply Y1 | exact Y2 | apply Y3 | ((first | apply Y4 | apply Y5); simp only [evs, Nat.reduceEqDiff, reduceIte] <;> rfl))); done) | exact Rn.mk ((by simp only [evs]; exact hho)) | apply Cn.mk))
  rintro v m9 ⟨h9, k9⟩
  try simp only [evs] at k9
  have hn0 := h9.nodes.n 0 hpos
  have hD1 := (D_kids (at_ := 0) hpos (by simpa using P.all)).2.2
  have hn0' : 0 ≤ l[0].n := P.prg.pos _ (List.getElem_mem hpos)
  have hc := kids29 (k := l.length - 1) P (node59 P l.length) l[0].n.toNat h9 (start_inv hpos) (by intro q hq; simp [start, frK] at hq; exact .inl (by rw [hq])) (by omega) hD1 (by omega)
  obtain ⟨wi1, wi2, wi3⟩ := times_inv (nodeI P.prg P.le (hoisted l) l.length) l[0].n.toNat (start l) 1 (l.length - 1) (start_inv hpos) hD1 (by omega)
  have hwk : times (nodeM l (hoisted l) l.length) l[0].n.toNat (start l) = walked l := by unfold walked; rw [List.getElem?_eq_getElem hpos]
  simp only at hc
  rw [hwk] at hc wi1
  rw [show ((l[0].n.toNat : Nat) : Int) = l[0].n by omega] at hc
  (repeat (first | apply wpN_cons | apply g_next | (apply G.h; constructor <;> (first | exact Zc | apply gI | ((repeat' (first | exact Y0 | apply Y1 | ((first | apply Y4 | apply Y5); simp only [evs, Nat.reduceEqDiff, reduceIte] <;> rfl))); done) | (apply Y6; (try simp only [evs]); first | exact hn0)))))
  ((first | apply g_run | apply g_run0) <;> (first | ((repeat' (first | exact Y0 | apply Y1 | exact Y2 | apply Y3 | ((first | apply Y4 | apply Y5); simp only [evs, Nat.reduceEqDiff, reduceIte] <;> rfl))); done) | exact Rn.mk ((by simp only [evs]; exact hc)) | apply Cn.mk))
  rintro v m10 ⟨dB, V, h10, p10, k10⟩
  try simp only [evs] at k10
  have z10 := (zk.stay k9 (.inr (by decide))).stay k10 (.inr (by decide))
  have km10 : Keep (fun c => c < m.next) TT m m10 := ((km.mono (by simp)).trans (k9.mono (by simp))).trans k10
  generalize hW : walked l = W at h10 wi1
  have hw10 := h10.w
  have hul := wi1.uses
  have hml := wi1.means
  have hdl := h10.decls.1
  by_cases hWe : W.e ≠ 0
  ·(repeat (first | apply wpN_cons | apply g_next | (apply G.h; constructor <;> (first | exact Zc | apply gI | ((repeat' (first | exact Y0 | apply Y1 | ((first | apply Y4 | apply Y5); simp only [evs, Nat.reduceEqDiff, reduceIte] <;> rfl))); done) | (apply Y6; (try simp only [evs]); first | exact hw10.load1 rfl rfl rfl)))))
   (apply g_regionN [0, 1, 2, 3, 4, 5, 6, 7, 8, 9, 10, 11] [(1, 12), (2, 12), (3, 12), (4, 12), (5, 12), (6, 12), (7, 12), (8, 12)]; (focus exact Kr.mk (by kernel_rfl)); (focus exact Rf.mk))
   (repeat (first | apply wpN_cons | apply g_next | (apply G.h; constructor <;> (first | exact Zc | apply gI | ((repeat' (first | exact Y0 | apply Y1 | ((first | apply Y4 | apply Y5); simp only [evs, Nat.reduceEqDiff, reduceIte] <;> rfl))); done) | (apply Y6; (try simp only [evs]); first | exact hw10.load1 rfl rfl rfl)))))
   (apply g_stR <;> (first | exact Zc | apply gI | ((repeat' (first | exact Y0 | apply Y1 | exact Y2 | apply Y3 | ((first | apply Y4 | apply Y5); simp only [evs, Nat.reduceEqDiff, reduceIte] <;> rfl))); done) | (apply Hy.mk; (try simp only [evs]); first | exact z10 | assumption) | (apply Om.mk; first | exact z10) | (apply Y6; (try simp only [evs]); first | rfl) | apply Cn.mk))
   intro m11 r11 o11 n11; simp only [evs] at r11 o11 n11
   have k11 : Keep (fun c => c < m.next) [31] m10 m11 := Keep.row z10 (hb1 _ (Nat.le_refl _)) (by decide) o11 n11
   have hw11 := hw10.stay k11 (.inr (by decide))
   (repeat (first | apply wpN_cons | apply g_next | (apply G.h; constructor <;> (first | exact Zc | apply gI | ((repeat' (first | exact Y0 | apply Y1 | ((first | apply Y4 | apply Y5); simp only [evs, Nat.reduceEqDiff, reduceIte] <;> rfl))); done) | (apply Y6; (try simp only [evs]); first | rfl)))))
   refine g_last (.mk ⟨.mk ?_, .mk ?_, .mk ?_, .mk ?_, .mk ?_, .mk ?_, .mk ?_, .mk ?_, trivial⟩) ?_
   ·(apply again_of; exact Rf.mk; exact Rf.mk; (apply Ev.mk; (simp only [evs, Nat.reduceEqDiff, reduceIte] <;> rfl)); exact Rf.mk; (repeat (first | apply wpN_cons | apply g_next | (apply G.h; constructor <;> (first | exact Zc | apply gI | ((repeat' (first | exact Y0 | apply Y1 | ((first | apply Y4 | apply Y5); simp only [evs, Nat.reduceEqDiff, reduceIte] <;> rfl))); done) | (apply Y6; (try simp only [evs]); first | rfl))))); refine eret_nil ?_; (simp only [evs, Nat.reduceEqDiff, reduceIte] <;> rfl))
   ·(apply again_of; exact Rf.mk; exact Rf.mk; (apply Ev.mk; (simp only [evs, Nat.reduceEqDiff, reduceIte] <;> rfl)); exact Rf.mk; (repeat (first | apply wpN_cons | apply g_next | (apply G.h; constructor <;> (first | exact Zc | apply gI | ((repeat' (first | exact Y0 | apply Y1 | ((first | apply Y4 | apply Y5); simp only [evs, Nat.reduceEqDiff, reduceIte] <;> rfl))); done) | (apply Y6; (try simp only [evs]); first | rfl))))); refine eret_nil ?_; (simp only [evs, Nat.reduceEqDiff, reduceIte] <;> rfl))
   ·(apply again_of; exact Rf.mk; exact Rf.mk; (apply Ev.mk; (simp only [evs, Nat.reduceEqDiff, reduceIte] <;> rfl)); exact Rf.mk; (repeat (first | apply wpN_cons | apply g_next | (apply G.h; constructor <;> (first | exact Zc | apply gI | ((repeat' (first | exact Y0 | apply Y1 | ((first | apply Y4 | apply Y5); simp only [evs, Nat.reduceEqDiff, reduceIte] <;> rfl))); done) | (apply Y6; (try simp only [evs]); first | rfl))))); refine eret_nil ?_; (simp only [evs, Nat.reduceEqDiff, reduceIte] <;> rfl))
   ·(apply again_of; exact Rf.mk; exact Rf.mk; (apply Ev.mk; (simp only [evs, Nat.reduceEqDiff, reduceIte] <;> rfl)); exact Rf.mk; (repeat (first | apply wpN_cons | apply g_next | (apply G.h; constructor <;> (first | exact Zc | apply gI | ((repeat' (first | exact Y0 | apply Y1 | ((first | apply Y4 | apply Y5); simp only [evs, Nat.reduceEqDiff, reduceIte] <;> rfl))); done) | (apply Y6; (try simp only [evs]); first | exact hw11.load1 rfl rfl rfl))))); refine eret_nil ?_; (simp only [evs, Nat.reduceEqDiff, reduceIte] <;> rfl))
   ·(apply again_of; exact Rf.mk; exact Rf.mk; (apply Ev.mk; (simp only [evs, Nat.reduceEqDiff, reduceIte] <;> rfl)); exact Rf.mk; (repeat (first | apply wpN_cons | apply g_next | (apply G.h; constructor <;> (first | exact Zc | apply gI | ((repeat' (first | exact Y0 | apply Y1 | ((first | apply Y4 | apply Y5); simp only [evs, Nat.reduceEqDiff, reduceIte] <;> rfl))); done) | (apply Y6; (try simp only [evs]); first | rfl))))); refine eret_nil ?_; (simp only [evs, Nat.reduceEqDiff, reduceIte] <;> rfl))
   ·(apply again_of; exact Rf.mk; exact Rf.mk; (apply Ev.mk; (simp only [evs, Nat.reduceEqDiff, reduceIte] <;> rfl)); exact Rf.mk; (repeat (first | apply wpN_cons | apply g_next | (apply G.h; constructor <;> (first | exact Zc | apply gI | ((repeat' (first | exact Y0 | apply Y1 | ((first | apply Y4 | apply Y5); simp only [evs, Nat.reduceEqDiff, reduceIte] <;> rfl))); done) | (apply Y6; (try simp only [evs]); first | rfl))))); refine eret_nil ?_; (simp only [evs, Nat.reduceEqDiff, reduceIte] <;> rfl))
   ·(apply again_of; exact Rf.mk; exact Rf.mk; (apply Ev.mk; (simp only [evs, Nat.reduceEqDiff, reduceIte] <;> rfl)); exact Rf.mk; (repeat (first | apply wpN_cons | apply g_next | (apply G.h; constructor <;> (first | exact Zc | apply gI | ((repeat' (first | exact Y0 | apply Y1 | ((first | apply Y4 | apply Y5); simp only [evs, Nat.reduceEqDiff, reduceIte] <;> rfl))); done) | (apply Y6; (try simp only [evs]); first | rfl))))); refine eret_nil ?_; (simp only [evs, Nat.reduceEqDiff, reduceIte] <;> rfl))
   ·(apply again_of; exact Rf.mk; exact Rf.mk; (apply Ev.mk; (simp only [evs, Nat.reduceEqDiff, reduceIte] <;> rfl)); exact Rf.mk; (repeat (first | apply wpN_cons | apply g_next | (apply G.h; constructor <;> (first | exact Zc | apply gI | ((repeat' (first | exact Y0 | apply Y1 | ((first | apply Y4 | apply Y5); simp only [evs, Nat.reduceEqDiff, reduceIte] <;> rfl))); done) | (apply Y6; (try simp only [evs]); first | exact hw11.load1 rfl rfl rfl))))); refine eret_nil ?_; (simp only [evs, Nat.reduceEqDiff, reduceIte] <;> rfl))
   (repeat (first | apply wpN_cons | apply g_next | (apply G.h; constructor <;> (first | exact Zc | apply gI | ((repeat' (first | exact Y0 | apply Y1 | ((first | apply Y4 | apply Y5); simp only [evs, Nat.reduceEqDiff, reduceIte] <;> rfl))); done) | (apply Y6; (try simp only [evs]); first | rfl)))))
   refine g_fin3c (b := m.next) (o := 0) (.agg ⟨[nilS, nilS, nilS]⟩) (I W.e) (I W.place) rfl ?_ ?_ ?_ ?_ ?_ ?_
   ·(simp only [evs, Nat.reduceEqDiff, reduceIte] <;> first | rfl | (congr 1; omega) | omega)
   ·(simp only [evs, Nat.reduceEqDiff, reduceIte] <;> first | rfl | (congr 1; omega) | omega)
   ·simp only [evs]; exact r11.loadA rfl rfl rfl (Nat.le_refl 3) rfl
   ·(simp only [evs, Nat.reduceEqDiff, reduceIte] <;> first | rfl | (congr 1; omega) | omega)
   ·(simp only [evs, Nat.reduceEqDiff, reduceIte] <;> first | rfl | (congr 1; omega) | omega)
   ·refine ⟨?_, .inr ⟨hp, .inl ⟨hWe, rfl⟩⟩⟩
    simp only [evs]
    have k11' : Keep (fun c => c < m.next) TT m m11 := by
     refine ⟨Nat.le_trans km10.1 k11.1, fun c o hc ho hx => ?_⟩
     exact k11.2 c o (Nat.lt_of_lt_of_le hc km10.1) (km10.2 c o hc ho (.inl hc)) (.inl hc)
    exact k11'
  ·have hWe0 : W.e = 0 := by omega
   obtain ⟨mb, mcap, mr, v1, v2, v3, v4⟩ := h10.meansAt (p := 0) hml hpos
   simp only at v1 hul hml
   rw [v1] at hw10
   (repeat (first | apply wpN_cons | apply g_next | (apply G.h; constructor <;> (first | exact Zc | apply gI | ((repeat' (first | exact Y0 | apply Y1 | ((first | apply Y4 | apply Y5); simp only [evs, Nat.reduceEqDiff, reduceIte] <;> rfl))); done) | (apply Y6; (try simp only [evs]); first | exact hw10.load1 rfl rfl rfl)))))
   refine ewp_loop (ι := Nat) (fun i a => (a.n = 109 ∧ a.defers = [] ∧ a.tmp 2 = ptr m.next ∧ a.tmp 7 = ptr (m2.next + 2) ∧ a.tmp 71 = .slice (some ⟨mb, 0, none⟩) l.length mcap ∧ a.tmp 72 = I l.length ∧ a.tmp 73 = I i) ∧ i ≤ l.length ∧ Rep (fun c => c < m.next) ⟨b, off, cap, l, hoisted l⟩ a.m (m2.next + 2) { W with uses := finTo W.decls W.means W.uses i } [mg.next + 1] dB V ∧ Row a.m m.next [nilS, nilS, nilS] 31 0 ∧ Keep (fun c => c < m.next) TT m a.m) (fun i => l.length - i) 0 ?_ ?_
   ·refine ⟨(by refine ⟨?_, ?_, ?_, ?_, ?_, ?_, ?_⟩ <;> (simp only [evs, Nat.reduceEqDiff, reduceIte] <;> first | rfl | (congr 1; omega) | omega)), Nat.zero_le _, ?_, by simp only [evs]; exact z10, by simp only [evs]; exact km10⟩
    simp only [evs]
    have : ({ W with uses := finTo W.decls W.means W.uses 0 } : MS) = W := by unfold finTo; simp
    rw [this]; exact h10
   rintro i a ⟨⟨qn, qd, q2_, q7_, q71, q72, q73⟩, hi, hr, hz', hk⟩ ih
   have hwr := hr.w
   have hful : (finTo W.decls W.means W.uses i).length = l.length := by rw [finTo_len _ _ _ _ (by omega) (by omega), hul]
   rcases Nat.lt_or_ge i l.length with hlt | hge
   ·obtain ⟨ub, ucap, ur, u1, u2, u3, u4⟩ := hr.usesAt (p := i) hful hlt
    simp only at u1
    rw [u1] at hwr
    obtain ⟨b', cap', r', n', e1, e2, e3, e4, e5, e6, e7⟩ := hr.means.at (i := i) (by simp only [List.length_map]; omega)
    rw [v1] at e1
    cases e1
    have hmi : W.means[i]? = some W.means[i] := List.getElem?_eq_getElem (by omega)
    have hui : W.uses[i]? = some W.uses[i] := List.getElem?_eq_getElem (by omega)
    generalize hmo : W.means[i]'(by omega) = o at hmi
    have hri : r'[0 + i * 1]? = some (optPtr dB o) := by
     rw [show 0 + i * 1 = i by omega, e7]
     show (W.means.map (optPtr dB))[i]? = _
     rw [List.getElem?_map, hmi]; rfl
    have hsucc := finTo_succ W.decls W.means W.uses i (by omega) (by omega) hmi hui
    cases o with
    | none =>
     replace hri : r'[0 + i * 1]? = some (.pointer none) := hri
     (repeat (first | apply wpN_cons | apply g_next | (apply G.h; constructor <;> (first | exact Zc | apply gI | ((repeat' (first | exact Y0 | apply Y1 | ((first | apply Y4 | apply Y5); simp only [evs, Nat.reduceEqDiff, reduceIte, qn, qd, q2_, q7_, q71, q72, q73] <;> rfl))); done) | (apply Y6; (try simp only [evs, qn, qd, q2_, q7_, q71, q72, q73]); first | exact e3.load1 rfl rfl hri)))))
     refine ih (i + 1) _ ⟨(by refine ⟨?_, ?_, ?_, ?_, ?_, ?_, ?_⟩ <;> (simp only [evs, Nat.reduceEqDiff, reduceIte, qn, qd, q2_, q7_, q71, q72, q73] <;> first | rfl | (congr 1; omega) | omega)), hlt, ?_, by simp only [evs]; exact hz', by simp only [evs]; exact hk⟩ (by omega)
     simp only [evs]
     have : finTo W.decls W.means W.uses (i + 1) = finTo W.decls W.means W.uses i := by
      rw [hsucc]
      show List.set _ _ W.uses[i] = _
      have hg := finTo_get W.decls W.means W.uses i (by omega) (by omega)
      rw [hui] at hg
      exact List.ext_getElem? fun j => by
       rw [List.getElem?_set]
       by_cases hij : i = j
       ·subst hij
        rw [if_pos rfl, if_pos (by omega), hg]
       ·rw [if_neg hij]
     rw [this]; exact hr
    | some d =>
     have hd : d < W.decls.length := wi1.refs.1 d (by rw [← hmo]; exact List.getElem_mem _)
     have hd' : d < dB.length := by omega
     replace hri : r'[0 + i * 1]? = some (ptr dB[d]) := by rw [hri]; show some (dptr dB d) = _; rw [dptr_at hd']
     have hdr := (hr.decls.2.2 d dB[d] W.decls[d] (List.getElem?_eq_getElem hd') (List.getElem?_eq_getElem hd)).2
     have hst : stepU W.decls (some d) W.uses[i] = (if W.decls[d].cap then 2 else 1, W.decls[d].slot) := stepU_some (List.getElem?_eq_getElem hd)
     rw [hst] at hsucc
     generalize W.decls[d] = dc at hdr hsucc
     (repeat (first | apply wpN_cons | apply g_next | (apply G.h; constructor <;> (first | exact Zc | apply gI | ((repeat' (first | exact Y0 | apply Y1 | ((first | apply Y4 | apply Y5); simp only [evs, Nat.reduceEqDiff, reduceIte, qn, qd, q2_, q7_, q71, q72, q73] <;> rfl))); done) | (apply Y6; (try simp only [evs, qn, qd, q2_, q7_, q71, q72, q73]); first | exact e3.load1 rfl rfl hri | exact hdr.load1 rfl rfl rfl | exact hwr.load1 rfl rfl rfl)))))
     (apply g_stR <;> (first | exact Zc | apply gI | ((repeat' (first | exact Y0 | apply Y1 | exact Y2 | apply Y3 | ((first | apply Y4 | apply Y5); simp only [evs, Nat.reduceEqDiff, reduceIte, qn, qd, q2_, q7_, q71, q72, q73] <;> rfl))); done) | (apply Hy.mk; (try simp only [evs, qn, qd, q2_, q7_, q71, q72, q73]); first | exact u3 | exact u4 | assumption) | (apply Om.mk; first | exact u3 | exact u4) | (apply Y6; (try simp only [evs, qn, qd, q2_, q7_, q71, q72, q73]); first | rfl) | apply Cn.mk))
     intro m3 r3 o3 n3; simp only [evs, qn, qd, q2_, q7_, q71, q72, q73] at r3 o3 n3
     have r3' : Row m3 ub (put ur (i * 2) (encP (1, dc.slot))) 57 0 := by have z : Row m3 ub (put ur (0 + i * 2) (encP (1, dc.slot))) 57 0 := r3; rw [Nat.zero_add] at z; exact z
     have k3 : Keep (fun c => c < m.next) [57] a.m m3 := Keep.row u3 u2 (by decide) o3 n3
     have hdr3 := hdr.stay k3 (.inr (by decide))
     have hwr3 := hwr.stay k3 (.inr (by decide))
     cases hcap : dc.cap with
     | false =>
      rw [hcap] at hdr3 hsucc
      (repeat (first | apply wpN_cons | apply g_next | (apply G.h; constructor <;> (first | exact Zc | apply gI | ((repeat' (first | exact Y0 | apply Y1 | ((first | apply Y4 | apply Y5); simp only [evs, Nat.reduceEqDiff, reduceIte, qn, qd, q2_, q7_, q71, q72, q73] <;> rfl))); done) | (apply Y6; (try simp only [evs, qn, qd, q2_, q7_, q71, q72, q73]); first | exact hdr3.load1 rfl rfl rfl)))))
      obtain ⟨h4, k4⟩ := hr.setUses (1, dc.slot) u1 u2 u3 (by simp only; omega) r3' o3 n3
      refine ih (i + 1) _ ⟨(by refine ⟨?_, ?_, ?_, ?_, ?_, ?_, ?_⟩ <;> (simp only [evs, Nat.reduceEqDiff, reduceIte, qn, qd, q2_, q7_, q71, q72, q73] <;> first | rfl | (congr 1; omega) | omega)), hlt, ?_, by simp only [evs]; exact hz'.stay k4 (.inr (by decide)), by simp only [evs]; exact hk.trans (k4.mono (by simp))⟩ (by omega)
      simp only [evs]
      rw [hsucc]; exact h4
     | true =>
      rw [hcap] at hdr3 hsucc
      have u43 : 0 + i * 2 + 1 ≤ (put ur (i * 2) (encP (1, dc.slot))).length := by rw [put_length]; omega
      (repeat (first | apply wpN_cons | apply g_next | (apply G.h; constructor <;> (first | exact Zc | apply gI | ((repeat' (first | exact Y0 | apply Y1 | ((first | apply Y4 | apply Y5); simp only [evs, Nat.reduceEqDiff, reduceIte, qn, qd, q2_, q7_, q71, q72, q73] <;> rfl))); done) | (apply Y6; (try simp only [evs, qn, qd, q2_, q7_, q71, q72, q73]); first | exact hdr3.load1 rfl rfl rfl | exact hwr3.load1 rfl rfl rfl)))))
      (apply g_stR <;> (first | exact Zc | apply gI | ((repeat' (first | exact Y0 | apply Y1 | exact Y2 | apply Y3 | ((first | apply Y4 | apply Y5); simp only [evs, Nat.reduceEqDiff, reduceIte, qn, qd, q2_, q7_, q71, q72, q73] <;> rfl))); done) | (apply Hy.mk; (try simp only [evs, qn, qd, q2_, q7_, q71, q72, q73]); first | exact r3' | exact u43 | assumption) | (apply Om.mk; first | exact r3' | exact u43) | (apply Y6; (try simp only [evs, qn, qd, q2_, q7_, q71, q72, q73]); first | rfl) | apply Cn.mk))
      intro m4 r4 o4 n4; simp only [evs, qn, qd, q2_, q7_, q71, q72, q73] at r4 o4 n4
      have r4' : Row m4 ub (put ur (i * 2) (encP (2, dc.slot))) 57 0 := by
       have z : Row m4 ub (put (put ur (i * 2) [I 1, I dc.slot]) (0 + i * 2 + 0) [I 2]) 57 0 := r4
       rw [show 0 + i * 2 + 0 = i * 2 by omega, put_put] at z
       exact z
      (repeat (first | apply wpN_cons | apply g_next | (apply G.h; constructor <;> (first | exact Zc | apply gI | ((repeat' (first | exact Y0 | apply Y1 | ((first | apply Y4 | apply Y5); simp only [evs, Nat.reduceEqDiff, reduceIte, qn, qd, q2_, q7_, q71, q72, q73] <;> rfl))); done) | (apply Y6; (try simp only [evs, qn, qd, q2_, q7_, q71, q72, q73]); first | rfl)))))
      obtain ⟨h4, k4⟩ := hr.setUses (2, dc.slot) u1 u2 u3 (by simp only; omega) r4' (fun x hx => (o4 x hx).trans (o3 x hx)) (n4.trans n3)
      refine ih (i + 1) _ ⟨(by refine ⟨?_, ?_, ?_, ?_, ?_, ?_, ?_⟩ <;> (simp only [evs, Nat.reduceEqDiff, reduceIte, qn, qd, q2_, q7_, q71, q72, q73] <;> first | rfl | (congr 1; omega) | omega)), hlt, ?_, by simp only [evs]; exact hz'.stay k4 (.inr (by decide)), by simp only [evs]; exact hk.trans (k4.mono (by simp))⟩ (by omega)
      simp only [evs]
      rw [hsucc]; exact h4
   ·obtain rfl : i = l.length := by omega
    have hfin : finTo W.decls W.means W.uses l.length = finish W.decls W.means W.uses := by
     rw [finish_zip _ _ _ (by omega)]
     unfold finTo
     rw [List.drop_of_length_le (by omega), List.append_nil, List.take_of_length_le (by simp; omega)]
    obtain ⟨fa, fn, fc, fe, -⟩ := hr.funs.form (by decide)
    obtain ⟨ua, un, uc, ue, -⟩ := hr.uses.form (by decide)
    obtain ⟨ga, gn, gc, ge, -⟩ := hr.globals.form (by decide)
    rw [fe, ue, ge] at hwr
    (repeat (first | apply wpN_cons | apply g_next | (apply G.h; constructor <;> (first | exact Zc | apply gI | ((repeat' (first | exact Y0 | apply Y1 | ((first | apply Y4 | apply Y5); simp only [evs, Nat.reduceEqDiff, reduceIte, qn, qd, q2_, q7_, q71, q72, q73] <;> rfl))); done) | (apply Y6; (try simp only [evs, qn, qd, q2_, q7_, q71, q72, q73]); first | exact hwr.loadA rfl rfl rfl (show 0 + 2 + 3 ≤ 10 by decide) rfl)))))
    (apply g_stR <;> (first | exact Zc | apply gI | ((repeat' (first | exact Y0 | apply Y1 | exact Y2 | apply Y3 | ((first | apply Y4 | apply Y5); simp only [evs, Nat.reduceEqDiff, reduceIte, qn, qd, q2_, q7_, q71, q72, q73] <;> rfl))); done) | (apply Hy.mk; (try simp only [evs, qn, qd, q2_, q7_, q71, q72, q73]); first | exact hz' | assumption) | (apply Om.mk; first | exact hz') | (apply Y6; (try simp only [evs, qn, qd, q2_, q7_, q71, q72, q73]); first | rfl) | apply Cn.mk))
    intro m3 r3 o3 n3; simp only [evs, qn, qd, q2_, q7_, q71, q72, q73] at r3 o3 n3
    have k3 : Keep (fun c => c < m.next) [31] a.m m3 := Keep.row hz' (hb1 _ (Nat.le_refl _)) (by decide) o3 n3
    (repeat (first | apply wpN_cons | apply g_next | (apply G.h; constructor <;> (first | exact Zc | apply gI | ((repeat' (first | exact Y0 | apply Y1 | ((first | apply Y4 | apply Y5); simp only [evs, Nat.reduceEqDiff, reduceIte, qn, qd, q2_, q7_, q71, q72, q73] <;> rfl))); done) | (apply Y6; (try simp only [evs, qn, qd, q2_, q7_, q71, q72, q73]); first | rfl)))))
    refine g_fin3c (b := m.next) (o := 0) (.agg ⟨[.slice fa fn fc, .slice ua un uc, .slice ga gn gc]⟩) (I 0) (I 0) rfl ?_ ?_ ?_ ?_ ?_ ?_
    ·(simp only [evs, Nat.reduceEqDiff, reduceIte, qn, qd, q2_, q7_, q71, q72, q73] <;> first | rfl | (congr 1; omega) | omega)
    ·(simp only [evs, Nat.reduceEqDiff, reduceIte, qn, qd, q2_, q7_, q71, q72, q73] <;> first | rfl | (congr 1; omega) | omega)
    ·simp only [evs]; exact r3.loadA rfl rfl rfl (Nat.le_refl 3) rfl
    ·(simp only [evs, Nat.reduceEqDiff, reduceIte, qn, qd, q2_, q7_, q71, q72, q73] <;> first | rfl | (congr 1; omega) | omega)
    ·(simp only [evs, Nat.reduceEqDiff, reduceIte, qn, qd, q2_, q7_, q71, q72, q73] <;> first | rfl | (congr 1; omega) | omega)
    ·simp only [evs]
     have hus := hr.uses
     simp only [hfin] at hus
     refine ⟨⟨Nat.le_trans hk.1 k3.1, fun c o hc ho hx => k3.2 c o (Nat.lt_of_lt_of_le hc hk.1) (hk.2 c o hc ho (.inl hc)) (.inl hc)⟩, .inr ⟨hp, .inr ⟨hWe0, V.fv, V.uv, V.gv, V.cvs, by rw [fe, ue, ge], hr.funs.stay k3 (by decide), hr.caps.stay k3 (by decide), hus.stay k3 (by decide), hr.globals.stay k3 (by decide)⟩⟩⟩
 ·have he0 : e ≠ 0 := fun h => hp (he.1 h)
  (repeat (first | apply wpN_cons | apply g_next | (apply G.h; constructor <;> (first | exact Zc | apply gI | ((repeat' (first | exact Y0 | apply Y1 | ((first | apply Y4 | apply Y5); simp only [evs, Nat.reduceEqDiff, reduceIte] <;> rfl))); done) | (apply Y6; (try simp only [evs]); first | rfl)))))
  (apply g_stR <;> (first | exact Zc | apply gI | ((repeat' (first | exact Y0 | apply Y1 | exact Y2 | apply Y3 | ((first | apply Y4 | apply Y5); simp only [evs, Nat.reduceEqDiff, reduceIte] <;> rfl))); done) | (apply Hy.mk; (try simp only [evs]); first | exact hz2 | assumption) | (apply Om.mk; first | exact hz2) | (apply Y6; (try simp only [evs]); first | rfl) | apply Cn.mk))
  intro m3 r3 o3 n3; simp only [evs] at r3 o3 n3
  (repeat (first | apply wpN_cons | apply g_next | (apply G.h; constructor <;> (first | exact Zc | apply gI | ((repeat' (first | exact Y0 | apply Y1 | ((first | apply Y4 | apply Y5); simp only [evs, Nat.reduceEqDiff, reduceIte] <;> rfl))); done) | (apply Y6; (try simp only [evs]); first | rfl)))))
  refine g_fin3c (b := m.next) (o := 0) (.agg ⟨[nilS, nilS, nilS]⟩) (I e) (I 0) rfl ?_ ?_ ?_ ?_ ?_ ?_
  ·(simp only [evs, Nat.reduceEqDiff, reduceIte] <;> first | rfl | (congr 1; omega) | omega)
  ·(simp only [evs, Nat.reduceEqDiff, reduceIte] <;> first | rfl | (congr 1; omega) | omega)
  ·simp only [evs]; exact r3.loadA rfl rfl rfl (Nat.le_refl 3) rfl
  ·(simp only [evs, Nat.reduceEqDiff, reduceIte] <;> first | rfl | (congr 1; omega) | omega)
  ·(simp only [evs, Nat.reduceEqDiff, reduceIte] <;> first | rfl | (congr 1; omega) | omega)
  ·simp only [evs]
   exact ⟨Keep.grow (g2.wrote (Nat.le_refl _) o3 n3), .inl ⟨by simpa using hp, e, he0, rfl⟩⟩
end
end Go.Proofs.YtihokakelnfdgaaDoor
