/- Part of a verified evaluator of the model's programs and of runs by it: SC0 SC. -/
import Derived.Test.YtihokakelnfdgaaDoorSB
import Derived.Test.YtihokakelnfdgaaDoorSCx
namespace Go.Proofs.YtihokakelnfdgaaDoor
set_option linter.unusedSimpArgs false
open Go Go.Ev
set_option linter.unusedVariables false

def okR (x : Nd) : Bool := countB x && fieldsB x

/-- what waits for so many, and what each must be. -/
structure Du where
 n : Int
 pl : Nat → Nat
def Nd.du (x : Nd) : Du := ⟨x.n, placeR x⟩

/-- nodes that have all that they are made of are done. -/
def pop : List (Du × Nat) → List (Du × Nat)
 | [] => []
 | (x, c) :: st => if (c : Int) = x.n then pop st else (x, c) :: st

/-- is the rest just what those that wait are made of? -/
def accept : List Nd → List (Du × Nat) → Bool
 | [], st => (pop st).isEmpty
 | x :: r, st => match pop st with
  | [] => false
  | (y, c) :: st' => mayB x.kind (y.pl c) && (okR x && accept r ((x.du, 0) :: (y, c + 1) :: st'))

theorem accept_pop (r : List Nd) (x : Du) (c : Nat) (st : List (Du × Nat)) (h : (c : Int) = x.n) : accept r ((x, c) :: st) = accept r st := by
 cases r <;> simp only [accept, pop, h, if_true]
theorem pop_not (x : Du) (c : Nat) (st : List (Du × Nat)) (h : (c : Int) < x.n) : pop ((x, c) :: st) = (x, c) :: st := by
 simp only [pop, if_neg (show ¬ (c : Int) = x.n by omega)]
theorem accept_nil (x : Du) (c : Nat) (st : List (Du × Nat)) (h : (c : Int) < x.n) : accept [] ((x, c) :: st) = false := by
 simp only [accept, pop_not x c st h]; rfl
theorem accept_cons (x : Nd) (y : Du) (r : List Nd) (c : Nat) (st : List (Du × Nat)) (h : (c : Int) < y.n) :
  accept (x :: r) ((y, c) :: st) = (mayB x.kind (y.pl c) && (okR x && accept r ((x.du, 0) :: (y, c + 1) :: st))) := by
 simp only [accept, pop_not y c st h]

def root : Du := ⟨1, fun _ => 0⟩
/-- is it a program? -/
def okProg (l : List Nd) : Bool := accept l [(root, 0)]

theorem may_range {kind : Int} {p : Nat} (h : mayB kind p = true) : 1 ≤ kind ∧ kind ≤ 32 := by
 unfold mayB at h
 (repeat' split at h) <;> have := of_decide_eq_true h <;> omega
theorem count_pos {x : Nd} (h : countB x = true) : 0 ≤ x.n := by
 unfold countB at h
 (repeat' split at h) <;> have := of_decide_eq_true h <;> omega
theorem placeR_le {x : Nd} (h : countB x = true) (i : Nat) (hi : (i : Int) < x.n) : placeR x i ≤ 7 := by
 unfold placeR
 by_cases h5 : x.kind = 5
 ·have : x.n = 2 ∨ x.n = 3 := by
   have h2 : countB x = decide (x.n = 2 ∨ x.n = 3) := by simp [countB, h5]
   rw [h2] at h
   exact of_decide_eq_true h
  (repeat' split) <;> omega
 ·(repeat' split) <;> omega

theorem Nodes.grow {m m' : Mem} {b off : Nat} {l : List Nd} (h : Nodes m b off l) (hb : b < m.next) (g : Grow m m') : Nodes m' b off l := by
 obtain ⟨n, c, ty, kd, h1, h2, h3⟩ := h
 exact ⟨n, c, ty, kd, by rw [g.2 b hb]; exact h1, h2, h3⟩
theorem Nodes.all {m : Mem} {b off : Nat} {l : List Nd} (h : Nodes m b off l) (i : Nat) (hi : i < l.length) : loadAt evEnv m 43 b (off + i * 5) = some (.agg ⟨l[i].val⟩) := by
 obtain ⟨n, c, ty, kd, h1, h2, h3⟩ := h
 refine load_agg (k := 5) rfl rfl rfl h1 (by omega) ?_
 have e0 := h3 i 0 hi (by omega)
 have e1 := h3 i 1 hi (by omega)
 have e2 := h3 i 2 hi (by omega)
 have e3 := h3 i 3 hi (by omega)
 have e4 := h3 i 4 hi (by omega)
 simp only [Nat.add_zero] at e0
 simp only [cellsFrom, e0, show off + i * 5 + 1 + 1 = off + i * 5 + 2 from rfl, show off + i * 5 + 2 + 1 = off + i * 5 + 3 from rfl, show off + i * 5 + 3 + 1 = off + i * 5 + 4 from rfl, e1, e2, e3, e4]
 rfl
end Go.Proofs.YtihokakelnfdgaaDoor

namespace Go.Proofs.YtihokakelnfdgaaDoor
open Go Go.Ev
set_option maxRecDepth 100000
set_option linter.unusedVariables false
set_option linter.unusedSimpArgs false
set_option pp.maxSteps 1500
attribute [local irreducible] quiet allocs effect wp ret wpO Runs Act.tmp Act.eval fin results Tree.set binOp loadAt storeAt target wanted cellsFrom

def zeroNode : List Value := [.int .i64 0, .int .i64 0, .string ⟨⟨[]⟩⟩, .int .i64 0, .int .i64 0]

/-- what check answers of the node at a place that must be such. -/
def Checked (l : List Nd) (at_ must : Nat) (m : Mem) (v : Value) (m' : Mem) : Prop :=
 Grow m m' ∧ ∃ p e : Nat, v = .tuple ⟨[.int .i64 p, .int .i64 e]⟩ ∧ p ≤ l.length ∧ (e = 0 → at_ < p) ∧
  ∀ (y : Du) (c : Nat) (st : List (Du × Nat)), (c : Int) < y.n → y.pl c = must →
   (e = 0 → accept (l.drop at_) ((y, c) :: st) = accept (l.drop p) ((y, c + 1) :: st)) ∧ (e ≠ 0 → accept (l.drop at_) ((y, c) :: st) = false)

set_option maxHeartbeats 4000000 in
theorem check33 (b off cap : Nat) (l : List Nd) (hok : ∀ x ∈ l, x.ok ∧ x.text.length ≤ 9223372036854775807) (hl : l.length ≤ 100000) :
  ∀ (d at_ must : Nat) (m : Mem), l.length - at_ ≤ d → at_ ≤ l.length → must ≤ 7 → Nodes m b off l → b < m.next →
   Runs evEnv 33 [.slice (some ⟨b, off, none⟩) l.length cap, .int .i64 at_, .int .i64 must] m (Checked l at_ must m) := by
 intro d
 induction d with
 | zero =>
  intro at_ must m hd hat hmust hN hbn
  refine runs_start rfl rfl rfl rfl ?_
  (repeat (first | (apply G.h; constructor <;> (first | exact Zc | apply gI | ((repeat' (first | exact Y0 | apply Y1 | ((first | apply Y4 | apply Y5); simp only [evs, Nat.reduceEqDiff, reduceIte] <;> rfl))); done) | (apply Y6; (try simp only [evs]); first | rfl)))))
  (refine g_fin (by repeat' first | exact Rs.nil | apply Rs.cons | (apply Y4; simp only [evs, Nat.reduceEqDiff, reduceIte] <;> rfl)) (by (simp only [evs, Nat.reduceEqDiff, reduceIte] <;> first | rfl | (congr 1; omega) | omega)) ?_)
  refine ⟨by simp only [evs]; exact Grow.refl m, at_, 6, rfl, hat, fun h => absurd h (by decide), fun y c st hc hp => ⟨fun h => absurd h (by decide), fun _ => ?_⟩⟩
  rw [List.drop_of_length_le (by omega)]
  exact accept_nil y c st hc
 | succ d ihd =>
  intro at_ must m hd hat hmust hN hbn
  rcases Nat.lt_or_ge at_ l.length with hlt | hge
  rotate_left
  ·refine runs_start rfl rfl rfl rfl ?_
   (repeat (first | (apply G.h; constructor <;> (first | exact Zc | apply gI | ((repeat' (first | exact Y0 | apply Y1 | ((first | apply Y4 | apply Y5); simp only [evs, Nat.reduceEqDiff, reduceIte] <;> rfl))); done) | (apply Y6; (try simp only [evs]); first | rfl)))))
   (refine g_fin (by repeat' first | exact Rs.nil | apply Rs.cons | (apply Y4; simp only [evs, Nat.reduceEqDiff, reduceIte] <;> rfl)) (by (simp only [evs, Nat.reduceEqDiff, reduceIte] <;> first | rfl | (congr 1; omega) | omega)) ?_)
   refine ⟨by simp only [evs]; exact Grow.refl m, at_, 6, rfl, hat, fun h => absurd h (by decide), fun y c st hc hp => ⟨fun h => absurd h (by decide), fun _ => ?_⟩⟩
   rw [List.drop_of_length_le (by omega)]
   exact accept_nil y c st hc
  have hx := hN.all at_ hlt
  have hxok := hok l[at_] (List.getElem_mem hlt)
  have hdrop : l.drop at_ = l[at_] :: l.drop (at_ + 1) := List.drop_eq_getElem_cons hlt
  generalize l[at_] = x at hx hxok hdrop
  obtain ⟨hxo, hxt⟩ := hxok
  have hacc : ∀ (y : Du) (c : Nat) (st : List (Du × Nat)), (c : Int) < y.n → y.pl c = must → accept (l.drop at_) ((y, c) :: st) = (mayB x.kind must && (okR x && accept (l.drop (at_ + 1)) ((x.du, 0) :: (y, c + 1) :: st))) := by
   intro y c st hc hp
   rw [hdrop, accept_cons _ _ _ _ _ hc, hp]
  refine runs_start rfl rfl rfl rfl ?_
  (repeat (first | (apply G.h; constructor <;> (first | exact Zc | apply gI | ((repeat' (first | exact Y0 | apply Y1 | ((first | apply Y4 | apply Y5); simp only [evs, Nat.reduceEqDiff, reduceIte] <;> rfl))); done) | (apply Y6; (try simp only [evs]); first | exact hx)))))
  obtain ⟨m2, hst, hrow, hoth, hnx⟩ := (row_new m zeroNode 43 0).fill (E := evEnv) (t := 43) (k := 5) (v := .agg ⟨x.val⟩) (by decide) rfl rfl rfl rfl rfl
  have hg : Grow m m2 := ((Grow.refl m).new _).wrote (Nat.le_refl _) hoth hnx
  have hn2 : m2.next = m.next + 1 := hnx
  apply ewpO_store
  focus exact want_none
  focus (simp only [evs, Nat.reduceEqDiff, reduceIte] <;> rfl)
  focus (simp only [evs, Nat.reduceEqDiff, reduceIte] <;> rfl)
  focus (simp only [evs]; exact hst)
  (repeat (first | (apply G.h; constructor <;> (first | exact Zc | apply gI | ((repeat' (first | exact Y0 | apply Y1 | ((first | apply Y4 | apply Y5); simp only [evs, Nat.reduceEqDiff, reduceIte] <;> rfl))); done) | (apply Y6; (try simp only [evs]); first | exact hrow.load1 rfl rfl rfl)))))
  ((first | apply g_run | apply g_run0) <;> (first | ((repeat' (first | exact Y0 | apply Y1 | exact Y2 | apply Y3 | ((first | apply Y4 | apply Y5); simp only [evs, Nat.reduceEqDiff, reduceIte] <;> rfl))); done) | exact Rn.mk (may62 _ _ _ hmust) | apply Cn.mk))
  rintro v m' ⟨rfl, rfl⟩
  cases hmay : mayB x.kind must with
  | false =>
   (repeat (first | (apply G.h; constructor <;> (first | exact Zc | apply gI | ((repeat' (first | exact Y0 | apply Y1 | ((first | apply Y4 | apply Y5); simp only [evs, Nat.reduceEqDiff, reduceIte, hmay] <;> rfl))); done) | (apply Y6; (try simp only [evs, hmay]); first | rfl)))))
   (refine g_fin (by repeat' first | exact Rs.nil | apply Rs.cons | (apply Y4; simp only [evs, Nat.reduceEqDiff, reduceIte, hmay] <;> rfl)) (by (simp only [evs, Nat.reduceEqDiff, reduceIte, hmay] <;> first | rfl | (congr 1; omega) | omega)) ?_)
   refine ⟨by simp only [evs]; exact hg, at_, 8, rfl, hat, fun h => absurd h (by decide), fun y c st hc hp => ⟨fun h => absurd h (by decide), fun _ => ?_⟩⟩
   rw [hacc y c st hc hp, hmay]; rfl
  | true =>
  obtain ⟨k1, k2⟩ := may_range hmay
  (repeat (first | (apply G.h; constructor <;> (first | exact Zc | apply gI | ((repeat' (first | exact Y0 | apply Y1 | ((first | apply Y4 | apply Y5); simp only [evs, Nat.reduceEqDiff, reduceIte, hmay] <;> rfl))); done) | (apply Y6; (try simp only [evs, hmay]); first | exact hrow.loadA rfl rfl rfl (Nat.le_refl 5) rfl)))))
  ((first | apply g_run | apply g_run0) <;> (first | ((repeat' (first | exact Y0 | apply Y1 | exact Y2 | apply Y3 | ((first | apply Y4 | apply Y5); simp only [evs, Nat.reduceEqDiff, reduceIte, hmay] <;> rfl))); done) | exact Rn.mk (count63 x _ hxo k1 k2) | apply Cn.mk))
  rintro v m3 ⟨rfl, hg3⟩
  simp only [evs] at hg3
  have hrow3 := hrow.grow hg3
  cases hcnt : countB x with
  | false =>
   (repeat (first | (apply G.h; constructor <;> (first | exact Zc | apply gI | ((repeat' (first | exact Y0 | apply Y1 | ((first | apply Y4 | apply Y5); simp only [evs, Nat.reduceEqDiff, reduceIte, hmay, hcnt] <;> rfl))); done) | (apply Y6; (try simp only [evs, hmay, hcnt]); first | rfl)))))
   (refine g_fin (by repeat' first | exact Rs.nil | apply Rs.cons | (apply Y4; simp only [evs, Nat.reduceEqDiff, reduceIte, hmay, hcnt] <;> rfl)) (by (simp only [evs, Nat.reduceEqDiff, reduceIte, hmay, hcnt] <;> first | rfl | (congr 1; omega) | omega)) ?_)
   refine ⟨by simp only [evs]; exact hg.trans hg3, at_, 1, rfl, hat, fun h => absurd h (by decide), fun y c st hc hp => ⟨fun h => absurd h (by decide), fun _ => ?_⟩⟩
   rw [hacc y c st hc hp, show okR x = false by unfold okR; rw [hcnt]; rfl]; simp
  | true =>
  (repeat (first | (apply G.h; constructor <;> (first | exact Zc | apply gI | ((repeat' (first | exact Y0 | apply Y1 | ((first | apply Y4 | apply Y5); simp only [evs, Nat.reduceEqDiff, reduceIte, hmay, hcnt] <;> rfl))); done) | (apply Y6; (try simp only [evs, hmay, hcnt]); first | exact hrow3.loadA rfl rfl rfl (Nat.le_refl 5) rfl)))))
  ((first | apply g_run | apply g_run0) <;> (first | ((repeat' (first | exact Y0 | apply Y1 | exact Y2 | apply Y3 | ((first | apply Y4 | apply Y5); simp only [evs, Nat.reduceEqDiff, reduceIte, hmay, hcnt] <;> rfl))); done) | exact Rn.mk (fields64 x _ hxo hxt) | apply Cn.mk))
  rintro v m4 ⟨rfl, hg4⟩
  simp only [evs] at hg4
  have hrow4 := hrow3.grow hg4
  have hgg := (hg.trans hg3).trans hg4
  cases hfld : fieldsB x with
  | false =>
   (repeat (first | (apply G.h; constructor <;> (first | exact Zc | apply gI | ((repeat' (first | exact Y0 | apply Y1 | ((first | apply Y4 | apply Y5); simp only [evs, Nat.reduceEqDiff, reduceIte, hmay, hcnt, hfld] <;> rfl))); done) | (apply Y6; (try simp only [evs, hmay, hcnt, hfld]); first | rfl)))))
   (refine g_fin (by repeat' first | exact Rs.nil | apply Rs.cons | (apply Y4; simp only [evs, Nat.reduceEqDiff, reduceIte, hmay, hcnt, hfld] <;> rfl)) (by (simp only [evs, Nat.reduceEqDiff, reduceIte, hmay, hcnt, hfld] <;> first | rfl | (congr 1; omega) | omega)) ?_)
   refine ⟨by simp only [evs]; exact hgg, at_, 1, rfl, hat, fun h => absurd h (by decide), fun y c st hc hp => ⟨fun h => absurd h (by decide), fun _ => ?_⟩⟩
   rw [hacc y c st hc hp, show okR x = false by unfold okR; rw [hcnt, hfld]; rfl]; simp
  | true =>
  have hokx : okR x = true := by unfold okR; rw [hcnt, hfld]; rfl
  have hn0 := count_pos hcnt
  obtain ⟨-, ⟨n1, n2⟩, -, -⟩ := hxo
  (repeat (first | (apply G.h; constructor <;> (first | exact Zc | apply gI | ((repeat' (first | exact Y0 | apply Y1 | ((first | apply Y4 | apply Y5); simp only [evs, Nat.reduceEqDiff, reduceIte, hmay, hcnt, hfld] <;> rfl))); done) | (apply Y6; (try simp only [evs, hmay, hcnt, hfld]); first | rfl)))))
  refine ewp_loop (ι := Nat × Nat × Mem) (fun i a => a.n = 60 ∧ a.defers = [] ∧ a.m = i.2.2 ∧ Grow m i.2.2 ∧ Row i.2.2 m.next x.val 43 0 ∧ a.tmp 0 = .slice (some ⟨b, off, none⟩) l.length cap ∧ a.tmp 8 = .pointer (some ⟨m.next, 0, none⟩) ∧ a.tmp 9 = .int .i64 i.2.1 ∧ a.tmp 10 = .int .i64 i.1 ∧
   (i.1 : Int) ≤ x.n ∧ i.1 + at_ + 1 ≤ i.2.1 ∧ i.2.1 ≤ l.length ∧ ∀ (y : Du) (c : Nat) (st : List (Du × Nat)), (c : Int) < y.n → y.pl c = must → accept (l.drop at_) ((y, c) :: st) = accept (l.drop i.2.1) ((x.du, i.1) :: (y, c + 1) :: st)) (fun i => l.length - i.2.1) (0, at_ + 1, m4) ?_ ?_
  ·refine ⟨by (simp only [evs, Nat.reduceEqDiff, reduceIte] <;> first | rfl | (congr 1; omega) | omega), by (simp only [evs, Nat.reduceEqDiff, reduceIte] <;> first | rfl | (congr 1; omega) | omega), by (simp only [evs, Nat.reduceEqDiff, reduceIte] <;> first | rfl | (congr 1; omega) | omega), hgg, hrow4, by (simp only [evs, Nat.reduceEqDiff, reduceIte] <;> first | rfl | (congr 1; omega) | omega), by (simp only [evs, Nat.reduceEqDiff, reduceIte] <;> first | rfl | (congr 1; omega) | omega), by (simp only [evs, Nat.reduceEqDiff, reduceIte] <;> first | rfl | (congr 1; omega) | omega), by (simp only [evs, Nat.reduceEqDiff, reduceIte] <;> first | rfl | (congr 1; omega) | omega), hn0, by simp only; omega, by simp only; omega, fun y c st hc hp => ?_⟩
   rw [hacc y c st hc hp, hmay, hokx]; rfl
  rintro ⟨i, k, mk⟩ a ⟨hn, hd2, hm, hgk, hrk, h0, h8, h9, h10, hin, hik, hkl, hak⟩ ih
  simp only at hn hd2 hm hgk hrk h0 h8 h9 h10 hin hik hkl hak ih
  rcases Int.lt_or_le (i : Int) x.n with hilt | hige
  ·have hpl := placeR_le hcnt i hilt
   (repeat (first | (apply G.h; constructor <;> (first | exact Zc | apply gI | ((repeat' (first | exact Y0 | apply Y1 | ((first | apply Y4 | apply Y5); simp only [evs, Nat.reduceEqDiff, reduceIte, hn, hd2, hm, h0, h8, h9, h10] <;> rfl))); done) | (apply Y6; (try simp only [evs, hn, hd2, hm, h0, h8, h9, h10]); first | exact hrk.load1 rfl rfl rfl | exact hrk.loadA rfl rfl rfl (Nat.le_refl 5) rfl)))))
   ((first | apply g_run | apply g_run0) <;> (first | ((repeat' (first | exact Y0 | apply Y1 | exact Y2 | apply Y3 | ((first | apply Y4 | apply Y5); simp only [evs, Nat.reduceEqDiff, reduceIte, hn, hd2, hm, h0, h8, h9, h10] <;> rfl))); done) | exact Rn.mk (place65 x i _ hn0 n2 hilt (by omega) k1 k2) | apply Cn.mk))
   rintro v m5 ⟨rfl, hg5⟩
   simp only [evs, hm] at hg5
   have hgk5 := hgk.trans hg5
   (repeat (first | (apply G.h; constructor <;> (first | exact Zc | apply gI | ((repeat' (first | exact Y0 | apply Y1 | ((first | apply Y4 | apply Y5); simp only [evs, Nat.reduceEqDiff, reduceIte, hn, hd2, hm, h0, h8, h9, h10] <;> rfl))); done) | (apply Y6; (try simp only [evs, hn, hd2, hm, h0, h8, h9, h10]); first | rfl)))))
   ((first | apply g_run | apply g_run0) <;> (first | ((repeat' (first | exact Y0 | apply Y1 | exact Y2 | apply Y3 | ((first | apply Y4 | apply Y5); simp only [evs, Nat.reduceEqDiff, reduceIte, hn, hd2, hm, h0, h8, h9, h10] <;> rfl))); done) | exact Rn.mk (ihd k (placeR x i) _ (by omega) hkl hpl (by simp only [evs]; exact hN.grow hbn hgk5) (by simp only [evs]; exact Nat.lt_of_lt_of_le hbn hgk5.1)) | apply Cn.mk))
   rintro v m6 ⟨hg6, p, e, rfl, hpl2, hlt2, hch⟩
   simp only [evs] at hg6
   have hgk6 := hgk5.trans hg6
   by_cases he : e = 0
   ·subst he
    (repeat (first | (apply G.h; constructor <;> (first | exact Zc | apply gI | ((repeat' (first | exact Y0 | apply Y1 | ((first | apply Y4 | apply Y5); simp only [evs, Nat.reduceEqDiff, reduceIte, hn, hd2, hm, h0, h8, h9, h10] <;> rfl))); done) | (apply Y6; (try simp only [evs, hn, hd2, hm, h0, h8, h9, h10]); first | rfl)))))
    refine ih (i + 1, p, m6) _ ?_ (by simp only; have := hlt2 rfl; omega)
    refine ⟨by (simp only [evs, Nat.reduceEqDiff, reduceIte, hn] <;> first | rfl | (congr 1; omega) | omega), by (simp only [evs, Nat.reduceEqDiff, reduceIte, hd2] <;> first | rfl | (congr 1; omega) | omega), by (simp only [evs, Nat.reduceEqDiff, reduceIte, hm] <;> first | rfl | (congr 1; omega) | omega), hgk6, (hrk.grow hg5).grow hg6, by (simp only [evs, Nat.reduceEqDiff, reduceIte, h0] <;> first | rfl | (congr 1; omega) | omega), by (simp only [evs, Nat.reduceEqDiff, reduceIte, h8] <;> first | rfl | (congr 1; omega) | omega), by (simp only [evs, Nat.reduceEqDiff, reduceIte, h9] <;> first | rfl | (congr 1; omega) | omega), by (simp only [evs, Nat.reduceEqDiff, reduceIte, h10] <;> first | rfl | (congr 1; omega) | omega), ?_, ?_, hpl2, fun y c st hc hp => ?_⟩
    ·simp only; omega
    ·simp only; have := hlt2 rfl; omega
    ·rw [hak y c st hc hp]
     exact (hch x.du i _ hilt rfl).1 rfl
   ·(repeat (first | (apply G.h; constructor <;> (first | exact Zc | apply gI | ((repeat' (first | exact Y0 | apply Y1 | ((first | apply Y4 | apply Y5); simp only [evs, Nat.reduceEqDiff, reduceIte, hn, hd2, hm, h0, h8, h9, h10] <;> rfl))); done) | (apply Y6; (try simp only [evs, hn, hd2, hm, h0, h8, h9, h10]); first | rfl)))))
    (refine g_fin (by repeat' first | exact Rs.nil | apply Rs.cons | (apply Y4; simp only [evs, Nat.reduceEqDiff, reduceIte, hn, hd2, hm, h0, h8, h9, h10] <;> rfl)) (by (simp only [evs, Nat.reduceEqDiff, reduceIte, hn, hd2, hm, h0, h8, h9, h10] <;> first | rfl | (congr 1; omega) | omega)) ?_)
    refine ⟨by simp only [evs]; exact hgk6, p, e, rfl, hpl2, fun h => absurd h he, fun y c st hc hp => ⟨fun h => absurd h he, fun _ => ?_⟩⟩
    rw [hak y c st hc hp]
    exact (hch x.du i _ hilt rfl).2 he
  ·(repeat (first | (apply G.h; constructor <;> (first | exact Zc | apply gI | ((repeat' (first | exact Y0 | apply Y1 | ((first | apply Y4 | apply Y5); simp only [evs, Nat.reduceEqDiff, reduceIte, hn, hd2, hm, h0, h8, h9, h10] <;> rfl))); done) | (apply Y6; (try simp only [evs, hn, hd2, hm, h0, h8, h9, h10]); first | exact hrk.load1 rfl rfl rfl)))))
   (refine g_fin (by repeat' first | exact Rs.nil | apply Rs.cons | (apply Y4; simp only [evs, Nat.reduceEqDiff, reduceIte, hn, hd2, hm, h0, h8, h9, h10] <;> rfl)) (by (simp only [evs, Nat.reduceEqDiff, reduceIte, hn, hd2, hm, h0, h8, h9, h10] <;> first | rfl | (congr 1; omega) | omega)) ?_)
   refine ⟨by simp only [evs, hm]; exact hgk, k, 0, rfl, hkl, fun _ => by omega, fun y c st hc hp => ⟨fun _ => ?_, fun h => absurd rfl h⟩⟩
   rw [hak y c st hc hp]
   exact accept_pop _ _ _ _ (show (i : Int) = x.n by omega)

set_option maxHeartbeats 2000000 in
theorem check16 (b off cap : Nat) (l : List Nd) (hok : ∀ x ∈ l, x.ok ∧ x.text.length ≤ 9223372036854775807) (hl : l.length ≤ 100000) (m : Mem) (hN : Nodes m b off l) (hbn : b < m.next) (h0 : l ≠ []) :
  Runs evEnv 18 [.slice (some ⟨b, off, none⟩) l.length cap] m fun v m' => Grow m m' ∧ ∃ p e : Nat, v = .tuple ⟨[.int .i64 p, .int .i64 e]⟩ ∧ (e = 0 ↔ okProg l = true) := by
 have hpos : 0 < l.length := List.length_pos_iff.2 h0
 refine runs_start rfl rfl rfl rfl ?_
 (repeat (first | (apply G.h; constructor <;> (first | exact Zc | apply gI | ((repeat' (first | exact Y0 | apply Y1 | ((first | apply Y4 | apply Y5); simp only [evs, Nat.reduceEqDiff, reduceIte] <;> rfl))); done) | (apply Y6; (try simp only [evs]); first | rfl)))))
 ((first | apply g_run | apply g_run0) <;> (first | ((repeat' (first | exact Y0 | apply Y1 | exact Y2 | apply Y3 | ((first | apply Y4 | apply Y5); simp only [evs, Nat.reduceEqDiff, reduceIte] <;> rfl))); done) | exact Rn.mk (check33 b off cap l hok hl _ 0 0 _ (Nat.le_refl _) (Nat.zero_le _) (by omega) (by simp only [evs]; exact hN) (by simp only [evs]; exact hbn)) | apply Cn.mk))
 rintro v m2 ⟨hg, p, e, rfl, hpl, hlt, hch⟩
 simp only [evs] at hg
 have hc := hch root 0 [] (by decide) rfl
 rw [List.drop_zero] at hc
 by_cases he : e = 0
 ·subst he
  have hc1 : okProg l = accept (l.drop p) [(root, 1)] := hc.1 rfl
  rcases Nat.lt_or_ge p l.length with hlt2 | hge
  ·(repeat (first | (apply G.h; constructor <;> (first | exact Zc | apply gI | ((repeat' (first | exact Y0 | apply Y1 | ((first | apply Y4 | apply Y5); simp only [evs, Nat.reduceEqDiff, reduceIte] <;> rfl))); done) | (apply Y6; (try simp only [evs]); first | rfl)))))
   (refine g_fin (by repeat' first | exact Rs.nil | apply Rs.cons | (apply Y4; simp only [evs, Nat.reduceEqDiff, reduceIte] <;> rfl)) (by (simp only [evs, Nat.reduceEqDiff, reduceIte] <;> first | rfl | (congr 1; omega) | omega)) ?_)
   refine ⟨by simp only [evs]; exact hg, p, 6, rfl, ?_⟩
   rw [hc1, List.drop_eq_getElem_cons hlt2, accept_pop _ _ _ _ (show ((1 : Nat) : Int) = root.n from rfl)]
   simp [accept, pop]
  ·(repeat (first | (apply G.h; constructor <;> (first | exact Zc | apply gI | ((repeat' (first | exact Y0 | apply Y1 | ((first | apply Y4 | apply Y5); simp only [evs, Nat.reduceEqDiff, reduceIte] <;> rfl))); done) | (apply Y6; (try simp only [evs]); first | rfl)))))
   (refine g_fin (by repeat' first | exact Rs.nil | apply Rs.cons | (apply Y4; simp only [evs, Nat.reduceEqDiff, reduceIte] <;> rfl)) (by (simp only [evs, Nat.reduceEqDiff, reduceIte] <;> first | rfl | (congr 1; omega) | omega)) ?_)
   refine ⟨by simp only [evs]; exact hg, 0, 0, rfl, ?_⟩
   rw [hc1, List.drop_of_length_le hge, accept_pop _ _ _ _ (show ((1 : Nat) : Int) = root.n from rfl)]
   simp [accept, pop]
 ·have hc2 : okProg l = false := hc.2 he
  (repeat (first | (apply G.h; constructor <;> (first | exact Zc | apply gI | ((repeat' (first | exact Y0 | apply Y1 | ((first | apply Y4 | apply Y5); simp only [evs, Nat.reduceEqDiff, reduceIte] <;> rfl))); done) | (apply Y6; (try simp only [evs]); first | rfl)))))
  (refine g_fin (by repeat' first | exact Rs.nil | apply Rs.cons | (apply Y4; simp only [evs, Nat.reduceEqDiff, reduceIte] <;> rfl)) (by (simp only [evs, Nat.reduceEqDiff, reduceIte] <;> first | rfl | (congr 1; omega) | omega)) ?_)
  refine ⟨by simp only [evs]; exact hg, p, e, rfl, ?_⟩
  rw [hc2]
  simp [he]
end Go.Proofs.YtihokakelnfdgaaDoor
