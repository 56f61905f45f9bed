/- Part of a verified evaluator of the model's programs and of runs by it: SB SL SL2 SL3 SL4. -/
import Derived.Test.YtihokakelnfdgaaDoorEnv
import Derived.Test.YtihokakelnfdgaaDoorEvU
namespace Go.Proofs.YtihokakelnfdgaaDoor
open Go Go.Ev
set_option maxRecDepth 100000
set_option linter.unusedVariables false
set_option linter.unusedSimpArgs false
set_option pp.maxSteps 1500

structure Nd where
 kind : Int
 n : Int
 text : List UInt8
 num : Int
 pos : Int

def Nd.ok (x : Nd) : Prop := (-9223372036854775808 ≤ x.kind ∧ x.kind ≤ 9223372036854775807) ∧ (-9223372036854775808 ≤ x.n ∧ x.n ≤ 9223372036854775807) ∧ (-9223372036854775808 ≤ x.num ∧ x.num ≤ 9223372036854775807) ∧ (-9223372036854775808 ≤ x.pos ∧ x.pos ≤ 9223372036854775807)
def Nd.val (x : Nd) : List Value := [.int .i64 x.kind, .int .i64 x.n, .string ⟨⟨x.text⟩⟩, .int .i64 x.num, .int .i64 x.pos]

/-- nodes in a block. -/
def Nodes (m : Mem) (b off : Nat) (l : List Nd) : Prop := ∃ n c ty kd, m.get b = some (.cells n c ty kd) ∧ off + l.length * 5 ≤ n ∧ ∀ (i j : Nat) (h : i < l.length), j < 5 → c.get (off + i * 5 + j) = l[i].val[j]?

section
variable {m : Mem} {b off : Nat} {l : List Nd}
theorem Nodes.n (h : Nodes m b off l) (i : Nat) (hi : i < l.length) : loadAt evEnv m 3 b (off + i * 5 + 1) = some (.int .i64 l[i].n) := by
 obtain ⟨n, c, ty, kd, h1, h2, h3⟩ := h
 exact load_cell rfl rfl h1 (by omega) (h3 i 1 hi (by omega))
theorem Nodes.kind (h : Nodes m b off l) (i : Nat) (hi : i < l.length) : loadAt evEnv m 3 b (off + i * 5 + 0) = some (.int .i64 l[i].kind) := by
 obtain ⟨n, c, ty, kd, h1, h2, h3⟩ := h
 exact load_cell rfl rfl h1 (by omega) (h3 i 0 hi (by omega))
end


attribute [local irreducible] quiet allocs effect wp ret wpO Runs Act.tmp Act.eval fin results Tree.set binOp loadAt storeAt target wanted cellsFrom
/-- the place behind so many nodes from a place on. -/
def bh (l : List Nd) : Nat → Nat → Nat → Option Nat
 | 0, _, _ => none
 | f + 1, at_, due => if due = 0 then some at_ else match l[at_]? with
  | none => none
  | some x => if due - 1 + (min (max x.n 0) l.length).toNat > l.length then none else bh l f (at_ + 1) (due - 1 + (min (max x.n 0) l.length).toNat)

theorem behind_bad (m : Mem) (sl : Option Addr) (len cap : Nat) (at_ : Int) (hb : at_ < 0 ∨ (len : Int) ≤ at_) :
  Runs evEnv 58 [.slice sl len cap, .int .i64 at_] m fun v m' => v = .tuple ⟨[.int .i64 0, .int .i64 1]⟩ ∧ m' = m := by
 refine runs_start rfl rfl rfl rfl ?_
 rcases Int.lt_or_le at_ 0 with h | h
 ·(repeat (first | (apply G.h; constructor <;> (first | exact Zc | apply gI | ((repeat' (first | exact Y0 | apply Y1 | ((first | apply Y4 | apply Y5); simp only [evs, Nat.reduceEqDiff, reduceIte] <;> rfl))); done) | (apply Y6; (try simp only [evs]); first | rfl)))))
  (refine g_fin (by repeat' first | exact Rs.nil | apply Rs.cons | (apply Y4; simp only [evs, Nat.reduceEqDiff, reduceIte] <;> rfl)) (by (simp only [evs, Nat.reduceEqDiff, reduceIte] <;> first | rfl | (congr 1; omega) | omega)) ?_)
  exact ⟨rfl, by (simp only [evs, Nat.reduceEqDiff, reduceIte] <;> first | rfl | (congr 1; omega) | omega)⟩
 ·(repeat (first | (apply G.h; constructor <;> (first | exact Zc | apply gI | ((repeat' (first | exact Y0 | apply Y1 | ((first | apply Y4 | apply Y5); simp only [evs, Nat.reduceEqDiff, reduceIte] <;> rfl))); done) | (apply Y6; (try simp only [evs]); first | rfl)))))
  (refine g_fin (by repeat' first | exact Rs.nil | apply Rs.cons | (apply Y4; simp only [evs, Nat.reduceEqDiff, reduceIte] <;> rfl)) (by (simp only [evs, Nat.reduceEqDiff, reduceIte] <;> first | rfl | (congr 1; omega) | omega)) ?_)
  exact ⟨rfl, by (simp only [evs, Nat.reduceEqDiff, reduceIte] <;> first | rfl | (congr 1; omega) | omega)⟩

def bhVal : Option Nat → Value
 | some k => .tuple ⟨[.int .i64 k, .int .i64 0]⟩
 | none => .tuple ⟨[.int .i64 0, .int .i64 6]⟩

set_option maxHeartbeats 1000000 in
theorem behind_runs (m : Mem) (b off cap : Nat) (l : List Nd) (hN : Nodes m b off l) (hl : l.length ≤ 100000) (k : Nat) (hk : k < l.length) :
  Runs evEnv 58 [.slice (some ⟨b, off, none⟩) l.length cap, .int .i64 k] m fun v m' => v = bhVal (bh l (l.length + 1 - k) k 1) ∧ m' = m := by
 refine runs_start rfl rfl rfl rfl ?_
 (repeat (first | (apply G.h; constructor <;> (first | exact Zc | apply gI | ((repeat' (first | exact Y0 | apply Y1 | ((first | apply Y4 | apply Y5); simp only [evs, Nat.reduceEqDiff, reduceIte] <;> rfl))); done) | (apply Y6; (try simp only [evs]); first | rfl)))))
 refine ewp_loop (ι := Nat × Nat) (fun i a => a.n = 40 ∧ a.defers = [] ∧ a.m = m ∧ a.tmp 0 = .slice (some ⟨b, off, none⟩) l.length cap ∧ a.tmp 1 = .int .i64 i.1 ∧ a.tmp 6 = .int .i64 i.2 ∧ i.1 ≤ l.length ∧ i.2 ≤ l.length ∧
  bh l (l.length + 1 - k) k 1 = bh l (l.length + 1 - i.1) i.1 i.2) (fun i => l.length + 1 - i.1) (k, 1) ?_ ?_
 ·refine ⟨by (simp only [evs, Nat.reduceEqDiff, reduceIte] <;> first | rfl | (congr 1; omega) | omega), by (simp only [evs, Nat.reduceEqDiff, reduceIte] <;> first | rfl | (congr 1; omega) | omega), by (simp only [evs, Nat.reduceEqDiff, reduceIte] <;> first | rfl | (congr 1; omega) | omega), by (simp only [evs, Nat.reduceEqDiff, reduceIte] <;> first | rfl | (congr 1; omega) | omega), by (simp only [evs, Nat.reduceEqDiff, reduceIte] <;> first | rfl | (congr 1; omega) | omega), by (simp only [evs, Nat.reduceEqDiff, reduceIte] <;> first | rfl | (congr 1; omega) | omega), ?_, ?_, rfl⟩ <;> simp only <;> omega
 rintro ⟨p, q⟩ a ⟨hn, hd, hm, h0, h1, h6, hp, hq, hbh⟩ ih
 simp only at hn hd hm h0 h1 h6 hp hq hbh ih
 rcases Nat.eq_zero_or_pos q with h | h
 ·(repeat (first | (apply G.h; constructor <;> (first | exact Zc | apply gI | ((repeat' (first | exact Y0 | apply Y1 | ((first | apply Y4 | apply Y5); simp only [evs, Nat.reduceEqDiff, reduceIte, hn, hd, hm, h0, h1, h6] <;> rfl))); done) | (apply Y6; (try simp only [evs, hn, hd, hm, h0, h1, h6]); first | rfl)))))
  (refine g_fin (by repeat' first | exact Rs.nil | apply Rs.cons | (apply Y4; simp only [evs, Nat.reduceEqDiff, reduceIte, hn, hd, hm, h0, h1, h6] <;> rfl)) (by (simp only [evs, Nat.reduceEqDiff, reduceIte, hn, hd, hm, h0, h1, h6] <;> first | rfl | (congr 1; omega) | omega)) ?_)
  rw [hbh, show l.length + 1 - p = (l.length - p) + 1 by omega]
  simp only [bh, h, if_true]
  exact ⟨rfl, by (simp only [evs, Nat.reduceEqDiff, reduceIte, hm] <;> first | rfl | (congr 1; omega) | omega)⟩
 ·rcases Nat.lt_or_ge p l.length with hlt | hge
  ·have hx := hN.n p hlt
   obtain ⟨s, hs⟩ : ∃ s : Nat, (min (max l[p].n 0) l.length).toNat = s := ⟨_, rfl⟩
   have hstep : bh l (l.length + 1 - p) p q = if q - 1 + s > l.length then none else bh l (l.length - p) (p + 1) (q - 1 + s) := by
    rw [show l.length + 1 - p = (l.length - p) + 1 by omega]
    simp only [bh, if_neg (show ¬ q = 0 by omega), List.getElem?_eq_getElem hlt, hs]
   rcases Nat.lt_or_ge l.length (q - 1 + s) with hgt | hle
   ·(repeat (first | (apply G.h; constructor <;> (first | exact Zc | apply gI | ((repeat' (first | exact Y0 | apply Y1 | ((first | apply Y4 | apply Y5); simp only [evs, Nat.reduceEqDiff, reduceIte, hn, hd, hm, h0, h1, h6] <;> rfl))); done) | (apply Y6; (try simp only [evs, hn, hd, hm, h0, h1, h6]); first | exact hx)))))
    (refine g_fin (by repeat' first | exact Rs.nil | apply Rs.cons | (apply Y4; simp only [evs, Nat.reduceEqDiff, reduceIte, hn, hd, hm, h0, h1, h6] <;> rfl)) (by (simp only [evs, Nat.reduceEqDiff, reduceIte, hn, hd, hm, h0, h1, h6] <;> first | rfl | (congr 1; omega) | omega)) ?_)
    rw [hbh, hstep, if_pos hgt]
    exact ⟨rfl, by (simp only [evs, Nat.reduceEqDiff, reduceIte, hm] <;> first | rfl | (congr 1; omega) | omega)⟩
   ·(repeat (first | (apply G.h; constructor <;> (first | exact Zc | apply gI | ((repeat' (first | exact Y0 | apply Y1 | ((first | apply Y4 | apply Y5); simp only [evs, Nat.reduceEqDiff, reduceIte, hn, hd, hm, h0, h1, h6] <;> rfl))); done) | (apply Y6; (try simp only [evs, hn, hd, hm, h0, h1, h6]); first | exact hx)))))
    refine ih (p + 1, q - 1 + s) _ ?_ ?_
    refine ⟨by (simp only [evs, Nat.reduceEqDiff, reduceIte, hn] <;> first | rfl | (congr 1; omega) | omega), by (simp only [evs, Nat.reduceEqDiff, reduceIte, hd] <;> first | rfl | (congr 1; omega) | omega), by (simp only [evs, Nat.reduceEqDiff, reduceIte, hm] <;> first | rfl | (congr 1; omega) | omega), by (simp only [evs, Nat.reduceEqDiff, reduceIte, h0] <;> first | rfl | (congr 1; omega) | omega), by (simp only [evs, Nat.reduceEqDiff, reduceIte, h1] <;> first | rfl | (congr 1; omega) | omega), by (simp only [evs, Nat.reduceEqDiff, reduceIte, h6] <;> first | rfl | (congr 1; omega) | omega), ?_, ?_, ?_⟩
    ·simp only; omega
    ·simp only; omega
    ·rw [hbh, hstep, if_neg (by omega)]
     simp only [show l.length + 1 - (p + 1) = l.length - p by omega]
    ·simp only; omega
  ·(repeat (first | (apply G.h; constructor <;> (first | exact Zc | apply gI | ((repeat' (first | exact Y0 | apply Y1 | ((first | apply Y4 | apply Y5); simp only [evs, Nat.reduceEqDiff, reduceIte, hn, hd, hm, h0, h1, h6] <;> rfl))); done) | (apply Y6; (try simp only [evs, hn, hd, hm, h0, h1, h6]); first | rfl)))))
   (refine g_fin (by repeat' first | exact Rs.nil | apply Rs.cons | (apply Y4; simp only [evs, Nat.reduceEqDiff, reduceIte, hn, hd, hm, h0, h1, h6] <;> rfl)) (by (simp only [evs, Nat.reduceEqDiff, reduceIte, hn, hd, hm, h0, h1, h6] <;> first | rfl | (congr 1; omega) | omega)) ?_)
   rw [hbh, show l.length + 1 - p = (l.length - p) + 1 by omega]
   simp only [bh, if_neg (show ¬ q = 0 by omega), List.getElem?_eq_none hge]
   exact ⟨rfl, by (simp only [evs, Nat.reduceEqDiff, reduceIte, hm] <;> first | rfl | (congr 1; omega) | omega)⟩
end Go.Proofs.YtihokakelnfdgaaDoor

namespace Go.Proofs.YtihokakelnfdgaaDoor
open Go Go.Ev
set_option maxRecDepth 100000
set_option linter.unusedVariables false
set_option linter.unusedSimpArgs false
set_option pp.maxSteps 1500
attribute [local irreducible] quiet allocs effect wp ret wpO Runs Act.tmp Act.eval fin results Tree.set binOp loadAt storeAt target wanted cellsFrom

def letterN (n : Nat) : Bool := decide (97 ≤ n ∧ n ≤ 122 ∨ 65 ≤ n ∧ n ≤ 90 ∨ n = 95)
def digitN (n : Nat) : Bool := decide (48 ≤ n ∧ n ≤ 57)

theorem cases7 (n : Nat) (P : Prop) (h : 97 ≤ n ∧ n ≤ 122 → P) (h1 : 123 ≤ n → P) (h2 : n = 96 → P) (h3 : n = 95 → P) (h4 : 91 ≤ n ∧ n ≤ 94 → P) (h5 : 65 ≤ n ∧ n ≤ 90 → P) (h6 : n ≤ 64 → P) : P := by
 rcases Nat.lt_or_ge n 65 with g | g
 ·exact h6 (by omega)
 rcases Nat.lt_or_ge n 91 with g | g
 ·exact h5 (by omega)
 rcases Nat.lt_or_ge n 95 with g | g
 ·exact h4 (by omega)
 rcases Nat.lt_or_ge n 96 with g | g
 ·exact h3 (by omega)
 rcases Nat.lt_or_ge n 97 with g | g
 ·exact h2 (by omega)
 rcases Nat.lt_or_ge n 123 with g | g
 ·exact h (by omega)
 ·exact h1 (by omega)

set_option maxHeartbeats 1000000 in
theorem letter77 (n : Nat) (m : Mem) : Runs evEnv 87 [.int .u8 n] m fun v m' => v = .bool (letterN n) ∧ m' = m := by
 refine runs_start rfl rfl rfl rfl ?_
 refine cases7 n _ ?_ ?_ ?_ ?_ ?_ ?_ ?_ <;> intro h
 all_goals
  (repeat (first | (apply G.h; constructor <;> (first | exact Zc | apply gI | ((repeat' (first | exact Y0 | apply Y1 | ((first | apply Y4 | apply Y5); simp only [evs, Nat.reduceEqDiff, reduceIte] <;> rfl))); done) | (apply Y6; (try simp only [evs]); first | rfl)))))
  (refine g_fin (by repeat' first | exact Rs.nil | apply Rs.cons | (apply Y4; simp only [evs, Nat.reduceEqDiff, reduceIte] <;> rfl)) (by (simp only [evs, Nat.reduceEqDiff, reduceIte] <;> first | rfl | (congr 1; omega) | omega)) ?_)
  refine ⟨congrArg Value.bool ?_, by (simp only [evs, Nat.reduceEqDiff, reduceIte] <;> first | rfl | (congr 1; omega) | omega)⟩
  unfold letterN
  first | exact (decide_eq_true (by omega)).symm | exact (decide_eq_false (by omega)).symm

set_option maxHeartbeats 1000000 in
theorem letter44 (n : Nat) (m : Mem) : Runs evEnv 37 [.int .u8 n] m fun v m' => v = .bool (letterN n) ∧ m' = m := by
 refine runs_start rfl rfl rfl rfl ?_
 refine cases7 n _ ?_ ?_ ?_ ?_ ?_ ?_ ?_ <;> intro h
 all_goals
  (repeat (first | (apply G.h; constructor <;> (first | exact Zc | apply gI | ((repeat' (first | exact Y0 | apply Y1 | ((first | apply Y4 | apply Y5); simp only [evs, Nat.reduceEqDiff, reduceIte] <;> rfl))); done) | (apply Y6; (try simp only [evs]); first | rfl)))))
  (refine g_fin (by repeat' first | exact Rs.nil | apply Rs.cons | (apply Y4; simp only [evs, Nat.reduceEqDiff, reduceIte] <;> rfl)) (by (simp only [evs, Nat.reduceEqDiff, reduceIte] <;> first | rfl | (congr 1; omega) | omega)) ?_)
  refine ⟨congrArg Value.bool ?_, by (simp only [evs, Nat.reduceEqDiff, reduceIte] <;> first | rfl | (congr 1; omega) | omega)⟩
  unfold letterN
  first | exact (decide_eq_true (by omega)).symm | exact (decide_eq_false (by omega)).symm

set_option maxHeartbeats 1000000 in
theorem digit78 (n : Nat) (m : Mem) : Runs evEnv 88 [.int .u8 n] m fun v m' => v = .bool (digitN n) ∧ m' = m := by
 refine runs_start rfl rfl rfl rfl ?_
 rcases Nat.lt_or_ge n 48 with h | h
 rotate_left
 rcases Nat.lt_or_ge n 58 with h2 | h2
 all_goals
  (repeat (first | (apply G.h; constructor <;> (first | exact Zc | apply gI | ((repeat' (first | exact Y0 | apply Y1 | ((first | apply Y4 | apply Y5); simp only [evs, Nat.reduceEqDiff, reduceIte] <;> rfl))); done) | (apply Y6; (try simp only [evs]); first | rfl)))))
  (refine g_fin (by repeat' first | exact Rs.nil | apply Rs.cons | (apply Y4; simp only [evs, Nat.reduceEqDiff, reduceIte] <;> rfl)) (by (simp only [evs, Nat.reduceEqDiff, reduceIte] <;> first | rfl | (congr 1; omega) | omega)) ?_)
  refine ⟨congrArg Value.bool ?_, by (simp only [evs, Nat.reduceEqDiff, reduceIte] <;> first | rfl | (congr 1; omega) | omega)⟩
  unfold digitN
  first | exact (decide_eq_true (by omega)).symm | exact (decide_eq_false (by omega)).symm

set_option maxHeartbeats 1000000 in
theorem digit45 (n : Nat) (m : Mem) : Runs evEnv 38 [.int .u8 n] m fun v m' => v = .bool (digitN n) ∧ m' = m := by
 refine runs_start rfl rfl rfl rfl ?_
 rcases Nat.lt_or_ge n 48 with h | h
 rotate_left
 rcases Nat.lt_or_ge n 58 with h2 | h2
 all_goals
  (repeat (first | (apply G.h; constructor <;> (first | exact Zc | apply gI | ((repeat' (first | exact Y0 | apply Y1 | ((first | apply Y4 | apply Y5); simp only [evs, Nat.reduceEqDiff, reduceIte] <;> rfl))); done) | (apply Y6; (try simp only [evs]); first | rfl)))))
  (refine g_fin (by repeat' first | exact Rs.nil | apply Rs.cons | (apply Y4; simp only [evs, Nat.reduceEqDiff, reduceIte] <;> rfl)) (by (simp only [evs, Nat.reduceEqDiff, reduceIte] <;> first | rfl | (congr 1; omega) | omega)) ?_)
  refine ⟨congrArg Value.bool ?_, by (simp only [evs, Nat.reduceEqDiff, reduceIte] <;> first | rfl | (congr 1; omega) | omega)⟩
  unfold digitN
  first | exact (decide_eq_true (by omega)).symm | exact (decide_eq_false (by omega)).symm
end Go.Proofs.YtihokakelnfdgaaDoor

namespace Go.Proofs.YtihokakelnfdgaaDoor
open Go Go.Ev
set_option maxRecDepth 100000
set_option linter.unusedVariables false
set_option linter.unusedSimpArgs false
set_option pp.maxSteps 1500
attribute [local irreducible] quiet allocs effect wp ret wpO Runs Act.tmp Act.eval fin results Tree.set binOp loadAt storeAt target wanted cellsFrom

def words : List (List UInt8) := [[118, 97, 114], [102, 110], [105, 102], [101, 108, 115, 101], [119, 104, 105, 108, 101], [98, 114, 101, 97, 107], [99, 111, 110, 116, 105, 110, 117, 101], [114, 101, 116, 117, 114, 110], [116, 104, 114, 111, 119], [116, 114, 121], [99, 97, 116, 99, 104], [115, 112, 97, 119, 110], [116, 114, 117, 101], [102, 97, 108, 115, 101], [110, 105, 108], [97, 110, 100], [111, 114], [110, 111, 116]]
def wordB (s : List UInt8) : Bool := decide (s ∈ words)

set_option maxHeartbeats 2000000 in
theorem word79 (s : List UInt8) (m : Mem) : Runs evEnv 89 [.string ⟨⟨s⟩⟩] m fun v m' => v = .bool (wordB s) ∧ m' = m := by
 refine runs_start rfl rfl rfl rfl ?_
 (repeat' (first | (apply G.h; constructor <;> (first | exact Zc | apply gI | ((repeat' (first | exact Y0 | apply Y1 | ((first | apply Y4 | apply Y5); simp only [evs, Nat.reduceEqDiff, reduceIte] <;> rfl))); done) | (apply Y6; (try simp only [evs]); first | rfl))) | (apply g_split <;> (first | (apply Ev.mk; (simp only [evs, Nat.reduceEqDiff, reduceIte] <;> rfl)) | (apply Dn.mk; (simp only [evs, Nat.reduceEqDiff, reduceIte] <;> rfl)) | (apply g_wpO) | intro h | constructor | fail))))
 all_goals
  (refine g_fin (by repeat' first | exact Rs.nil | apply Rs.cons | (apply Y4; simp only [evs, Nat.reduceEqDiff, reduceIte] <;> rfl)) (by (simp only [evs, Nat.reduceEqDiff, reduceIte] <;> first | rfl | (congr 1; omega) | omega)) ?_)
  refine ⟨congrArg Value.bool ?_, by (simp only [evs, Nat.reduceEqDiff, reduceIte] <;> first | rfl | (congr 1; omega) | omega)⟩
  unfold wordB words
  first | (exact (decide_eq_true (by simp_all)).symm) | (exact (decide_eq_false (by simp_all)).symm)
end Go.Proofs.YtihokakelnfdgaaDoor

namespace Go.Proofs.YtihokakelnfdgaaDoor
open Go Go.Ev
set_option maxRecDepth 100000
set_option linter.unusedVariables false
set_option linter.unusedSimpArgs false
set_option pp.maxSteps 1500
attribute [local irreducible] quiet allocs effect wp ret wpO Runs Act.tmp Act.eval fin results Tree.set binOp loadAt storeAt target wanted cellsFrom

theorem nth_get {α : Type} : ∀ (l : List α) (i : Nat), nth l i = l[i]?
 | [], i => by cases i <;> rfl
 | x :: l, 0 => rfl
 | x :: l, i + 1 => by simpa [nth] using nth_get l i

def goodAt (s : List UInt8) (j : Nat) : Bool := match s[j]? with
 | some c => letterN c.toNat || (decide (j ≠ 0) && digitN c.toNat)
 | none => true
def nameB (s : List UInt8) : Bool := !s.isEmpty && !wordB s && (List.range s.length).all (goodAt s)

set_option maxHeartbeats 2000000 in
theorem name61 (s : List UInt8) (m : Mem) (hs : s.length ≤ 9223372036854775807) : Runs evEnv 73 [.string ⟨⟨s⟩⟩] m fun v m' => v = .bool (nameB s) ∧ m' = m := by
 refine runs_start rfl rfl rfl rfl ?_
 (repeat (first | (apply G.h; constructor <;> (first | exact Zc | apply gI | ((repeat' (first | exact Y0 | apply Y1 | ((first | apply Y4 | apply Y5); simp only [evs, Nat.reduceEqDiff, reduceIte] <;> rfl))); done) | (apply Y6; (try simp only [evs]); first | rfl)))))
 refine ewp_loop (ι := Nat) (fun i a => a.n = 33 ∧ a.defers = [] ∧ a.m = m ∧ a.tmp 0 = .string ⟨⟨s⟩⟩ ∧ a.tmp 5 = .int .i64 s.length ∧ a.tmp 6 = .int .i64 i ∧ i ≤ s.length ∧ ∀ j, j < i → goodAt s j = true) (fun i => s.length - i) 0 ?_ ?_
 ·refine ⟨by (simp only [evs, Nat.reduceEqDiff, reduceIte] <;> first | rfl | (congr 1; omega) | omega), by (simp only [evs, Nat.reduceEqDiff, reduceIte] <;> first | rfl | (congr 1; omega) | omega), by (simp only [evs, Nat.reduceEqDiff, reduceIte] <;> first | rfl | (congr 1; omega) | omega), by (simp only [evs, Nat.reduceEqDiff, reduceIte] <;> first | rfl | (congr 1; omega) | omega), by (simp only [evs, Nat.reduceEqDiff, reduceIte] <;> first | rfl | (congr 1; omega) | omega), by (simp only [evs, Nat.reduceEqDiff, reduceIte] <;> first | rfl | (congr 1; omega) | omega), ?_, ?_⟩
  ·omega
  ·intro j hj; omega
 rintro p a ⟨hn, hd, hm, h0, h5, h6, hp, hg⟩ ih
 rcases Nat.lt_or_ge p s.length with hlt | hge
 ·have hc : nth s p = some s[p] := by rw [nth_get, List.getElem?_eq_getElem hlt]
  have hga : goodAt s p = (letterN s[p].toNat || (decide (p ≠ 0) && digitN s[p].toNat)) := by
   unfold goodAt; rw [List.getElem?_eq_getElem hlt]
  generalize s[p] = c at hc hga
  have bad : goodAt s p = false → nameB s = false := by
   intro hb
   unfold nameB
   rw [Bool.and_eq_false_iff]
   right
   rw [List.all_eq_false]
   exact ⟨p, List.mem_range.2 hlt, by simp [hb]⟩
  have next : goodAt s p = true → ∀ j, j < p + 1 → goodAt s j = true := by
   intro hb j hj
   rcases Nat.lt_or_ge j p with h | h
   ·exact hg j h
   ·obtain rfl : j = p := by omega
    exact hb
  cases hL : letterN c.toNat with
  | true =>
   (repeat (first | (apply G.h; constructor <;> (first | exact Zc | apply gI | ((repeat' (first | exact Y0 | apply Y1 | ((first | apply Y4 | apply Y5); simp only [evs, Nat.reduceEqDiff, reduceIte, hn, hd, hm, h0, h5, h6] <;> rfl))); done) | (apply Y6; (try simp only [evs, hn, hd, hm, h0, h5, h6]); first | rfl)))))
   ((first | apply g_run | apply g_run0) <;> (first | ((repeat' (first | exact Y0 | apply Y1 | exact Y2 | apply Y3 | ((first | apply Y4 | apply Y5); simp only [evs, Nat.reduceEqDiff, reduceIte, hn, hd, hm, h0, h5, h6] <;> rfl))); done) | exact Rn.mk (letter77 _ _) | apply Cn.mk))
   rintro v m' ⟨rfl, rfl⟩
   (repeat (first | (apply G.h; constructor <;> (first | exact Zc | apply gI | ((repeat' (first | exact Y0 | apply Y1 | ((first | apply Y4 | apply Y5); simp only [evs, Nat.reduceEqDiff, reduceIte, hn, hd, hm, h0, h5, h6, hL] <;> rfl))); done) | (apply Y6; (try simp only [evs, hn, hd, hm, h0, h5, h6, hL]); first | rfl)))))
   refine ih (p + 1) _ ?_ (by omega)
   exact ⟨by (simp only [evs, Nat.reduceEqDiff, reduceIte, hn] <;> first | rfl | (congr 1; omega) | omega), by (simp only [evs, Nat.reduceEqDiff, reduceIte, hd] <;> first | rfl | (congr 1; omega) | omega), by (simp only [evs, Nat.reduceEqDiff, reduceIte, hm] <;> first | rfl | (congr 1; omega) | omega), by (simp only [evs, Nat.reduceEqDiff, reduceIte, h0] <;> first | rfl | (congr 1; omega) | omega), by (simp only [evs, Nat.reduceEqDiff, reduceIte, h5] <;> first | rfl | (congr 1; omega) | omega), by (simp only [evs, Nat.reduceEqDiff, reduceIte, h6] <;> first | rfl | (congr 1; omega) | omega), hlt, next (by rw [hga, hL]; rfl)⟩
  | false =>
   rcases Nat.eq_zero_or_pos p with hp0 | hp0
   ·have hb : nameB s = false := bad (by rw [hga, hL, hp0]; rfl)
    (repeat (first | (apply G.h; constructor <;> (first | exact Zc | apply gI | ((repeat' (first | exact Y0 | apply Y1 | ((first | apply Y4 | apply Y5); simp only [evs, Nat.reduceEqDiff, reduceIte, hn, hd, hm, h0, h5, h6] <;> rfl))); done) | (apply Y6; (try simp only [evs, hn, hd, hm, h0, h5, h6]); first | rfl)))))
    ((first | apply g_run | apply g_run0) <;> (first | ((repeat' (first | exact Y0 | apply Y1 | exact Y2 | apply Y3 | ((first | apply Y4 | apply Y5); simp only [evs, Nat.reduceEqDiff, reduceIte, hn, hd, hm, h0, h5, h6] <;> rfl))); done) | exact Rn.mk (letter77 _ _) | apply Cn.mk))
    rintro v m' ⟨rfl, rfl⟩
    (repeat (first | (apply G.h; constructor <;> (first | exact Zc | apply gI | ((repeat' (first | exact Y0 | apply Y1 | ((first | apply Y4 | apply Y5); simp only [evs, Nat.reduceEqDiff, reduceIte, hn, hd, hm, h0, h5, h6, hL] <;> rfl))); done) | (apply Y6; (try simp only [evs, hn, hd, hm, h0, h5, h6, hL]); first | rfl)))))
    (refine g_fin (by repeat' first | exact Rs.nil | apply Rs.cons | (apply Y4; simp only [evs, Nat.reduceEqDiff, reduceIte, hn, hd, hm, h0, h5, h6, hL] <;> rfl)) (by (simp only [evs, Nat.reduceEqDiff, reduceIte, hn, hd, hm, h0, h5, h6, hL] <;> first | rfl | (congr 1; omega) | omega)) ?_)
    exact ⟨by rw [hb]; rfl, by (simp only [evs, Nat.reduceEqDiff, reduceIte, hm] <;> first | rfl | (congr 1; omega) | omega)⟩
   ·have hpd : decide (p ≠ 0) = true := decide_eq_true (by omega)
    cases hD : digitN c.toNat with
    | true =>
     (repeat (first | (apply G.h; constructor <;> (first | exact Zc | apply gI | ((repeat' (first | exact Y0 | apply Y1 | ((first | apply Y4 | apply Y5); simp only [evs, Nat.reduceEqDiff, reduceIte, hn, hd, hm, h0, h5, h6] <;> rfl))); done) | (apply Y6; (try simp only [evs, hn, hd, hm, h0, h5, h6]); first | rfl)))))
     ((first | apply g_run | apply g_run0) <;> (first | ((repeat' (first | exact Y0 | apply Y1 | exact Y2 | apply Y3 | ((first | apply Y4 | apply Y5); simp only [evs, Nat.reduceEqDiff, reduceIte, hn, hd, hm, h0, h5, h6] <;> rfl))); done) | exact Rn.mk (letter77 _ _) | apply Cn.mk))
     rintro v m' ⟨rfl, rfl⟩
     (repeat (first | (apply G.h; constructor <;> (first | exact Zc | apply gI | ((repeat' (first | exact Y0 | apply Y1 | ((first | apply Y4 | apply Y5); simp only [evs, Nat.reduceEqDiff, reduceIte, hn, hd, hm, h0, h5, h6, hL] <;> rfl))); done) | (apply Y6; (try simp only [evs, hn, hd, hm, h0, h5, h6, hL]); first | rfl)))))
     ((first | apply g_run | apply g_run0) <;> (first | ((repeat' (first | exact Y0 | apply Y1 | exact Y2 | apply Y3 | ((first | apply Y4 | apply Y5); simp only [evs, Nat.reduceEqDiff, reduceIte, hn, hd, hm, h0, h5, h6, hL] <;> rfl))); done) | exact Rn.mk (digit78 _ _) | apply Cn.mk))
     rintro v m' ⟨rfl, rfl⟩
     (repeat (first | (apply G.h; constructor <;> (first | exact Zc | apply gI | ((repeat' (first | exact Y0 | apply Y1 | ((first | apply Y4 | apply Y5); simp only [evs, Nat.reduceEqDiff, reduceIte, hn, hd, hm, h0, h5, h6, hL, hD] <;> rfl))); done) | (apply Y6; (try simp only [evs, hn, hd, hm, h0, h5, h6, hL, hD]); first | rfl)))))
     refine ih (p + 1) _ ?_ (by omega)
     exact ⟨by (simp only [evs, Nat.reduceEqDiff, reduceIte, hn] <;> first | rfl | (congr 1; omega) | omega), by (simp only [evs, Nat.reduceEqDiff, reduceIte, hd] <;> first | rfl | (congr 1; omega) | omega), by (simp only [evs, Nat.reduceEqDiff, reduceIte, hm] <;> first | rfl | (congr 1; omega) | omega), by (simp only [evs, Nat.reduceEqDiff, reduceIte, h0] <;> first | rfl | (congr 1; omega) | omega), by (simp only [evs, Nat.reduceEqDiff, reduceIte, h5] <;> first | rfl | (congr 1; omega) | omega), by (simp only [evs, Nat.reduceEqDiff, reduceIte, h6] <;> first | rfl | (congr 1; omega) | omega), hlt, next (by rw [hga, hL, hD, hpd]; rfl)⟩
    | false =>
     have hb : nameB s = false := bad (by rw [hga, hL, hD, hpd]; rfl)
     (repeat (first | (apply G.h; constructor <;> (first | exact Zc | apply gI | ((repeat' (first | exact Y0 | apply Y1 | ((first | apply Y4 | apply Y5); simp only [evs, Nat.reduceEqDiff, reduceIte, hn, hd, hm, h0, h5, h6] <;> rfl))); done) | (apply Y6; (try simp only [evs, hn, hd, hm, h0, h5, h6]); first | rfl)))))
     ((first | apply g_run | apply g_run0) <;> (first | ((repeat' (first | exact Y0 | apply Y1 | exact Y2 | apply Y3 | ((first | apply Y4 | apply Y5); simp only [evs, Nat.reduceEqDiff, reduceIte, hn, hd, hm, h0, h5, h6] <;> rfl))); done) | exact Rn.mk (letter77 _ _) | apply Cn.mk))
     rintro v m' ⟨rfl, rfl⟩
     (repeat (first | (apply G.h; constructor <;> (first | exact Zc | apply gI | ((repeat' (first | exact Y0 | apply Y1 | ((first | apply Y4 | apply Y5); simp only [evs, Nat.reduceEqDiff, reduceIte, hn, hd, hm, h0, h5, h6, hL] <;> rfl))); done) | (apply Y6; (try simp only [evs, hn, hd, hm, h0, h5, h6, hL]); first | rfl)))))
     ((first | apply g_run | apply g_run0) <;> (first | ((repeat' (first | exact Y0 | apply Y1 | exact Y2 | apply Y3 | ((first | apply Y4 | apply Y5); simp only [evs, Nat.reduceEqDiff, reduceIte, hn, hd, hm, h0, h5, h6, hL] <;> rfl))); done) | exact Rn.mk (digit78 _ _) | apply Cn.mk))
     rintro v m' ⟨rfl, rfl⟩
     (repeat (first | (apply G.h; constructor <;> (first | exact Zc | apply gI | ((repeat' (first | exact Y0 | apply Y1 | ((first | apply Y4 | apply Y5); simp only [evs, Nat.reduceEqDiff, reduceIte, hn, hd, hm, h0, h5, h6, hL, hD] <;> rfl))); done) | (apply Y6; (try simp only [evs, hn, hd, hm, h0, h5, h6, hL, hD]); first | rfl)))))
     (refine g_fin (by repeat' first | exact Rs.nil | apply Rs.cons | (apply Y4; simp only [evs, Nat.reduceEqDiff, reduceIte, hn, hd, hm, h0, h5, h6, hL, hD] <;> rfl)) (by (simp only [evs, Nat.reduceEqDiff, reduceIte, hn, hd, hm, h0, h5, h6, hL, hD] <;> first | rfl | (congr 1; omega) | omega)) ?_)
     exact ⟨by rw [hb]; rfl, by (simp only [evs, Nat.reduceEqDiff, reduceIte, hm] <;> first | rfl | (congr 1; omega) | omega)⟩
 ·have hall : (List.range s.length).all (goodAt s) = true := by
   rw [List.all_eq_true]
   intro j hj
   exact hg j (by have := List.mem_range.1 hj; omega)
  have hnb : nameB s = (!s.isEmpty && !wordB s) := by unfold nameB; rw [hall, Bool.and_true]
  by_cases he : s = []
  ·subst he
   (repeat (first | (apply G.h; constructor <;> (first | exact Zc | apply gI | ((repeat' (first | exact Y0 | apply Y1 | ((first | apply Y4 | apply Y5); simp only [evs, Nat.reduceEqDiff, reduceIte, hn, hd, hm, h0, h5, h6] <;> rfl))); done) | (apply Y6; (try simp only [evs, hn, hd, hm, h0, h5, h6]); first | rfl)))))
   (refine g_fin (by repeat' first | exact Rs.nil | apply Rs.cons | (apply Y4; simp only [evs, Nat.reduceEqDiff, reduceIte, hn, hd, hm, h0, h5, h6] <;> rfl)) (by (simp only [evs, Nat.reduceEqDiff, reduceIte, hn, hd, hm, h0, h5, h6] <;> first | rfl | (congr 1; omega) | omega)) ?_)
   exact ⟨rfl, by (simp only [evs, Nat.reduceEqDiff, reduceIte, hm] <;> first | rfl | (congr 1; omega) | omega)⟩
  ·have hemp : s.isEmpty = false := by cases s <;> first | rfl | exact absurd rfl he
   (repeat (first | (apply G.h; constructor <;> (first | exact Zc | apply gI | ((repeat' (first | exact Y0 | apply Y1 | ((first | apply Y4 | apply Y5); simp only [evs, Nat.reduceEqDiff, reduceIte, hn, hd, hm, h0, h5, h6] <;> rfl))); done) | (apply Y6; (try simp only [evs, hn, hd, hm, h0, h5, h6]); first | rfl)))))
   ((first | apply g_run | apply g_run0) <;> (first | ((repeat' (first | exact Y0 | apply Y1 | exact Y2 | apply Y3 | ((first | apply Y4 | apply Y5); simp only [evs, Nat.reduceEqDiff, reduceIte, hn, hd, hm, h0, h5, h6] <;> rfl))); done) | exact Rn.mk (word79 _ _) | apply Cn.mk))
   rintro v m' ⟨rfl, rfl⟩
   cases hw : wordB s
   all_goals
    (repeat (first | (apply G.h; constructor <;> (first | exact Zc | apply gI | ((repeat' (first | exact Y0 | apply Y1 | ((first | apply Y4 | apply Y5); simp only [evs, Nat.reduceEqDiff, reduceIte, hn, hd, hm, h0, h5, h6, hw] <;> rfl))); done) | (apply Y6; (try simp only [evs, hn, hd, hm, h0, h5, h6, hw]); first | rfl)))))
    (refine g_fin (by repeat' first | exact Rs.nil | apply Rs.cons | (apply Y4; simp only [evs, Nat.reduceEqDiff, reduceIte, hn, hd, hm, h0, h5, h6, hw] <;> rfl)) (by (simp only [evs, Nat.reduceEqDiff, reduceIte, hn, hd, hm, h0, h5, h6, hw] <;> first | rfl | (congr 1; omega) | omega)) ?_)
    exact ⟨by rw [hnb, hemp, hw]; rfl, by (simp only [evs, Nat.reduceEqDiff, reduceIte, hm] <;> first | rfl | (congr 1; omega) | omega)⟩
end Go.Proofs.YtihokakelnfdgaaDoor

namespace Go.Proofs.YtihokakelnfdgaaDoor
open Go Go.Ev
set_option maxRecDepth 100000
set_option linter.unusedVariables false
set_option linter.unusedSimpArgs false
set_option pp.maxSteps 1500
attribute [local irreducible] quiet allocs effect wp ret wpO Runs Act.tmp Act.eval fin results Tree.set binOp loadAt storeAt target wanted cellsFrom

theorem words_len : words.length = 18 := rfl

set_option maxHeartbeats 2000000 in
theorem word46 (s : List UInt8) (m : Mem) : Runs evEnv 39 [.string ⟨⟨s⟩⟩] m fun v m' => v = .bool (wordB s) ∧ Grow m m' := by
 refine runs_start rfl rfl rfl rfl ?_
 (repeat (first | (apply G.h; constructor <;> (first | exact Zc | apply gI | ((repeat' (first | exact Y0 | apply Y1 | ((first | apply Y4 | apply Y5); simp only [evs, Nat.reduceEqDiff, reduceIte] <;> rfl))); done) | (apply Y6; (try simp only [evs]); first | rfl)))))
 obtain ⟨m2, hst, hrow, hoth, hnx⟩ := (row_new m (List.replicate 18 (.string ⟨⟨[]⟩⟩)) 127 0).fill (E := evEnv) (t := 127) (k := 18) (v := .agg ⟨words.map fun w => .string ⟨⟨w⟩⟩⟩) (by decide) rfl rfl rfl rfl rfl
 have hg : Grow m m2 := ((Grow.refl m).new _).wrote (Nat.le_refl _) hoth hnx
 apply ewpO_store
 focus exact want_none
 focus (simp only [evs, Nat.reduceEqDiff, reduceIte] <;> rfl)
 focus (simp only [evs, Nat.reduceEqDiff, reduceIte] <;> rfl)
 focus (simp only [m_upd, m_mem, m_start]; exact hst)
 (repeat (first | (apply G.h; constructor <;> (first | exact Zc | apply gI | ((repeat' (first | exact Y0 | apply Y1 | ((first | apply Y4 | apply Y5); simp only [evs, Nat.reduceEqDiff, reduceIte] <;> rfl))); done) | (apply Y6; (try simp only [evs]); first | rfl)))))
 refine ewp_loop (ι := Nat) (fun i a => a.n = 15 ∧ a.defers = [] ∧ a.m = m2 ∧ a.tmp 0 = .string ⟨⟨s⟩⟩ ∧ a.tmp 3 = .pointer (some ⟨m.next, 0, none⟩) ∧ a.tmp 4 = .int .i64 i ∧ i ≤ 18 ∧ ∀ j, j < i → words[j]? ≠ some s) (fun i => 18 - i) 0 ?_ ?_
 ·exact ⟨by (simp only [evs, Nat.reduceEqDiff, reduceIte] <;> first | rfl | (congr 1; omega) | omega), by (simp only [evs, Nat.reduceEqDiff, reduceIte] <;> first | rfl | (congr 1; omega) | omega), by (simp only [evs, Nat.reduceEqDiff, reduceIte] <;> first | rfl | (congr 1; omega) | omega), by (simp only [evs, Nat.reduceEqDiff, reduceIte] <;> first | rfl | (congr 1; omega) | omega), by (simp only [evs, Nat.reduceEqDiff, reduceIte] <;> first | rfl | (congr 1; omega) | omega), by (simp only [evs, Nat.reduceEqDiff, reduceIte] <;> first | rfl | (congr 1; omega) | omega), by omega, fun j hj => by omega⟩
 rintro p a ⟨hn, hd, hm, h0, h3, h4, hp, hj⟩ ih
 rcases Nat.lt_or_ge p 18 with hlt | hge
 ·have hw : words[p]? = some words[p] := List.getElem?_eq_getElem hlt
  generalize words[p] = w at hw
  have hx : (words.map fun w => Value.string ⟨⟨w⟩⟩)[0 + p * 1]? = some (.string ⟨⟨w⟩⟩) := by
   rw [show 0 + p * 1 = p by omega, List.getElem?_map, hw]; rfl
  (repeat' (first | (apply G.h; constructor <;> (first | exact Zc | apply gI | ((repeat' (first | exact Y0 | apply Y1 | ((first | apply Y4 | apply Y5); simp only [evs, Nat.reduceEqDiff, reduceIte, hn, hd, hm, h0, h3, h4] <;> rfl))); done) | (apply Y6; (try simp only [evs, hn, hd, hm, h0, h3, h4]); first | exact hrow.load1 rfl rfl hx))) | (apply g_split <;> (first | (apply Ev.mk; (simp only [evs, Nat.reduceEqDiff, reduceIte, hn, hd, hm, h0, h3, h4] <;> rfl)) | (apply Dn.mk; (simp only [evs, Nat.reduceEqDiff, reduceIte, hn, hd, hm, h0, h3, h4] <;> rfl)) | (apply g_wpO) | intro h | constructor | fail))))
  ·(refine g_fin (by repeat' first | exact Rs.nil | apply Rs.cons | (apply Y4; simp only [evs, Nat.reduceEqDiff, reduceIte, hn, hd, hm, h0, h3, h4] <;> rfl)) (by (simp only [evs, Nat.reduceEqDiff, reduceIte, hn, hd, hm, h0, h3, h4] <;> first | rfl | (congr 1; omega) | omega)) ?_)
   refine ⟨congrArg Value.bool ?_, by simp only [m_upd, hm]; exact hg⟩
   exact (decide_eq_true (List.mem_of_getElem? (by rw [hw, ‹w = s›]))).symm
  ·refine ih (p + 1) _ ?_ (by omega)
   refine ⟨by (simp only [evs, Nat.reduceEqDiff, reduceIte, hn] <;> first | rfl | (congr 1; omega) | omega), by (simp only [evs, Nat.reduceEqDiff, reduceIte, hd] <;> first | rfl | (congr 1; omega) | omega), by (simp only [evs, Nat.reduceEqDiff, reduceIte, hm] <;> first | rfl | (congr 1; omega) | omega), by (simp only [evs, Nat.reduceEqDiff, reduceIte, h0] <;> first | rfl | (congr 1; omega) | omega), by (simp only [evs, Nat.reduceEqDiff, reduceIte, h3] <;> first | rfl | (congr 1; omega) | omega), by (simp only [evs, Nat.reduceEqDiff, reduceIte, h4] <;> first | rfl | (congr 1; omega) | omega), hlt, fun j hjp => ?_⟩
   rcases Nat.lt_or_ge j p with h | h
   ·exact hj j h
   ·obtain rfl : j = p := by omega
    rw [hw]
    intro he
    exact absurd (Option.some.inj he) ‹_›
 ·(repeat (first | (apply G.h; constructor <;> (first | exact Zc | apply gI | ((repeat' (first | exact Y0 | apply Y1 | ((first | apply Y4 | apply Y5); simp only [evs, Nat.reduceEqDiff, reduceIte, hn, hd, hm, h0, h3, h4] <;> rfl))); done) | (apply Y6; (try simp only [evs, hn, hd, hm, h0, h3, h4]); first | rfl)))))
  (refine g_fin (by repeat' first | exact Rs.nil | apply Rs.cons | (apply Y4; simp only [evs, Nat.reduceEqDiff, reduceIte, hn, hd, hm, h0, h3, h4] <;> rfl)) (by (simp only [evs, Nat.reduceEqDiff, reduceIte, hn, hd, hm, h0, h3, h4] <;> first | rfl | (congr 1; omega) | omega)) ?_)
  refine ⟨congrArg Value.bool ?_, by simp only [m_upd, hm]; exact hg⟩
  refine (decide_eq_false fun hmem => ?_).symm
  obtain ⟨j, hj1, hj2⟩ := List.getElem_of_mem hmem
  have : j < 18 := hj1
  exact hj j (by omega) (by rw [List.getElem?_eq_getElem hj1, hj2])

set_option maxHeartbeats 2000000 in
theorem name80 (s : List UInt8) (m : Mem) (hs : s.length ≤ 9223372036854775807) : Runs evEnv 84 [.string ⟨⟨s⟩⟩] m fun v m' => v = .bool (nameB s) ∧ Grow m m' := by
 refine runs_start rfl rfl rfl rfl ?_
 cases s with
 | nil =>
  have hz : ([] : List UInt8).length = 0 := rfl
  (repeat (first | (apply G.h; constructor <;> (first | exact Zc | apply gI | ((repeat' (first | exact Y0 | apply Y1 | ((first | apply Y4 | apply Y5); simp only [evs, Nat.reduceEqDiff, reduceIte] <;> rfl))); done) | (apply Y6; (try simp only [evs]); first | rfl)))))
  (refine g_fin (by repeat' first | exact Rs.nil | apply Rs.cons | (apply Y4; simp only [evs, Nat.reduceEqDiff, reduceIte] <;> rfl)) (by (simp only [evs, Nat.reduceEqDiff, reduceIte] <;> first | rfl | (congr 1; omega) | omega)) ?_)
  exact ⟨rfl, by simp only [m_upd, m_start]; exact Grow.refl m⟩
 | cons c r =>
  have hl : (c :: r).length = r.length + 1 := List.length_cons
  have hc : nth (c :: r) 0 = some c := rfl
  generalize hsr : c :: r = s at hs hl hc
  have hemp : s.isEmpty = false := by rw [← hsr]; rfl
  have hg0 : goodAt s 0 = letterN c.toNat := by
   unfold goodAt
   rw [← nth_get, hc]
   simp
  have bad : ∀ p, p < s.length → goodAt s p = false → nameB s = false := by
   intro p hlt hb
   unfold nameB
   rw [Bool.and_eq_false_iff]
   right
   rw [List.all_eq_false]
   exact ⟨p, List.mem_range.2 hlt, by simp [hb]⟩
  cases hD : digitN c.toNat with
  | true =>
   have hL : letterN c.toNat = false := by
    unfold digitN at hD
    have := of_decide_eq_true hD
    exact decide_eq_false (by omega)
   have hb := bad 0 (by omega) (by rw [hg0, hL])
   (repeat (first | (apply G.h; constructor <;> (first | exact Zc | apply gI | ((repeat' (first | exact Y0 | apply Y1 | ((first | apply Y4 | apply Y5); simp only [evs, Nat.reduceEqDiff, reduceIte] <;> rfl))); done) | (apply Y6; (try simp only [evs]); first | rfl)))))
   ((first | apply g_run | apply g_run0) <;> (first | ((repeat' (first | exact Y0 | apply Y1 | exact Y2 | apply Y3 | ((first | apply Y4 | apply Y5); simp only [evs, Nat.reduceEqDiff, reduceIte] <;> rfl))); done) | exact Rn.mk (digit45 _ _) | apply Cn.mk))
   rintro v m' ⟨rfl, rfl⟩
   (repeat (first | (apply G.h; constructor <;> (first | exact Zc | apply gI | ((repeat' (first | exact Y0 | apply Y1 | ((first | apply Y4 | apply Y5); simp only [evs, Nat.reduceEqDiff, reduceIte, hD] <;> rfl))); done) | (apply Y6; (try simp only [evs, hD]); first | rfl)))))
   (refine g_fin (by repeat' first | exact Rs.nil | apply Rs.cons | (apply Y4; simp only [evs, Nat.reduceEqDiff, reduceIte, hD] <;> rfl)) (by (simp only [evs, Nat.reduceEqDiff, reduceIte, hD] <;> first | rfl | (congr 1; omega) | omega)) ?_)
   exact ⟨by rw [hb]; rfl, by simp only [m_upd, m_mem, m_start]; exact Grow.refl m⟩
  | false =>
   (repeat (first | (apply G.h; constructor <;> (first | exact Zc | apply gI | ((repeat' (first | exact Y0 | apply Y1 | ((first | apply Y4 | apply Y5); simp only [evs, Nat.reduceEqDiff, reduceIte] <;> rfl))); done) | (apply Y6; (try simp only [evs]); first | rfl)))))
   ((first | apply g_run | apply g_run0) <;> (first | ((repeat' (first | exact Y0 | apply Y1 | exact Y2 | apply Y3 | ((first | apply Y4 | apply Y5); simp only [evs, Nat.reduceEqDiff, reduceIte] <;> rfl))); done) | exact Rn.mk (digit45 _ _) | apply Cn.mk))
   rintro v m' ⟨rfl, rfl⟩
   (repeat (first | (apply G.h; constructor <;> (first | exact Zc | apply gI | ((repeat' (first | exact Y0 | apply Y1 | ((first | apply Y4 | apply Y5); simp only [evs, Nat.reduceEqDiff, reduceIte, hD] <;> rfl))); done) | (apply Y6; (try simp only [evs, hD]); first | rfl)))))
   ((first | apply g_run | apply g_run0) <;> (first | ((repeat' (first | exact Y0 | apply Y1 | exact Y2 | apply Y3 | ((first | apply Y4 | apply Y5); simp only [evs, Nat.reduceEqDiff, reduceIte, hD] <;> rfl))); done) | exact Rn.mk (word46 _ _) | apply Cn.mk))
   rintro v m2 ⟨rfl, hg⟩
   simp only [m_upd, m_mem, m_start] at hg
   cases hw : wordB s with
   | true =>
    have hb : nameB s = false := by unfold nameB; rw [hw]; simp
    (repeat (first | (apply G.h; constructor <;> (first | exact Zc | apply gI | ((repeat' (first | exact Y0 | apply Y1 | ((first | apply Y4 | apply Y5); simp only [evs, Nat.reduceEqDiff, reduceIte, hD, hw] <;> rfl))); done) | (apply Y6; (try simp only [evs, hD, hw]); first | rfl)))))
    (refine g_fin (by repeat' first | exact Rs.nil | apply Rs.cons | (apply Y4; simp only [evs, Nat.reduceEqDiff, reduceIte, hD, hw] <;> rfl)) (by (simp only [evs, Nat.reduceEqDiff, reduceIte, hD, hw] <;> first | rfl | (congr 1; omega) | omega)) ?_)
    exact ⟨by rw [hb]; rfl, by simp only [m_upd, m_mem, m_start]; exact hg⟩
   | false =>
    have hnb : nameB s = (List.range s.length).all (goodAt s) := by unfold nameB; rw [hemp, hw]; simp
    (repeat (first | (apply G.h; constructor <;> (first | exact Zc | apply gI | ((repeat' (first | exact Y0 | apply Y1 | ((first | apply Y4 | apply Y5); simp only [evs, Nat.reduceEqDiff, reduceIte, hD, hw] <;> rfl))); done) | (apply Y6; (try simp only [evs, hD, hw]); first | rfl)))))
    refine ewp_loop (ι := Nat) (fun i a => a.n = 34 ∧ a.defers = [] ∧ a.m = m2 ∧ a.tmp 0 = .string ⟨⟨s⟩⟩ ∧ a.tmp 3 = .int .i64 i ∧ i ≤ s.length ∧ ∀ j, j < i → goodAt s j = true) (fun i => s.length - i) 0 ?_ ?_
    ·exact ⟨by (simp only [evs, Nat.reduceEqDiff, reduceIte] <;> first | rfl | (congr 1; omega) | omega), by (simp only [evs, Nat.reduceEqDiff, reduceIte] <;> first | rfl | (congr 1; omega) | omega), by (simp only [evs, Nat.reduceEqDiff, reduceIte] <;> first | rfl | (congr 1; omega) | omega), by (simp only [evs, Nat.reduceEqDiff, reduceIte] <;> first | rfl | (congr 1; omega) | omega), by (simp only [evs, Nat.reduceEqDiff, reduceIte] <;> first | rfl | (congr 1; omega) | omega), by omega, fun j hj => by omega⟩
    rintro p a ⟨hn, hd, hm, h0, h3, hp, hgd⟩ ih
    rcases Nat.lt_or_ge p s.length with hlt | hge
    ·have hc2 : nth s p = some s[p] := by rw [nth_get, List.getElem?_eq_getElem hlt]
     have hga : goodAt s p = (letterN s[p].toNat || (decide (p ≠ 0) && digitN s[p].toNat)) := by
      unfold goodAt; rw [List.getElem?_eq_getElem hlt]
     have h00 : p = 0 → s[p] = c := by
      intro h
      subst h
      rw [nth_get, List.getElem?_eq_getElem hlt] at hc
      exact Option.some.inj hc
     generalize s[p] = c2 at hc2 hga h00
     have next : goodAt s p = true → ∀ j, j < p + 1 → goodAt s j = true := by
      intro hb j hj
      rcases Nat.lt_or_ge j p with h | h
      ·exact hgd j h
      ·obtain rfl : j = p := by omega
       exact hb
     cases hL2 : letterN c2.toNat with
     | true =>
      (repeat (first | (apply G.h; constructor <;> (first | exact Zc | apply gI | ((repeat' (first | exact Y0 | apply Y1 | ((first | apply Y4 | apply Y5); simp only [evs, Nat.reduceEqDiff, reduceIte, hn, hd, hm, h0, h3] <;> rfl))); done) | (apply Y6; (try simp only [evs, hn, hd, hm, h0, h3]); first | rfl)))))
      ((first | apply g_run | apply g_run0) <;> (first | ((repeat' (first | exact Y0 | apply Y1 | exact Y2 | apply Y3 | ((first | apply Y4 | apply Y5); simp only [evs, Nat.reduceEqDiff, reduceIte, hn, hd, hm, h0, h3] <;> rfl))); done) | exact Rn.mk (letter44 _ _) | apply Cn.mk))
      rintro v m' ⟨rfl, rfl⟩
      (repeat (first | (apply G.h; constructor <;> (first | exact Zc | apply gI | ((repeat' (first | exact Y0 | apply Y1 | ((first | apply Y4 | apply Y5); simp only [evs, Nat.reduceEqDiff, reduceIte, hn, hd, hm, h0, h3, hL2] <;> rfl))); done) | (apply Y6; (try simp only [evs, hn, hd, hm, h0, h3, hL2]); first | rfl)))))
      refine ih (p + 1) _ ?_ (by omega)
      exact ⟨by (simp only [evs, Nat.reduceEqDiff, reduceIte, hn] <;> first | rfl | (congr 1; omega) | omega), by (simp only [evs, Nat.reduceEqDiff, reduceIte, hd] <;> first | rfl | (congr 1; omega) | omega), by (simp only [evs, Nat.reduceEqDiff, reduceIte, hm] <;> first | rfl | (congr 1; omega) | omega), by (simp only [evs, Nat.reduceEqDiff, reduceIte, h0] <;> first | rfl | (congr 1; omega) | omega), by (simp only [evs, Nat.reduceEqDiff, reduceIte, h3] <;> first | rfl | (congr 1; omega) | omega), hlt, next (by rw [hga, hL2]; rfl)⟩
     | false =>
      cases hD2 : digitN c2.toNat with
      | true =>
       have hp0 : p ≠ 0 := by
        intro h
        rw [h00 h, hD] at hD2
        cases hD2
       have hpd : decide (p ≠ 0) = true := decide_eq_true hp0
       (repeat (first | (apply G.h; constructor <;> (first | exact Zc | apply gI | ((repeat' (first | exact Y0 | apply Y1 | ((first | apply Y4 | apply Y5); simp only [evs, Nat.reduceEqDiff, reduceIte, hn, hd, hm, h0, h3] <;> rfl))); done) | (apply Y6; (try simp only [evs, hn, hd, hm, h0, h3]); first | rfl)))))
       ((first | apply g_run | apply g_run0) <;> (first | ((repeat' (first | exact Y0 | apply Y1 | exact Y2 | apply Y3 | ((first | apply Y4 | apply Y5); simp only [evs, Nat.reduceEqDiff, reduceIte, hn, hd, hm, h0, h3] <;> rfl))); done) | exact Rn.mk (letter44 _ _) | apply Cn.mk))
       rintro v m' ⟨rfl, rfl⟩
       (repeat (first | (apply G.h; constructor <;> (first | exact Zc | apply gI | ((repeat' (first | exact Y0 | apply Y1 | ((first | apply Y4 | apply Y5); simp only [evs, Nat.reduceEqDiff, reduceIte, hn, hd, hm, h0, h3, hL2] <;> rfl))); done) | (apply Y6; (try simp only [evs, hn, hd, hm, h0, h3, hL2]); first | rfl)))))
       ((first | apply g_run | apply g_run0) <;> (first | ((repeat' (first | exact Y0 | apply Y1 | exact Y2 | apply Y3 | ((first | apply Y4 | apply Y5); simp only [evs, Nat.reduceEqDiff, reduceIte, hn, hd, hm, h0, h3, hL2] <;> rfl))); done) | exact Rn.mk (digit45 _ _) | apply Cn.mk))
       rintro v m' ⟨rfl, rfl⟩
       (repeat (first | (apply G.h; constructor <;> (first | exact Zc | apply gI | ((repeat' (first | exact Y0 | apply Y1 | ((first | apply Y4 | apply Y5); simp only [evs, Nat.reduceEqDiff, reduceIte, hn, hd, hm, h0, h3, hL2, hD2] <;> rfl))); done) | (apply Y6; (try simp only [evs, hn, hd, hm, h0, h3, hL2, hD2]); first | rfl)))))
       refine ih (p + 1) _ ?_ (by omega)
       exact ⟨by (simp only [evs, Nat.reduceEqDiff, reduceIte, hn] <;> first | rfl | (congr 1; omega) | omega), by (simp only [evs, Nat.reduceEqDiff, reduceIte, hd] <;> first | rfl | (congr 1; omega) | omega), by (simp only [evs, Nat.reduceEqDiff, reduceIte, hm] <;> first | rfl | (congr 1; omega) | omega), by (simp only [evs, Nat.reduceEqDiff, reduceIte, h0] <;> first | rfl | (congr 1; omega) | omega), by (simp only [evs, Nat.reduceEqDiff, reduceIte, h3] <;> first | rfl | (congr 1; omega) | omega), hlt, next (by rw [hga, hL2, hD2, hpd]; rfl)⟩
      | false =>
       have hb := bad p hlt (by rw [hga, hL2, hD2]; simp)
       (repeat (first | (apply G.h; constructor <;> (first | exact Zc | apply gI | ((repeat' (first | exact Y0 | apply Y1 | ((first | apply Y4 | apply Y5); simp only [evs, Nat.reduceEqDiff, reduceIte, hn, hd, hm, h0, h3] <;> rfl))); done) | (apply Y6; (try simp only [evs, hn, hd, hm, h0, h3]); first | rfl)))))
       ((first | apply g_run | apply g_run0) <;> (first | ((repeat' (first | exact Y0 | apply Y1 | exact Y2 | apply Y3 | ((first | apply Y4 | apply Y5); simp only [evs, Nat.reduceEqDiff, reduceIte, hn, hd, hm, h0, h3] <;> rfl))); done) | exact Rn.mk (letter44 _ _) | apply Cn.mk))
       rintro v m' ⟨rfl, rfl⟩
       (repeat (first | (apply G.h; constructor <;> (first | exact Zc | apply gI | ((repeat' (first | exact Y0 | apply Y1 | ((first | apply Y4 | apply Y5); simp only [evs, Nat.reduceEqDiff, reduceIte, hn, hd, hm, h0, h3, hL2] <;> rfl))); done) | (apply Y6; (try simp only [evs, hn, hd, hm, h0, h3, hL2]); first | rfl)))))
       ((first | apply g_run | apply g_run0) <;> (first | ((repeat' (first | exact Y0 | apply Y1 | exact Y2 | apply Y3 | ((first | apply Y4 | apply Y5); simp only [evs, Nat.reduceEqDiff, reduceIte, hn, hd, hm, h0, h3, hL2] <;> rfl))); done) | exact Rn.mk (digit45 _ _) | apply Cn.mk))
       rintro v m' ⟨rfl, rfl⟩
       (repeat (first | (apply G.h; constructor <;> (first | exact Zc | apply gI | ((repeat' (first | exact Y0 | apply Y1 | ((first | apply Y4 | apply Y5); simp only [evs, Nat.reduceEqDiff, reduceIte, hn, hd, hm, h0, h3, hL2, hD2] <;> rfl))); done) | (apply Y6; (try simp only [evs, hn, hd, hm, h0, h3, hL2, hD2]); first | rfl)))))
       (refine g_fin (by repeat' first | exact Rs.nil | apply Rs.cons | (apply Y4; simp only [evs, Nat.reduceEqDiff, reduceIte, hn, hd, hm, h0, h3, hL2, hD2] <;> rfl)) (by (simp only [evs, Nat.reduceEqDiff, reduceIte, hn, hd, hm, h0, h3, hL2, hD2] <;> first | rfl | (congr 1; omega) | omega)) ?_)
       exact ⟨by rw [hb]; rfl, by simp only [m_upd, m_mem, hm]; exact hg⟩
    ·have hall : (List.range s.length).all (goodAt s) = true := by
      rw [List.all_eq_true]
      intro j hj
      exact hgd j (by have := List.mem_range.1 hj; omega)
     (repeat (first | (apply G.h; constructor <;> (first | exact Zc | apply gI | ((repeat' (first | exact Y0 | apply Y1 | ((first | apply Y4 | apply Y5); simp only [evs, Nat.reduceEqDiff, reduceIte, hn, hd, hm, h0, h3] <;> rfl))); done) | (apply Y6; (try simp only [evs, hn, hd, hm, h0, h3]); first | rfl)))))
     (refine g_fin (by repeat' first | exact Rs.nil | apply Rs.cons | (apply Y4; simp only [evs, Nat.reduceEqDiff, reduceIte, hn, hd, hm, h0, h3] <;> rfl)) (by (simp only [evs, Nat.reduceEqDiff, reduceIte, hn, hd, hm, h0, h3] <;> first | rfl | (congr 1; omega) | omega)) ?_)
     exact ⟨by rw [hnb, hall]; rfl, by simp only [m_upd, m_mem, hm]; exact hg⟩
end Go.Proofs.YtihokakelnfdgaaDoor
