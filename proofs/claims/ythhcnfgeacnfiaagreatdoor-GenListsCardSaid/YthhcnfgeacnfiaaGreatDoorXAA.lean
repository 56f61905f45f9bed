/- Part of a verified evaluator of the model's programs and of runs by it: SB SL LA SL2 SL3 SM SM2 SM5 SM3 SM4 SC0 SD0 SD1. -/
import Derived.Test.YthhcnfgeacnfiaaGreatDoorEnv
import Derived.Test.YthhcnfgeacnfiaaGreatDoorEvF
namespace Go.Proofs.YthhcnfgeacnfiaaGreatDoor
open Go Go.Ev
set_option maxRecDepth 100000
set_option linter.unusedVariables false
set_option linter.unusedSimpArgs false
set_option pp.maxSteps 1500

structure Nd where
 kind : Int
 n : Int
 text : List UInt8
 num : Int
 pos : Int

def Nd.ok (x : Nd) : Prop := (-9223372036854775808 ≤ x.kind ∧ x.kind ≤ 9223372036854775807) ∧ (-9223372036854775808 ≤ x.n ∧ x.n ≤ 9223372036854775807) ∧ (-9223372036854775808 ≤ x.num ∧ x.num ≤ 9223372036854775807) ∧ (-9223372036854775808 ≤ x.pos ∧ x.pos ≤ 9223372036854775807)
def Nd.val (x : Nd) : List Value := [.int .i64 x.kind, .int .i64 x.n, .string ⟨⟨x.text⟩⟩, .int .i64 x.num, .int .i64 x.pos]

/-- nodes in a block. -/
def Nodes (m : Mem) (b off : Nat) (l : List Nd) : Prop := ∃ n c ty kd, m.get b = some (.cells n c ty kd) ∧ off + l.length * 5 ≤ n ∧ ∀ (i j : Nat) (h : i < l.length), j < 5 → c.get (off + i * 5 + j) = l[i].val[j]?

section
variable {m : Mem} {b off : Nat} {l : List Nd}
theorem Nodes.n (h : Nodes m b off l) (i : Nat) (hi : i < l.length) : loadAt evEnv m 3 b (off + i * 5 + 1) = some (.int .i64 l[i].n) := by
 obtain ⟨n, c, ty, kd, h1, h2, h3⟩ := h
 exact load_cell rfl rfl h1 (by omega) (h3 i 1 hi (by omega))
theorem Nodes.kind (h : Nodes m b off l) (i : Nat) (hi : i < l.length) : loadAt evEnv m 3 b (off + i * 5 + 0) = some (.int .i64 l[i].kind) := by
 obtain ⟨n, c, ty, kd, h1, h2, h3⟩ := h
 exact load_cell rfl rfl h1 (by omega) (h3 i 0 hi (by omega))
end


attribute [local irreducible] quiet allocs effect wp ret wpO Runs Act.tmp Act.eval fin results Tree.set binOp loadAt storeAt target wanted cellsFrom
/-- the place behind so many nodes from a place on. -/
def bh (l : List Nd) : Nat → Nat → Nat → Option Nat
 | 0, _, _ => none
 | f + 1, at_, due => if due = 0 then some at_ else match l[at_]? with
  | none => none
  | some x => if due - 1 + (min (max x.n 0) l.length).toNat > l.length then none else bh l f (at_ + 1) (due - 1 + (min (max x.n 0) l.length).toNat)

theorem behind_bad (m : Mem) (sl : Option Addr) (len cap : Nat) (at_ : Int) (hb : at_ < 0 ∨ (len : Int) ≤ at_) :
  Runs evEnv 32 [.slice sl len cap, .int .i64 at_] m fun v m' => v = .tuple ⟨[.int .i64 0, .int .i64 1]⟩ ∧ m' = m := by
 refine runs_start rfl rfl rfl rfl ?_
 rcases Int.lt_or_le at_ 0 with h | h
 ·(repeat (first | (apply G.h; constructor <;> (first | exact Zc | apply gI | ((repeat' (first | exact Y0 | apply Y1 | ((first | apply Y4 | apply Y5); simp only [evs, Nat.reduceEqDiff, reduceIte] <;> rfl))); done) | (apply Y6; (try simp only [evs]); first | rfl)))))
  (refine g_fin (by repeat' first | exact Rs.nil | apply Rs.cons | (apply Y4; simp only [evs, Nat.reduceEqDiff, reduceIte] <;> rfl)) (by (simp only [evs, Nat.reduceEqDiff, reduceIte] <;> first | rfl | (congr 1; omega) | omega)) ?_)
  exact ⟨rfl, by (simp only [evs, Nat.reduceEqDiff, reduceIte] <;> first | rfl | (congr 1; omega) | omega)⟩
 ·(repeat (first | (apply G.h; constructor <;> (first | exact Zc | apply gI | ((repeat' (first | exact Y0 | apply Y1 | ((first | apply Y4 | apply Y5); simp only [evs, Nat.reduceEqDiff, reduceIte] <;> rfl))); done) | (apply Y6; (try simp only [evs]); first | rfl)))))
  (refine g_fin (by repeat' first | exact Rs.nil | apply Rs.cons | (apply Y4; simp only [evs, Nat.reduceEqDiff, reduceIte] <;> rfl)) (by (simp only [evs, Nat.reduceEqDiff, reduceIte] <;> first | rfl | (congr 1; omega) | omega)) ?_)
  exact ⟨rfl, by (simp only [evs, Nat.reduceEqDiff, reduceIte] <;> first | rfl | (congr 1; omega) | omega)⟩

def bhVal : Option Nat → Value
 | some k => .tuple ⟨[.int .i64 k, .int .i64 0]⟩
 | none => .tuple ⟨[.int .i64 0, .int .i64 6]⟩

set_option maxHeartbeats 1000000 in
theorem behind_runs (m : Mem) (b off cap : Nat) (l : List Nd) (hN : Nodes m b off l) (hl : l.length ≤ 100000) (k : Nat) (hk : k < l.length) :
  Runs evEnv 32 [.slice (some ⟨b, off, none⟩) l.length cap, .int .i64 k] m fun v m' => v = bhVal (bh l (l.length + 1 - k) k 1) ∧ m' = m := by
 refine runs_start rfl rfl rfl rfl ?_
 (repeat (first | (apply G.h; constructor <;> (first | exact Zc | apply gI | ((repeat' (first | exact Y0 | apply Y1 | ((first | apply Y4 | apply Y5); simp only [evs, Nat.reduceEqDiff, reduceIte] <;> rfl))); done) | (apply Y6; (try simp only [evs]); first | rfl)))))
 refine ewp_loop (ι := Nat × Nat) (fun i a => a.n = 40 ∧ a.defers = [] ∧ a.m = m ∧ a.tmp 0 = .slice (some ⟨b, off, none⟩) l.length cap ∧ a.tmp 1 = .int .i64 i.1 ∧ a.tmp 6 = .int .i64 i.2 ∧ i.1 ≤ l.length ∧ i.2 ≤ l.length ∧
  bh l (l.length + 1 - k) k 1 = bh l (l.length + 1 - i.1) i.1 i.2) (fun i => l.length + 1 - i.1) (k, 1) ?_ ?_
 ·refine ⟨by (simp only [evs, Nat.reduceEqDiff, reduceIte] <;> first | rfl | (congr 1; omega) | omega), by (simp only [evs, Nat.reduceEqDiff, reduceIte] <;> first | rfl | (congr 1; omega) | omega), by (simp only [evs, Nat.reduceEqDiff, reduceIte] <;> first | rfl | (congr 1; omega) | omega), by (simp only [evs, Nat.reduceEqDiff, reduceIte] <;> first | rfl | (congr 1; omega) | omega), by (simp only [evs, Nat.reduceEqDiff, reduceIte] <;> first | rfl | (congr 1; omega) | omega), by (simp only [evs, Nat.reduceEqDiff, reduceIte] <;> first | rfl | (congr 1; omega) | omega), ?_, ?_, rfl⟩ <;> simp only <;> omega
 rintro ⟨p, q⟩ a ⟨hn, hd, hm, h0, h1, h6, hp, hq, hbh⟩ ih
 simp only at hn hd hm h0 h1 h6 hp hq hbh ih
 rcases Nat.eq_zero_or_pos q with h | h
 ·(repeat (first | (apply G.h; constructor <;> (first | exact Zc | apply gI | ((repeat' (first | exact Y0 | apply Y1 | ((first | apply Y4 | apply Y5); simp only [evs, Nat.reduceEqDiff, reduceIte, hn, hd, hm, h0, h1, h6] <;> rfl))); done) | (apply Y6; (try simp only [evs, hn, hd, hm, h0, h1, h6]); first | rfl)))))
  (refine g_fin (by repeat' first | exact Rs.nil | apply Rs.cons | (apply Y4; simp only [evs, Nat.reduceEqDiff, reduceIte, hn, hd, hm, h0, h1, h6] <;> rfl)) (by (simp only [evs, Nat.reduceEqDiff, reduceIte, hn, hd, hm, h0, h1, h6] <;> first | rfl | (congr 1; omega) | omega)) ?_)
  rw [hbh, show l.length + 1 - p = (l.length - p) + 1 by omega]
  simp only [bh, h, if_true]
  exact ⟨rfl, by (simp only [evs, Nat.reduceEqDiff, reduceIte, hm] <;> first | rfl | (congr 1; omega) | omega)⟩
 ·rcases Nat.lt_or_ge p l.length with hlt | hge
  ·have hx := hN.n p hlt
   obtain ⟨s, hs⟩ : ∃ s : Nat, (min (max l[p].n 0) l.length).toNat = s := ⟨_, rfl⟩
   have hstep : bh l (l.length + 1 - p) p q = if q - 1 + s > l.length then none else bh l (l.length - p) (p + 1) (q - 1 + s) := by
    rw [show l.length + 1 - p = (l.length - p) + 1 by omega]
    simp only [bh, if_neg (show ¬ q = 0 by omega), List.getElem?_eq_getElem hlt, hs]
   rcases Nat.lt_or_ge l.length (q - 1 + s) with hgt | hle
   ·(repeat (first | (apply G.h; constructor <;> (first | exact Zc | apply gI | ((repeat' (first | exact Y0 | apply Y1 | ((first | apply Y4 | apply Y5); simp only [evs, Nat.reduceEqDiff, reduceIte, hn, hd, hm, h0, h1, h6] <;> rfl))); done) | (apply Y6; (try simp only [evs, hn, hd, hm, h0, h1, h6]); first | exact hx)))))
    (refine g_fin (by repeat' first | exact Rs.nil | apply Rs.cons | (apply Y4; simp only [evs, Nat.reduceEqDiff, reduceIte, hn, hd, hm, h0, h1, h6] <;> rfl)) (by (simp only [evs, Nat.reduceEqDiff, reduceIte, hn, hd, hm, h0, h1, h6] <;> first | rfl | (congr 1; omega) | omega)) ?_)
    rw [hbh, hstep, if_pos hgt]
    exact ⟨rfl, by (simp only [evs, Nat.reduceEqDiff, reduceIte, hm] <;> first | rfl | (congr 1; omega) | omega)⟩
   ·(repeat (first | (apply G.h; constructor <;> (first | exact Zc | apply gI | ((repeat' (first | exact Y0 | apply Y1 | ((first | apply Y4 | apply Y5); simp only [evs, Nat.reduceEqDiff, reduceIte, hn, hd, hm, h0, h1, h6] <;> rfl))); done) | (apply Y6; (try simp only [evs, hn, hd, hm, h0, h1, h6]); first | exact hx)))))
    refine ih (p + 1, q - 1 + s) _ ?_ ?_
    refine ⟨by (simp only [evs, Nat.reduceEqDiff, reduceIte, hn] <;> first | rfl | (congr 1; omega) | omega), by (simp only [evs, Nat.reduceEqDiff, reduceIte, hd] <;> first | rfl | (congr 1; omega) | omega), by (simp only [evs, Nat.reduceEqDiff, reduceIte, hm] <;> first | rfl | (congr 1; omega) | omega), by (simp only [evs, Nat.reduceEqDiff, reduceIte, h0] <;> first | rfl | (congr 1; omega) | omega), by (simp only [evs, Nat.reduceEqDiff, reduceIte, h1] <;> first | rfl | (congr 1; omega) | omega), by (simp only [evs, Nat.reduceEqDiff, reduceIte, h6] <;> first | rfl | (congr 1; omega) | omega), ?_, ?_, ?_⟩
    ·simp only; omega
    ·simp only; omega
    ·rw [hbh, hstep, if_neg (by omega)]
     simp only [show l.length + 1 - (p + 1) = l.length - p by omega]
    ·simp only; omega
  ·(repeat (first | (apply G.h; constructor <;> (first | exact Zc | apply gI | ((repeat' (first | exact Y0 | apply Y1 | ((first | apply Y4 | apply Y5); simp only [evs, Nat.reduceEqDiff, reduceIte, hn, hd, hm, h0, h1, h6] <;> rfl))); done) | (apply Y6; (try simp only [evs, hn, hd, hm, h0, h1, h6]); first | rfl)))))
   (refine g_fin (by repeat' first | exact Rs.nil | apply Rs.cons | (apply Y4; simp only [evs, Nat.reduceEqDiff, reduceIte, hn, hd, hm, h0, h1, h6] <;> rfl)) (by (simp only [evs, Nat.reduceEqDiff, reduceIte, hn, hd, hm, h0, h1, h6] <;> first | rfl | (congr 1; omega) | omega)) ?_)
   rw [hbh, show l.length + 1 - p = (l.length - p) + 1 by omega]
   simp only [bh, if_neg (show ¬ q = 0 by omega), List.getElem?_eq_none hge]
   exact ⟨rfl, by (simp only [evs, Nat.reduceEqDiff, reduceIte, hm] <;> first | rfl | (congr 1; omega) | omega)⟩
end Go.Proofs.YthhcnfgeacnfiaaGreatDoor

namespace Go.Proofs.YthhcnfgeacnfiaaGreatDoor
open Go Go.Ev
set_option maxRecDepth 100000
set_option linter.unusedVariables false
set_option linter.unusedSimpArgs false
set_option pp.maxSteps 1500
attribute [local irreducible] quiet allocs effect wp ret wpO Runs Act.tmp Act.eval fin results Tree.set binOp loadAt storeAt target wanted cellsFrom

def letterN (n : Nat) : Bool := decide (97 ≤ n ∧ n ≤ 122 ∨ 65 ≤ n ∧ n ≤ 90 ∨ n = 95)
def digitN (n : Nat) : Bool := decide (48 ≤ n ∧ n ≤ 57)

theorem cases7 (n : Nat) (P : Prop) (h : 97 ≤ n ∧ n ≤ 122 → P) (h1 : 123 ≤ n → P) (h2 : n = 96 → P) (h3 : n = 95 → P) (h4 : 91 ≤ n ∧ n ≤ 94 → P) (h5 : 65 ≤ n ∧ n ≤ 90 → P) (h6 : n ≤ 64 → P) : P := by
 rcases Nat.lt_or_ge n 65 with g | g
 ·exact h6 (by omega)
 rcases Nat.lt_or_ge n 91 with g | g
 ·exact h5 (by omega)
 rcases Nat.lt_or_ge n 95 with g | g
 ·exact h4 (by omega)
 rcases Nat.lt_or_ge n 96 with g | g
 ·exact h3 (by omega)
 rcases Nat.lt_or_ge n 97 with g | g
 ·exact h2 (by omega)
 rcases Nat.lt_or_ge n 123 with g | g
 ·exact h (by omega)
 ·exact h1 (by omega)

set_option maxHeartbeats 1000000 in
theorem letter77 (n : Nat) (m : Mem) : Runs evEnv 77 [.int .u8 n] m fun v m' => v = .bool (letterN n) ∧ m' = m := by
 refine runs_start rfl rfl rfl rfl ?_
 refine cases7 n _ ?_ ?_ ?_ ?_ ?_ ?_ ?_ <;> intro h
 all_goals
  (repeat (first | (apply G.h; constructor <;> (first | exact Zc | apply gI | ((repeat' (first | exact Y0 | apply Y1 | ((first | apply Y4 | apply Y5); simp only [evs, Nat.reduceEqDiff, reduceIte] <;> rfl))); done) | (apply Y6; (try simp only [evs]); first | rfl)))))
  (refine g_fin (by repeat' first | exact Rs.nil | apply Rs.cons | (apply Y4; simp only [evs, Nat.reduceEqDiff, reduceIte] <;> rfl)) (by (simp only [evs, Nat.reduceEqDiff, reduceIte] <;> first | rfl | (congr 1; omega) | omega)) ?_)
  refine ⟨congrArg Value.bool ?_, by (simp only [evs, Nat.reduceEqDiff, reduceIte] <;> first | rfl | (congr 1; omega) | omega)⟩
  unfold letterN
  first | exact (decide_eq_true (by omega)).symm | exact (decide_eq_false (by omega)).symm

set_option maxHeartbeats 1000000 in
theorem letter44 (n : Nat) (m : Mem) : Runs evEnv 44 [.int .u8 n] m fun v m' => v = .bool (letterN n) ∧ m' = m := by
 refine runs_start rfl rfl rfl rfl ?_
 refine cases7 n _ ?_ ?_ ?_ ?_ ?_ ?_ ?_ <;> intro h
 all_goals
  (repeat (first | (apply G.h; constructor <;> (first | exact Zc | apply gI | ((repeat' (first | exact Y0 | apply Y1 | ((first | apply Y4 | apply Y5); simp only [evs, Nat.reduceEqDiff, reduceIte] <;> rfl))); done) | (apply Y6; (try simp only [evs]); first | rfl)))))
  (refine g_fin (by repeat' first | exact Rs.nil | apply Rs.cons | (apply Y4; simp only [evs, Nat.reduceEqDiff, reduceIte] <;> rfl)) (by (simp only [evs, Nat.reduceEqDiff, reduceIte] <;> first | rfl | (congr 1; omega) | omega)) ?_)
  refine ⟨congrArg Value.bool ?_, by (simp only [evs, Nat.reduceEqDiff, reduceIte] <;> first | rfl | (congr 1; omega) | omega)⟩
  unfold letterN
  first | exact (decide_eq_true (by omega)).symm | exact (decide_eq_false (by omega)).symm

set_option maxHeartbeats 1000000 in
theorem digit78 (n : Nat) (m : Mem) : Runs evEnv 78 [.int .u8 n] m fun v m' => v = .bool (digitN n) ∧ m' = m := by
 refine runs_start rfl rfl rfl rfl ?_
 rcases Nat.lt_or_ge n 48 with h | h
 rotate_left
 rcases Nat.lt_or_ge n 58 with h2 | h2
 all_goals
  (repeat (first | (apply G.h; constructor <;> (first | exact Zc | apply gI | ((repeat' (first | exact Y0 | apply Y1 | ((first | apply Y4 | apply Y5); simp only [evs, Nat.reduceEqDiff, reduceIte] <;> rfl))); done) | (apply Y6; (try simp only [evs]); first | rfl)))))
  (refine g_fin (by repeat' first | exact Rs.nil | apply Rs.cons | (apply Y4; simp only [evs, Nat.reduceEqDiff, reduceIte] <;> rfl)) (by (simp only [evs, Nat.reduceEqDiff, reduceIte] <;> first | rfl | (congr 1; omega) | omega)) ?_)
  refine ⟨congrArg Value.bool ?_, by (simp only [evs, Nat.reduceEqDiff, reduceIte] <;> first | rfl | (congr 1; omega) | omega)⟩
  unfold digitN
  first | exact (decide_eq_true (by omega)).symm | exact (decide_eq_false (by omega)).symm

set_option maxHeartbeats 1000000 in
theorem digit45 (n : Nat) (m : Mem) : Runs evEnv 45 [.int .u8 n] m fun v m' => v = .bool (digitN n) ∧ m' = m := by
 refine runs_start rfl rfl rfl rfl ?_
 rcases Nat.lt_or_ge n 48 with h | h
 rotate_left
 rcases Nat.lt_or_ge n 58 with h2 | h2
 all_goals
  (repeat (first | (apply G.h; constructor <;> (first | exact Zc | apply gI | ((repeat' (first | exact Y0 | apply Y1 | ((first | apply Y4 | apply Y5); simp only [evs, Nat.reduceEqDiff, reduceIte] <;> rfl))); done) | (apply Y6; (try simp only [evs]); first | rfl)))))
  (refine g_fin (by repeat' first | exact Rs.nil | apply Rs.cons | (apply Y4; simp only [evs, Nat.reduceEqDiff, reduceIte] <;> rfl)) (by (simp only [evs, Nat.reduceEqDiff, reduceIte] <;> first | rfl | (congr 1; omega) | omega)) ?_)
  refine ⟨congrArg Value.bool ?_, by (simp only [evs, Nat.reduceEqDiff, reduceIte] <;> first | rfl | (congr 1; omega) | omega)⟩
  unfold digitN
  first | exact (decide_eq_true (by omega)).symm | exact (decide_eq_false (by omega)).symm
end Go.Proofs.YthhcnfgeacnfiaaGreatDoor

namespace Go.Proofs.YthhcnfgeacnfiaaGreatDoor
open Go Go.Ev
set_option maxRecDepth 100000
set_option linter.unusedVariables false
set_option linter.unusedSimpArgs false
set_option pp.maxSteps 1500
attribute [local irreducible] quiet allocs effect wp ret wpO Runs Act.tmp Act.eval fin results Tree.set binOp loadAt storeAt target wanted cellsFrom

theorem letter37 (c : Nat) (m : Mem) : Runs evEnv 44 [.int .u8 c] m fun v m' => v = .bool (letterN c) ∧ m' = m := by
 refine runs_start rfl rfl rfl rfl ?_
 (repeat' (first | (apply G.h; constructor <;> (first | exact Zc | apply gI | ((repeat' (first | exact Y0 | apply Y1 | ((first | apply Y4 | apply Y5); simp only [evs, Nat.reduceEqDiff, reduceIte] <;> rfl))); done) | (apply Y6; (try simp only [evs]); first | rfl))) | (apply g_split <;> (first | (apply Ev.mk; (simp only [evs, Nat.reduceEqDiff, reduceIte] <;> rfl)) | (apply Dn.mk; (simp only [evs, Nat.reduceEqDiff, reduceIte] <;> rfl)) | (apply g_wpO) | intro h | constructor | fail))))
 all_goals
  (refine g_fin (by repeat' first | exact Rs.nil | apply Rs.cons | (apply Y4; simp only [evs, Nat.reduceEqDiff, reduceIte] <;> rfl)) (by (simp only [evs, Nat.reduceEqDiff, reduceIte] <;> first | rfl | (congr 1; omega) | omega)) ?_)
  refine ⟨congrArg Value.bool ?_, by (simp only [evs, Nat.reduceEqDiff, reduceIte] <;> first | rfl | (congr 1; omega) | omega)⟩
  unfold letterN
  first | (symm; simp; omega) | (simp; omega)
theorem digit38 (c : Nat) (m : Mem) : Runs evEnv 45 [.int .u8 c] m fun v m' => v = .bool (digitN c) ∧ m' = m := by
 refine runs_start rfl rfl rfl rfl ?_
 (repeat' (first | (apply G.h; constructor <;> (first | exact Zc | apply gI | ((repeat' (first | exact Y0 | apply Y1 | ((first | apply Y4 | apply Y5); simp only [evs, Nat.reduceEqDiff, reduceIte] <;> rfl))); done) | (apply Y6; (try simp only [evs]); first | rfl))) | (apply g_split <;> (first | (apply Ev.mk; (simp only [evs, Nat.reduceEqDiff, reduceIte] <;> rfl)) | (apply Dn.mk; (simp only [evs, Nat.reduceEqDiff, reduceIte] <;> rfl)) | (apply g_wpO) | intro h | constructor | fail))))
 all_goals
  (refine g_fin (by repeat' first | exact Rs.nil | apply Rs.cons | (apply Y4; simp only [evs, Nat.reduceEqDiff, reduceIte] <;> rfl)) (by (simp only [evs, Nat.reduceEqDiff, reduceIte] <;> first | rfl | (congr 1; omega) | omega)) ?_)
  refine ⟨congrArg Value.bool ?_, by (simp only [evs, Nat.reduceEqDiff, reduceIte] <;> first | rfl | (congr 1; omega) | omega)⟩
  unfold digitN
  first | (symm; simp; omega) | (simp; omega)
end Go.Proofs.YthhcnfgeacnfiaaGreatDoor

namespace Go.Proofs.YthhcnfgeacnfiaaGreatDoor
open Go Go.Ev
set_option maxRecDepth 100000
set_option linter.unusedVariables false
set_option linter.unusedSimpArgs false
set_option pp.maxSteps 1500
attribute [local irreducible] quiet allocs effect wp ret wpO Runs Act.tmp Act.eval fin results Tree.set binOp loadAt storeAt target wanted cellsFrom

def words : List (List UInt8) := [[118, 97, 114], [102, 110], [105, 102], [101, 108, 115, 101], [119, 104, 105, 108, 101], [98, 114, 101, 97, 107], [99, 111, 110, 116, 105, 110, 117, 101], [114, 101, 116, 117, 114, 110], [116, 104, 114, 111, 119], [116, 114, 121], [99, 97, 116, 99, 104], [115, 112, 97, 119, 110], [116, 114, 117, 101], [102, 97, 108, 115, 101], [110, 105, 108], [97, 110, 100], [111, 114], [110, 111, 116]]
def wordB (s : List UInt8) : Bool := decide (s ∈ words)

set_option maxHeartbeats 2000000 in
theorem word79 (s : List UInt8) (m : Mem) : Runs evEnv 79 [.string ⟨⟨s⟩⟩] m fun v m' => v = .bool (wordB s) ∧ m' = m := by
 refine runs_start rfl rfl rfl rfl ?_
 (repeat' (first | (apply G.h; constructor <;> (first | exact Zc | apply gI | ((repeat' (first | exact Y0 | apply Y1 | ((first | apply Y4 | apply Y5); simp only [evs, Nat.reduceEqDiff, reduceIte] <;> rfl))); done) | (apply Y6; (try simp only [evs]); first | rfl))) | (apply g_split <;> (first | (apply Ev.mk; (simp only [evs, Nat.reduceEqDiff, reduceIte] <;> rfl)) | (apply Dn.mk; (simp only [evs, Nat.reduceEqDiff, reduceIte] <;> rfl)) | (apply g_wpO) | intro h | constructor | fail))))
 all_goals
  (refine g_fin (by repeat' first | exact Rs.nil | apply Rs.cons | (apply Y4; simp only [evs, Nat.reduceEqDiff, reduceIte] <;> rfl)) (by (simp only [evs, Nat.reduceEqDiff, reduceIte] <;> first | rfl | (congr 1; omega) | omega)) ?_)
  refine ⟨congrArg Value.bool ?_, by (simp only [evs, Nat.reduceEqDiff, reduceIte] <;> first | rfl | (congr 1; omega) | omega)⟩
  unfold wordB words
  first | (exact (decide_eq_true (by simp_all)).symm) | (exact (decide_eq_false (by simp_all)).symm)
end Go.Proofs.YthhcnfgeacnfiaaGreatDoor

namespace Go.Proofs.YthhcnfgeacnfiaaGreatDoor
open Go Go.Ev
set_option maxRecDepth 100000
set_option linter.unusedVariables false
set_option linter.unusedSimpArgs false
set_option pp.maxSteps 1500
attribute [local irreducible] quiet allocs effect wp ret wpO Runs Act.tmp Act.eval fin results Tree.set binOp loadAt storeAt target wanted cellsFrom

theorem nth_get {α : Type} : ∀ (l : List α) (i : Nat), nth l i = l[i]?
 | [], i => by cases i <;> rfl
 | x :: l, 0 => rfl
 | x :: l, i + 1 => by simpa [nth] using nth_get l i

def goodAt (s : List UInt8) (j : Nat) : Bool := match s[j]? with
 | some c => letterN c.toNat || (decide (j ≠ 0) && digitN c.toNat)
 | none => true
def nameB (s : List UInt8) : Bool := !s.isEmpty && !wordB s && (List.range s.length).all (goodAt s)

set_option maxHeartbeats 2000000 in
theorem name61 (s : List UInt8) (m : Mem) (hs : s.length ≤ 9223372036854775807) : Runs evEnv 61 [.string ⟨⟨s⟩⟩] m fun v m' => v = .bool (nameB s) ∧ m' = m := by
 refine runs_start rfl rfl rfl rfl ?_
 (repeat (first | (apply G.h; constructor <;> (first | exact Zc | apply gI | ((repeat' (first | exact Y0 | apply Y1 | ((first | apply Y4 | apply Y5); simp only [evs, Nat.reduceEqDiff, reduceIte] <;> rfl))); done) | (apply Y6; (try simp only [evs]); first | rfl)))))
 refine ewp_loop (ι := Nat) (fun i a => a.n = 33 ∧ a.defers = [] ∧ a.m = m ∧ a.tmp 0 = .string ⟨⟨s⟩⟩ ∧ a.tmp 5 = .int .i64 s.length ∧ a.tmp 6 = .int .i64 i ∧ i ≤ s.length ∧ ∀ j, j < i → goodAt s j = true) (fun i => s.length - i) 0 ?_ ?_
 ·refine ⟨by (simp only [evs, Nat.reduceEqDiff, reduceIte] <;> first | rfl | (congr 1; omega) | omega), by (simp only [evs, Nat.reduceEqDiff, reduceIte] <;> first | rfl | (congr 1; omega) | omega), by (simp only [evs, Nat.reduceEqDiff, reduceIte] <;> first | rfl | (congr 1; omega) | omega), by (simp only [evs, Nat.reduceEqDiff, reduceIte] <;> first | rfl | (congr 1; omega) | omega), by (simp only [evs, Nat.reduceEqDiff, reduceIte] <;> first | rfl | (congr 1; omega) | omega), by (simp only [evs, Nat.reduceEqDiff, reduceIte] <;> first | rfl | (congr 1; omega) | omega), ?_, ?_⟩
  ·omega
  ·intro j hj; omega
 rintro p a ⟨hn, hd, hm, h0, h5, h6, hp, hg⟩ ih
 rcases Nat.lt_or_ge p s.length with hlt | hge
 ·have hc : nth s p = some s[p] := by rw [nth_get, List.getElem?_eq_getElem hlt]
  have hga : goodAt s p = (letterN s[p].toNat || (decide (p ≠ 0) && digitN s[p].toNat)) := by
   unfold goodAt; rw [List.getElem?_eq_getElem hlt]
  generalize s[p] = c at hc hga
  have bad : goodAt s p = false → nameB s = false := by
   intro hb
   unfold nameB
   rw [Bool.and_eq_false_iff]
   right
   rw [List.all_eq_false]
   exact ⟨p, List.mem_range.2 hlt, by simp [hb]⟩
  have next : goodAt s p = true → ∀ j, j < p + 1 → goodAt s j = true := by
   intro hb j hj
   rcases Nat.lt_or_ge j p with h | h
   ·exact hg j h
   ·obtain rfl : j = p := by omega
    exact hb
  cases hL : letterN c.toNat with
  | true =>
   (repeat (first | (apply G.h; constructor <;> (first | exact Zc | apply gI | ((repeat' (first | exact Y0 | apply Y1 | ((first | apply Y4 | apply Y5); simp only [evs, Nat.reduceEqDiff, reduceIte, hn, hd, hm, h0, h5, h6] <;> rfl))); done) | (apply Y6; (try simp only [evs, hn, hd, hm, h0, h5, h6]); first | rfl)))))
   ((first | apply g_run | apply g_run0) <;> (first | ((repeat' (first | exact Y0 | apply Y1 | exact Y2 | apply Y3 | ((first | apply Y4 | apply Y5); simp only [evs, Nat.reduceEqDiff, reduceIte, hn, hd, hm, h0, h5, h6] <;> rfl))); done) | exact Rn.mk (letter77 _ _) | apply Cn.mk))
   rintro v m' ⟨rfl, rfl⟩
   (repeat (first | (apply G.h; constructor <;> (first | exact Zc | apply gI | ((repeat' (first | exact Y0 | apply Y1 | ((first | apply Y4 | apply Y5); simp only [evs, Nat.reduceEqDiff, reduceIte, hn, hd, hm, h0, h5, h6, hL] <;> rfl))); done) | (apply Y6; (try simp only [evs, hn, hd, hm, h0, h5, h6, hL]); first | rfl)))))
   refine ih (p + 1) _ ?_ (by omega)
   exact ⟨by (simp only [evs, Nat.reduceEqDiff, reduceIte, hn] <;> first | rfl | (congr 1; omega) | omega), by (simp only [evs, Nat.reduceEqDiff, reduceIte, hd] <;> first | rfl | (congr 1; omega) | omega), by (simp only [evs, Nat.reduceEqDiff, reduceIte, hm] <;> first | rfl | (congr 1; omega) | omega), by (simp only [evs, Nat.reduceEqDiff, reduceIte, h0] <;> first | rfl | (congr 1; omega) | omega), by (simp only [evs, Nat.reduceEqDiff, reduceIte, h5] <;> first | rfl | (congr 1; omega) | omega), by (simp only [evs, Nat.reduceEqDiff, reduceIte, h6] <;> first | rfl | (congr 1; omega) | omega), hlt, next (by rw [hga, hL]; rfl)⟩
  | false =>
   rcases Nat.eq_zero_or_pos p with hp0 | hp0
   ·have hb : nameB s = false := bad (by rw [hga, hL, hp0]; rfl)
    (repeat (first | (apply G.h; constructor <;> (first | exact Zc | apply gI | ((repeat' (first | exact Y0 | apply Y1 | ((first | apply Y4 | apply Y5); simp only [evs, Nat.reduceEqDiff, reduceIte, hn, hd, hm, h0, h5, h6] <;> rfl))); done) | (apply Y6; (try simp only [evs, hn, hd, hm, h0, h5, h6]); first | rfl)))))
    ((first | apply g_run | apply g_run0) <;> (first | ((repeat' (first | exact Y0 | apply Y1 | exact Y2 | apply Y3 | ((first | apply Y4 | apply Y5); simp only [evs, Nat.reduceEqDiff, reduceIte, hn, hd, hm, h0, h5, h6] <;> rfl))); done) | exact Rn.mk (letter77 _ _) | apply Cn.mk))
    rintro v m' ⟨rfl, rfl⟩
    (repeat (first | (apply G.h; constructor <;> (first | exact Zc | apply gI | ((repeat' (first | exact Y0 | apply Y1 | ((first | apply Y4 | apply Y5); simp only [evs, Nat.reduceEqDiff, reduceIte, hn, hd, hm, h0, h5, h6, hL] <;> rfl))); done) | (apply Y6; (try simp only [evs, hn, hd, hm, h0, h5, h6, hL]); first | rfl)))))
    (refine g_fin (by repeat' first | exact Rs.nil | apply Rs.cons | (apply Y4; simp only [evs, Nat.reduceEqDiff, reduceIte, hn, hd, hm, h0, h5, h6, hL] <;> rfl)) (by (simp only [evs, Nat.reduceEqDiff, reduceIte, hn, hd, hm, h0, h5, h6, hL] <;> first | rfl | (congr 1; omega) | omega)) ?_)
    exact ⟨by rw [hb]; rfl, by (simp only [evs, Nat.reduceEqDiff, reduceIte, hm] <;> first | rfl | (congr 1; omega) | omega)⟩
   ·have hpd : decide (p ≠ 0) = true := decide_eq_true (by omega)
    cases hD : digitN c.toNat with
    | true =>
     (repeat (first | (apply G.h; constructor <;> (first | exact Zc | apply gI | ((repeat' (first | exact Y0 | apply Y1 | ((first | apply Y4 | apply Y5); simp only [evs, Nat.reduceEqDiff, reduceIte, hn, hd, hm, h0, h5, h6] <;> rfl))); done) | (apply Y6; (try simp only [evs, hn, hd, hm, h0, h5, h6]); first | rfl)))))
     ((first | apply g_run | apply g_run0) <;> (first | ((repeat' (first | exact Y0 | apply Y1 | exact Y2 | apply Y3 | ((first | apply Y4 | apply Y5); simp only [evs, Nat.reduceEqDiff, reduceIte, hn, hd, hm, h0, h5, h6] <;> rfl))); done) | exact Rn.mk (letter77 _ _) | apply Cn.mk))
     rintro v m' ⟨rfl, rfl⟩
     (repeat (first | (apply G.h; constructor <;> (first | exact Zc | apply gI | ((repeat' (first | exact Y0 | apply Y1 | ((first | apply Y4 | apply Y5); simp only [evs, Nat.reduceEqDiff, reduceIte, hn, hd, hm, h0, h5, h6, hL] <;> rfl))); done) | (apply Y6; (try simp only [evs, hn, hd, hm, h0, h5, h6, hL]); first | rfl)))))
     ((first | apply g_run | apply g_run0) <;> (first | ((repeat' (first | exact Y0 | apply Y1 | exact Y2 | apply Y3 | ((first | apply Y4 | apply Y5); simp only [evs, Nat.reduceEqDiff, reduceIte, hn, hd, hm, h0, h5, h6, hL] <;> rfl))); done) | exact Rn.mk (digit78 _ _) | apply Cn.mk))
     rintro v m' ⟨rfl, rfl⟩
     (repeat (first | (apply G.h; constructor <;> (first | exact Zc | apply gI | ((repeat' (first | exact Y0 | apply Y1 | ((first | apply Y4 | apply Y5); simp only [evs, Nat.reduceEqDiff, reduceIte, hn, hd, hm, h0, h5, h6, hL, hD] <;> rfl))); done) | (apply Y6; (try simp only [evs, hn, hd, hm, h0, h5, h6, hL, hD]); first | rfl)))))
     refine ih (p + 1) _ ?_ (by omega)
     exact ⟨by (simp only [evs, Nat.reduceEqDiff, reduceIte, hn] <;> first | rfl | (congr 1; omega) | omega), by (simp only [evs, Nat.reduceEqDiff, reduceIte, hd] <;> first | rfl | (congr 1; omega) | omega), by (simp only [evs, Nat.reduceEqDiff, reduceIte, hm] <;> first | rfl | (congr 1; omega) | omega), by (simp only [evs, Nat.reduceEqDiff, reduceIte, h0] <;> first | rfl | (congr 1; omega) | omega), by (simp only [evs, Nat.reduceEqDiff, reduceIte, h5] <;> first | rfl | (congr 1; omega) | omega), by (simp only [evs, Nat.reduceEqDiff, reduceIte, h6] <;> first | rfl | (congr 1; omega) | omega), hlt, next (by rw [hga, hL, hD, hpd]; rfl)⟩
    | false =>
     have hb : nameB s = false := bad (by rw [hga, hL, hD, hpd]; rfl)
     (repeat (first | (apply G.h; constructor <;> (first | exact Zc | apply gI | ((repeat' (first | exact Y0 | apply Y1 | ((first | apply Y4 | apply Y5); simp only [evs, Nat.reduceEqDiff, reduceIte, hn, hd, hm, h0, h5, h6] <;> rfl))); done) | (apply Y6; (try simp only [evs, hn, hd, hm, h0, h5, h6]); first | rfl)))))
     ((first | apply g_run | apply g_run0) <;> (first | ((repeat' (first | exact Y0 | apply Y1 | exact Y2 | apply Y3 | ((first | apply Y4 | apply Y5); simp only [evs, Nat.reduceEqDiff, reduceIte, hn, hd, hm, h0, h5, h6] <;> rfl))); done) | exact Rn.mk (letter77 _ _) | apply Cn.mk))
     rintro v m' ⟨rfl, rfl⟩
     (repeat (first | (apply G.h; constructor <;> (first | exact Zc | apply gI | ((repeat' (first | exact Y0 | apply Y1 | ((first | apply Y4 | apply Y5); simp only [evs, Nat.reduceEqDiff, reduceIte, hn, hd, hm, h0, h5, h6, hL] <;> rfl))); done) | (apply Y6; (try simp only [evs, hn, hd, hm, h0, h5, h6, hL]); first | rfl)))))
     ((first | apply g_run | apply g_run0) <;> (first | ((repeat' (first | exact Y0 | apply Y1 | exact Y2 | apply Y3 | ((first | apply Y4 | apply Y5); simp only [evs, Nat.reduceEqDiff, reduceIte, hn, hd, hm, h0, h5, h6, hL] <;> rfl))); done) | exact Rn.mk (digit78 _ _) | apply Cn.mk))
     rintro v m' ⟨rfl, rfl⟩
     (repeat (first | (apply G.h; constructor <;> (first | exact Zc | apply gI | ((repeat' (first | exact Y0 | apply Y1 | ((first | apply Y4 | apply Y5); simp only [evs, Nat.reduceEqDiff, reduceIte, hn, hd, hm, h0, h5, h6, hL, hD] <;> rfl))); done) | (apply Y6; (try simp only [evs, hn, hd, hm, h0, h5, h6, hL, hD]); first | rfl)))))
     (refine g_fin (by repeat' first | exact Rs.nil | apply Rs.cons | (apply Y4; simp only [evs, Nat.reduceEqDiff, reduceIte, hn, hd, hm, h0, h5, h6, hL, hD] <;> rfl)) (by (simp only [evs, Nat.reduceEqDiff, reduceIte, hn, hd, hm, h0, h5, h6, hL, hD] <;> first | rfl | (congr 1; omega) | omega)) ?_)
     exact ⟨by rw [hb]; rfl, by (simp only [evs, Nat.reduceEqDiff, reduceIte, hm] <;> first | rfl | (congr 1; omega) | omega)⟩
 ·have hall : (List.range s.length).all (goodAt s) = true := by
   rw [List.all_eq_true]
   intro j hj
   exact hg j (by have := List.mem_range.1 hj; omega)
  have hnb : nameB s = (!s.isEmpty && !wordB s) := by unfold nameB; rw [hall, Bool.and_true]
  by_cases he : s = []
  ·subst he
   (repeat (first | (apply G.h; constructor <;> (first | exact Zc | apply gI | ((repeat' (first | exact Y0 | apply Y1 | ((first | apply Y4 | apply Y5); simp only [evs, Nat.reduceEqDiff, reduceIte, hn, hd, hm, h0, h5, h6] <;> rfl))); done) | (apply Y6; (try simp only [evs, hn, hd, hm, h0, h5, h6]); first | rfl)))))
   (refine g_fin (by repeat' first | exact Rs.nil | apply Rs.cons | (apply Y4; simp only [evs, Nat.reduceEqDiff, reduceIte, hn, hd, hm, h0, h5, h6] <;> rfl)) (by (simp only [evs, Nat.reduceEqDiff, reduceIte, hn, hd, hm, h0, h5, h6] <;> first | rfl | (congr 1; omega) | omega)) ?_)
   exact ⟨rfl, by (simp only [evs, Nat.reduceEqDiff, reduceIte, hm] <;> first | rfl | (congr 1; omega) | omega)⟩
  ·have hemp : s.isEmpty = false := by cases s <;> first | rfl | exact absurd rfl he
   (repeat (first | (apply G.h; constructor <;> (first | exact Zc | apply gI | ((repeat' (first | exact Y0 | apply Y1 | ((first | apply Y4 | apply Y5); simp only [evs, Nat.reduceEqDiff, reduceIte, hn, hd, hm, h0, h5, h6] <;> rfl))); done) | (apply Y6; (try simp only [evs, hn, hd, hm, h0, h5, h6]); first | rfl)))))
   ((first | apply g_run | apply g_run0) <;> (first | ((repeat' (first | exact Y0 | apply Y1 | exact Y2 | apply Y3 | ((first | apply Y4 | apply Y5); simp only [evs, Nat.reduceEqDiff, reduceIte, hn, hd, hm, h0, h5, h6] <;> rfl))); done) | exact Rn.mk (word79 _ _) | apply Cn.mk))
   rintro v m' ⟨rfl, rfl⟩
   cases hw : wordB s
   all_goals
    (repeat (first | (apply G.h; constructor <;> (first | exact Zc | apply gI | ((repeat' (first | exact Y0 | apply Y1 | ((first | apply Y4 | apply Y5); simp only [evs, Nat.reduceEqDiff, reduceIte, hn, hd, hm, h0, h5, h6, hw] <;> rfl))); done) | (apply Y6; (try simp only [evs, hn, hd, hm, h0, h5, h6, hw]); first | rfl)))))
    (refine g_fin (by repeat' first | exact Rs.nil | apply Rs.cons | (apply Y4; simp only [evs, Nat.reduceEqDiff, reduceIte, hn, hd, hm, h0, h5, h6, hw] <;> rfl)) (by (simp only [evs, Nat.reduceEqDiff, reduceIte, hn, hd, hm, h0, h5, h6, hw] <;> first | rfl | (congr 1; omega) | omega)) ?_)
    exact ⟨by rw [hnb, hemp, hw]; rfl, by (simp only [evs, Nat.reduceEqDiff, reduceIte, hm] <;> first | rfl | (congr 1; omega) | omega)⟩
end Go.Proofs.YthhcnfgeacnfiaaGreatDoor

namespace Go.Proofs.YthhcnfgeacnfiaaGreatDoor
open Go Go.Ev
set_option maxRecDepth 100000
set_option linter.unusedVariables false
set_option linter.unusedSimpArgs false
set_option pp.maxSteps 1500
attribute [local irreducible] quiet allocs effect wp ret wpO Runs Act.tmp Act.eval fin results Tree.set binOp loadAt storeAt target wanted cellsFrom

def mayB (kind : Int) (p : Nat) : Bool :=
 if p = 0 then decide (kind = 1) else if p = 1 then decide (2 ≤ kind ∧ kind ≤ 13) else if p = 2 then decide (14 ≤ kind ∧ kind ≤ 32 ∧ kind ≠ 22) else if p = 3 then decide (kind = 2) else
 if p = 4 then decide (kind = 2 ∨ kind = 5) else if p = 5 then decide (kind = 19 ∨ kind = 29 ∨ kind = 30) else if p = 6 then decide (kind = 19) else decide (kind = 22)

set_option maxHeartbeats 2000000 in
theorem may29 (kind : Int) (p : Nat) (m : Mem) (hp : p ≤ 7) : Runs evEnv 29 [.int .i64 kind, .int .i64 p] m fun v m' => v = .bool (mayB kind p) ∧ m' = m := by
 refine runs_start rfl rfl rfl rfl ?_
 (repeat' (first | (apply G.h; constructor <;> (first | exact Zc | apply gI | ((repeat' (first | exact Y0 | apply Y1 | ((first | apply Y4 | apply Y5); simp only [evs, Nat.reduceEqDiff, reduceIte] <;> rfl))); done) | (apply Y6; (try simp only [evs]); first | rfl))) | (apply g_split <;> (first | (apply Ev.mk; (simp only [evs, Nat.reduceEqDiff, reduceIte] <;> rfl)) | (apply Dn.mk; (simp only [evs, Nat.reduceEqDiff, reduceIte] <;> rfl)) | (apply g_wpO) | intro h | constructor | fail))))
 all_goals
  (refine g_fin (by repeat' first | exact Rs.nil | apply Rs.cons | (apply Y4; simp only [evs, Nat.reduceEqDiff, reduceIte] <;> rfl)) (by (simp only [evs, Nat.reduceEqDiff, reduceIte] <;> first | rfl | (congr 1; omega) | omega)) ?_)
  refine ⟨congrArg Value.bool ?_, by (simp only [evs, Nat.reduceEqDiff, reduceIte] <;> first | rfl | (congr 1; omega) | omega)⟩
  unfold mayB
  (repeat' split) <;> first | (exfalso; omega) | exact (decide_eq_true (by omega)).symm | exact (decide_eq_false (by omega)).symm

set_option maxHeartbeats 2000000 in
theorem may62 (kind : Int) (p : Nat) (m : Mem) (hp : p ≤ 7) : Runs evEnv 62 [.int .i64 kind, .int .i64 p] m fun v m' => v = .bool (mayB kind p) ∧ m' = m := by
 refine runs_start rfl rfl rfl rfl ?_
 (repeat' (first | (apply G.h; constructor <;> (first | exact Zc | apply gI | ((repeat' (first | exact Y0 | apply Y1 | ((first | apply Y4 | apply Y5); simp only [evs, Nat.reduceEqDiff, reduceIte] <;> rfl))); done) | (apply Y6; (try simp only [evs]); first | rfl))) | (apply g_split <;> (first | (apply Ev.mk; (simp only [evs, Nat.reduceEqDiff, reduceIte] <;> rfl)) | (apply Dn.mk; (simp only [evs, Nat.reduceEqDiff, reduceIte] <;> rfl)) | (apply g_wpO) | intro h | constructor | fail))))
 all_goals
  (refine g_fin (by repeat' first | exact Rs.nil | apply Rs.cons | (apply Y4; simp only [evs, Nat.reduceEqDiff, reduceIte] <;> rfl)) (by (simp only [evs, Nat.reduceEqDiff, reduceIte] <;> first | rfl | (congr 1; omega) | omega)) ?_)
  refine ⟨congrArg Value.bool ?_, by (simp only [evs, Nat.reduceEqDiff, reduceIte] <;> first | rfl | (congr 1; omega) | omega)⟩
  unfold mayB
  (repeat' split) <;> first | (exfalso; omega) | exact (decide_eq_true (by omega)).symm | exact (decide_eq_false (by omega)).symm

def placeN (kind n i : Int) : Nat := if kind = 1 ∨ kind = 2 then 1 else if kind = 12 ∨ kind = 31 then (if i < n - 1 then 6 else 3) else if kind = 21 then 7 else 2

set_option maxHeartbeats 2000000 in
theorem place28 (x : Nd) (i : Nat) (m : Mem) (h0 : 0 ≤ x.n) (h1 : x.n ≤ 9223372036854775807) : Runs evEnv 28 [.agg ⟨x.val⟩, .int .i64 i] m fun v m' => v = .int .i64 (placeN x.kind x.n i) ∧ Grow m m' := by
 refine runs_start rfl rfl rfl rfl ?_
 (repeat' (first | (apply G.h; constructor <;> (first | exact Zc | apply gI | ((repeat' (first | exact Y0 | apply Y1 | ((first | apply Y4 | apply Y5); simp only [evs, Nat.reduceEqDiff, reduceIte] <;> rfl))); done) | (apply Y6; (try simp only [evs]); first | exact Row.load1 (row_new _ _ _ _) rfl rfl rfl))) | (apply g_split <;> (first | (apply Ev.mk; (simp only [evs, Nat.reduceEqDiff, reduceIte] <;> rfl)) | (apply Dn.mk; (simp only [evs, Nat.reduceEqDiff, reduceIte] <;> rfl)) | (apply g_wpO) | intro h | constructor | fail))))
 all_goals
  (refine g_fin (by repeat' first | exact Rs.nil | apply Rs.cons | (apply Y4; simp only [evs, Nat.reduceEqDiff, reduceIte] <;> rfl)) (by (simp only [evs, Nat.reduceEqDiff, reduceIte] <;> first | rfl | (congr 1; omega) | omega)) ?_)
  refine ⟨congrArg (Value.int .i64) ?_, ?_⟩
  ·unfold placeN
   (repeat' split) <;> first | rfl | (exfalso; omega)
  ·simp only [m_upd, m_mem, m_start]
   exact (Grow.refl _).new _

end Go.Proofs.YthhcnfgeacnfiaaGreatDoor

namespace Go.Proofs.YthhcnfgeacnfiaaGreatDoor
open Go Go.Ev
set_option maxRecDepth 100000
set_option linter.unusedVariables false
set_option linter.unusedSimpArgs false
set_option pp.maxSteps 1500
attribute [local irreducible] quiet allocs effect wp ret wpO Runs Act.tmp Act.eval fin results Tree.set binOp loadAt storeAt target wanted cellsFrom

def signs : List (List UInt8) := [[61, 61], [33, 61], [60], [60, 61], [62], [62, 61], [43], [45], [42], [47], [37]]
def rightB (x : Nd) : Bool :=
 if x.kind = 3 ∨ x.kind = 11 ∨ x.kind = 19 ∨ x.kind = 22 ∨ x.kind = 30 then nameB x.text else
 if x.kind = 12 then nameB x.text && decide (0 ≤ x.num ∧ x.num ≤ 16 ∧ x.n = x.num + 1) else
 if x.kind = 31 then decide (0 ≤ x.num ∧ x.num ≤ 16 ∧ x.n = x.num + 1) else
 if x.kind = 14 then decide (0 ≤ x.num ∧ x.num ≤ 2305843009213693951) else
 if x.kind = 28 ∨ x.kind = 32 then decide (1 ≤ x.n ∧ x.n ≤ 17) else
 if x.kind = 23 then decide (x.text ∈ signs) else true

set_option maxHeartbeats 2000000 in
theorem right31 (x : Nd) (m : Mem) (hx : x.ok) (hs : x.text.length ≤ 9223372036854775807) : Runs evEnv 31 [.agg ⟨x.val⟩] m fun v m' => v = .bool (rightB x) ∧ Grow m m' := by
 obtain ⟨⟨k1, k2⟩, ⟨n1, n2⟩, ⟨u1, u2⟩, ⟨p1, p2⟩⟩ := hx
 refine runs_start rfl rfl rfl rfl ?_
 cases hN : nameB x.text
 all_goals
  (repeat' (first | (apply G.h; constructor <;> (first | exact Zc | apply gI | ((repeat' (first | exact Y0 | apply Y1 | ((first | apply Y4 | apply Y5); simp only [evs, Nat.reduceEqDiff, reduceIte, hN] <;> rfl))); done) | (apply Y6; (try simp only [evs, hN]); first | exact Row.load1 (row_new _ _ _ _) rfl rfl rfl))) | (apply g_split <;> (first | (apply Ev.mk; (simp only [evs, Nat.reduceEqDiff, reduceIte, hN] <;> rfl)) | (apply Dn.mk; (simp only [evs, Nat.reduceEqDiff, reduceIte, hN] <;> rfl)) | (apply g_wpO) | intro h | constructor | fail)) | (((first | apply g_run | apply g_run0) <;> (first | ((repeat' (first | exact Y0 | apply Y1 | exact Y2 | apply Y3 | ((first | apply Y4 | apply Y5); simp only [evs, Nat.reduceEqDiff, reduceIte, hN] <;> rfl))); done) | exact Rn.mk (name61 _ _ hs) | apply Cn.mk)); rintro v m' ⟨rfl, rfl⟩)))
  all_goals
   (refine g_fin (by repeat' first | exact Rs.nil | apply Rs.cons | (apply Y4; simp only [evs, Nat.reduceEqDiff, reduceIte, hN] <;> rfl)) (by (simp only [evs, Nat.reduceEqDiff, reduceIte, hN] <;> first | rfl | (congr 1; omega) | omega)) ?_)
   refine ⟨congrArg Value.bool ?_, by simp only [m_upd, m_mem, m_start]; exact (Grow.refl _).new _⟩
   unfold rightB
   simp only [hN]
   (repeat' split) <;> first | rfl | (exfalso; omega) | exact (decide_eq_true (by omega)).symm | exact (decide_eq_false (by omega)).symm | (simp only [Bool.true_and, Bool.false_and]; first | rfl | exact (decide_eq_true (by omega)).symm | exact (decide_eq_false (by omega)).symm) | exact (decide_eq_true (by simp_all [signs])).symm | exact (decide_eq_false (by simp_all [signs])).symm
end Go.Proofs.YthhcnfgeacnfiaaGreatDoor

namespace Go.Proofs.YthhcnfgeacnfiaaGreatDoor
open Go Go.Ev
set_option maxRecDepth 100000
set_option linter.unusedVariables false
set_option linter.unusedSimpArgs false
set_option pp.maxSteps 1500
attribute [local irreducible] quiet allocs effect wp ret wpO Runs Act.tmp Act.eval fin results Tree.set binOp loadAt storeAt target wanted cellsFrom
def fieldsB (x : Nd) : Bool :=
 if x.kind = 3 ∨ x.kind = 11 ∨ x.kind = 12 ∨ x.kind = 19 ∨ x.kind = 22 ∨ x.kind = 30 then nameB x.text else
 if x.kind = 14 then decide (0 ≤ x.num ∧ x.num ≤ 2305843009213693951) else
 if x.kind = 23 then decide (x.text ∈ signs) else true

end Go.Proofs.YthhcnfgeacnfiaaGreatDoor

namespace Go.Proofs.YthhcnfgeacnfiaaGreatDoor
open Go Go.Ev
set_option maxRecDepth 100000
set_option linter.unusedVariables false
set_option linter.unusedSimpArgs false
set_option pp.maxSteps 1500
attribute [local irreducible] quiet allocs effect wp ret wpO Runs Act.tmp Act.eval fin results Tree.set binOp loadAt storeAt target wanted cellsFrom

/-- what a node of few is made of; none: of many. -/
def fixedL (x : Nd) : Option (List Nat) :=
 if x.kind = 4 then some [5, 2] else
 if x.kind = 3 ∨ x.kind = 10 ∨ x.kind = 13 ∨ x.kind = 22 ∨ x.kind = 26 ∨ x.kind = 27 ∨ x.kind = 30 then some [2] else
 if x.kind = 5 then (if x.n ≤ 2 then some [2, 3] else some [2, 3, 4]) else
 if x.kind = 6 then some [2, 3] else
 if x.kind = 9 then (if x.n ≤ 0 then some [] else some [2]) else
 if x.kind = 11 then some [3, 3] else
 if x.kind = 23 ∨ x.kind = 24 ∨ x.kind = 25 ∨ x.kind = 29 then some [2, 2] else
 if x.kind = 7 ∨ x.kind = 8 ∨ x.kind = 14 ∨ x.kind = 15 ∨ x.kind = 16 ∨ x.kind = 17 ∨ x.kind = 18 ∨ x.kind = 19 then some [] else none
def okN (x : Nd) : Bool := match fixedL x with
 | some ks => decide (x.n = ks.length)
 | none => decide (0 ≤ x.n)
/-- a slice of places. -/
def LV (m : Mem) (lv : Value) : Option (List Nat) → Prop
 | none => lv = .slice none 0 0
 | some ks => (lv = .slice none 0 0 ∧ ks = []) ∨ ∃ kb cap r, lv = .slice (some ⟨kb, 0, none⟩) ks.length cap ∧ Row m kb r 3 0 ∧ ∀ (i : Nat) (h : i < ks.length), r[i]? = some (.int .i64 ks[i])

theorem LV.of (m : Mem) (kb cap : Nat) (ks : List Nat) (r : List Value) (hr : Row m kb r 3 0) (h : ∀ (i : Nat) (h : i < ks.length), r[i]? = some (.int .i64 ks[i])) {x : Nd} (hx : fixedL x = some ks) : LV m (.slice (some ⟨kb, 0, none⟩) ks.length cap) (fixedL x) := by
 rw [hx]
 exact .inr ⟨kb, cap, r, rfl, hr, h⟩

theorem tup_eq {V : Value} {b c : Bool} (h : b = c) : one [V, .bool b] = .tuple ⟨[V, .bool c]⟩ := by subst h; rfl

theorem kinds {k : Int} (h1 : 1 ≤ k) (h2 : k ≤ 32) {P : Int → Prop} (a1 : P 1) (a2 : P 2) (a3 : P 3) (a4 : P 4) (a5 : P 5) (a6 : P 6) (a7 : P 7) (a8 : P 8) (a9 : P 9) (a10 : P 10) (a11 : P 11) (a12 : P 12) (a13 : P 13) (a14 : P 14) (a15 : P 15) (a16 : P 16) (a17 : P 17) (a18 : P 18) (a19 : P 19) (a20 : P 20) (a21 : P 21) (a22 : P 22) (a23 : P 23) (a24 : P 24) (a25 : P 25) (a26 : P 26) (a27 : P 27) (a28 : P 28) (a29 : P 29) (a30 : P 30) (a31 : P 31) (a32 : P 32) : P k := by
 have : k = 1 ∨ k = 2 ∨ k = 3 ∨ k = 4 ∨ k = 5 ∨ k = 6 ∨ k = 7 ∨ k = 8 ∨ k = 9 ∨ k = 10 ∨ k = 11 ∨ k = 12 ∨ k = 13 ∨ k = 14 ∨ k = 15 ∨ k = 16 ∨ k = 17 ∨ k = 18 ∨ k = 19 ∨ k = 20 ∨ k = 21 ∨ k = 22 ∨ k = 23 ∨ k = 24 ∨ k = 25 ∨ k = 26 ∨ k = 27 ∨ k = 28 ∨ k = 29 ∨ k = 30 ∨ k = 31 ∨ k = 32 := by omega
 rcases this with rfl | rfl | rfl | rfl | rfl | rfl | rfl | rfl | rfl | rfl | rfl | rfl | rfl | rfl | rfl | rfl | rfl | rfl | rfl | rfl | rfl | rfl | rfl | rfl | rfl | rfl | rfl | rfl | rfl | rfl | rfl | rfl <;> assumption

set_option maxHeartbeats 40000000 in
theorem places30_of1 (kd : Int) (hk : kd = 1 ∨ kd = 2 ∨ kd = 12 ∨ kd = 20 ∨ kd = 21 ∨ kd = 28 ∨ kd = 31 ∨ kd = 32) (n : Int) (text : List UInt8) (num pos : Int) (n1 : -9223372036854775808 ≤ n) (n2 : n ≤ 9223372036854775807) (m : Mem) : Runs evEnv 30 [.agg ⟨Nd.val ⟨kd, n, text, num, pos⟩⟩] m fun v m' => ∃ lv, v = .tuple ⟨[lv, .bool (okN ⟨kd, n, text, num, pos⟩)]⟩ ∧ Grow m m' ∧ LV m' lv (fixedL ⟨kd, n, text, num, pos⟩) := by
 have hf : fixedL ⟨kd, n, text, num, pos⟩ = none := by rcases hk with rfl | rfl | rfl | rfl | rfl | rfl | rfl | rfl <;> rfl
 rcases hk with rfl | rfl | rfl | rfl | rfl | rfl | rfl | rfl
 all_goals
  refine runs_start rfl rfl rfl rfl ?_
  ·(repeat' (first | (apply G.h; constructor <;> (first | exact Zc | apply gI | ((repeat' (first | exact Y0 | apply Y1 | ((first | apply Y4 | apply Y5); simp only [evs, Nat.reduceEqDiff, reduceIte] <;> rfl))); done) | (apply Y6; (try simp only [evs]); first | exact Row.load1 (row_new _ _ _ _) rfl rfl rfl | exact Row.load1 ((row_new _ _ _ _).keep_new _) rfl rfl rfl))) | (apply g_split <;> (first | (apply Ev.mk; (simp only [evs, Nat.reduceEqDiff, reduceIte] <;> rfl)) | (apply Dn.mk; (simp only [evs, Nat.reduceEqDiff, reduceIte] <;> rfl)) | (apply g_wpO) | intro h | constructor | fail))))
   all_goals
    (refine g_fin (by repeat' first | exact Rs.nil | apply Rs.cons | (apply Y4; simp only [evs, Nat.reduceEqDiff, reduceIte] <;> rfl)) (by (simp only [evs, Nat.reduceEqDiff, reduceIte] <;> first | rfl | (congr 1; omega) | omega)) ?_)
    simp only [m_upd, m_mem, m_start]
    refine ⟨_, tup_eq ?_, (Grow.refl _).new _, by rw [hf]; rfl⟩
    focus (simp only [okN, hf]; first | exact (decide_eq_true (by omega)).symm | exact (decide_eq_false (by omega)).symm)

set_option maxHeartbeats 40000000 in
theorem places30_of3 (kd : Int) (hk : kd = 3 ∨ kd = 10 ∨ kd = 13 ∨ kd = 22 ∨ kd = 26 ∨ kd = 27 ∨ kd = 30) (n : Int) (text : List UInt8) (num pos : Int) (n1 : -9223372036854775808 ≤ n) (n2 : n ≤ 9223372036854775807) (m : Mem) : Runs evEnv 30 [.agg ⟨Nd.val ⟨kd, n, text, num, pos⟩⟩] m fun v m' => ∃ lv, v = .tuple ⟨[lv, .bool (okN ⟨kd, n, text, num, pos⟩)]⟩ ∧ Grow m m' ∧ LV m' lv (fixedL ⟨kd, n, text, num, pos⟩) := by
 have hf : fixedL ⟨kd, n, text, num, pos⟩ = some [2] := by rcases hk with rfl | rfl | rfl | rfl | rfl | rfl | rfl <;> rfl
 rcases hk with rfl | rfl | rfl | rfl | rfl | rfl | rfl
 all_goals
  refine runs_start rfl rfl rfl rfl ?_
  ·(repeat' (first | (apply G.h; constructor <;> (first | exact Zc | apply gI | ((repeat' (first | exact Y0 | apply Y1 | ((first | apply Y4 | apply Y5); simp only [evs, Nat.reduceEqDiff, reduceIte] <;> rfl))); done) | (apply Y6; (try simp only [evs]); first | exact Row.load1 (row_new _ _ _ _) rfl rfl rfl | exact Row.load1 ((row_new _ _ _ _).keep_new _) rfl rfl rfl))) | (apply g_split <;> (first | (apply Ev.mk; (simp only [evs, Nat.reduceEqDiff, reduceIte] <;> rfl)) | (apply Dn.mk; (simp only [evs, Nat.reduceEqDiff, reduceIte] <;> rfl)) | (apply g_wpO) | intro h | constructor | fail))))
   all_goals
    (refine g_fin (by repeat' first | exact Rs.nil | apply Rs.cons | (apply Y4; simp only [evs, Nat.reduceEqDiff, reduceIte] <;> rfl)) (by (simp only [evs, Nat.reduceEqDiff, reduceIte] <;> first | rfl | (congr 1; omega) | omega)) ?_)
    simp only [m_upd, m_mem, m_start]
    refine ⟨_, tup_eq ?_, ((Grow.refl _).new _).new _, LV.of _ _ _ [2] _ (row_new _ _ _ _) (fun i h => by (rcases i with _ | _ | _ | i) <;> first | rfl | (simp only [List.length_cons, List.length_nil] at h; omega)) hf⟩
    focus (simp only [okN, hf]; first | exact (decide_eq_true (by simp only [List.length_cons, List.length_nil]; omega)).symm | exact (decide_eq_false (by simp only [List.length_cons, List.length_nil]; omega)).symm)

set_option maxHeartbeats 4000000 in
theorem places30_4 (n : Int) (text : List UInt8) (num pos : Int) (n1 : -9223372036854775808 ≤ n) (n2 : n ≤ 9223372036854775807) (m : Mem) : Runs evEnv 30 [.agg ⟨Nd.val ⟨4, n, text, num, pos⟩⟩] m fun v m' => ∃ lv, v = .tuple ⟨[lv, .bool (okN ⟨4, n, text, num, pos⟩)]⟩ ∧ Grow m m' ∧ LV m' lv (fixedL ⟨4, n, text, num, pos⟩) := by
 refine runs_start rfl rfl rfl rfl ?_
 ·have hf : fixedL ⟨4, n, text, num, pos⟩ = some [5, 2] := rfl
  (repeat' (first | (apply G.h; constructor <;> (first | exact Zc | apply gI | ((repeat' (first | exact Y0 | apply Y1 | ((first | apply Y4 | apply Y5); simp only [evs, Nat.reduceEqDiff, reduceIte] <;> rfl))); done) | (apply Y6; (try simp only [evs]); first | exact Row.load1 (row_new _ _ _ _) rfl rfl rfl | exact Row.load1 ((row_new _ _ _ _).keep_new _) rfl rfl rfl))) | (apply g_split <;> (first | (apply Ev.mk; (simp only [evs, Nat.reduceEqDiff, reduceIte] <;> rfl)) | (apply Dn.mk; (simp only [evs, Nat.reduceEqDiff, reduceIte] <;> rfl)) | (apply g_wpO) | intro h | constructor | fail))))
  all_goals
   (refine g_fin (by repeat' first | exact Rs.nil | apply Rs.cons | (apply Y4; simp only [evs, Nat.reduceEqDiff, reduceIte] <;> rfl)) (by (simp only [evs, Nat.reduceEqDiff, reduceIte] <;> first | rfl | (congr 1; omega) | omega)) ?_)
   simp only [m_upd, m_mem, m_start]
   refine ⟨_, tup_eq ?_, ((Grow.refl _).new _).new _, LV.of _ _ _ [5, 2] _ (row_new _ _ _ _) (fun i h => by (rcases i with _ | _ | _ | i) <;> first | rfl | (simp only [List.length_cons, List.length_nil] at h; omega)) hf⟩
   focus (simp only [okN, hf]; first | exact (decide_eq_true (by simp only [List.length_cons, List.length_nil]; omega)).symm | exact (decide_eq_false (by simp only [List.length_cons, List.length_nil]; omega)).symm)

set_option maxHeartbeats 4000000 in
theorem places30_5 (n : Int) (text : List UInt8) (num pos : Int) (n1 : -9223372036854775808 ≤ n) (n2 : n ≤ 9223372036854775807) (m : Mem) : Runs evEnv 30 [.agg ⟨Nd.val ⟨5, n, text, num, pos⟩⟩] m fun v m' => ∃ lv, v = .tuple ⟨[lv, .bool (okN ⟨5, n, text, num, pos⟩)]⟩ ∧ Grow m m' ∧ LV m' lv (fixedL ⟨5, n, text, num, pos⟩) := by
 refine runs_start rfl rfl rfl rfl ?_
 rcases Int.lt_or_le 2 n with c1 | c1
 ·have f1 : min (max n 2) 3 = Int.ofNat 3 := by show min (max n 2) 3 = 3; omega
  have hf : fixedL ⟨5, n, text, num, pos⟩ = some [2, 3, 4] := by simp [fixedL, show ¬ (n ≤ 2) by omega]
  (repeat' (first | (apply G.h; constructor <;> (first | exact Zc | apply gI | ((repeat' (first | exact Y0 | apply Y1 | ((first | apply Y4 | apply Y5); simp only [evs, Nat.reduceEqDiff, reduceIte, f1] <;> rfl))); done) | (apply Y6; (try simp only [evs, f1]); first | exact Row.load1 (row_new _ _ _ _) rfl rfl rfl | exact Row.load1 ((row_new _ _ _ _).keep_new _) rfl rfl rfl))) | (apply g_split <;> (first | (apply Ev.mk; (simp only [evs, Nat.reduceEqDiff, reduceIte, f1] <;> rfl)) | (apply Dn.mk; (simp only [evs, Nat.reduceEqDiff, reduceIte, f1] <;> rfl)) | (apply g_wpO) | intro h | constructor | fail))))
  all_goals
   (refine g_fin (by repeat' first | exact Rs.nil | apply Rs.cons | (apply Y4; simp only [evs, Nat.reduceEqDiff, reduceIte, f1] <;> rfl)) (by (simp only [evs, Nat.reduceEqDiff, reduceIte, f1] <;> first | rfl | (congr 1; omega) | omega)) ?_)
   simp only [m_upd, m_mem, m_start]
   refine ⟨_, tup_eq ?_, ((Grow.refl _).new _).new _, LV.of _ _ _ [2, 3, 4] _ (row_new _ _ _ _) (fun i h => by (rcases i with _ | _ | _ | i) <;> first | rfl | (simp only [List.length_cons, List.length_nil] at h; omega)) hf⟩
   focus (simp only [okN, hf]; first | exact (decide_eq_true (by simp only [List.length_cons, List.length_nil]; omega)).symm | exact (decide_eq_false (by simp only [List.length_cons, List.length_nil]; omega)).symm)
 ·have f1 : min (max n 2) 3 = Int.ofNat 2 := by show min (max n 2) 3 = 2; omega
  have hf : fixedL ⟨5, n, text, num, pos⟩ = some [2, 3] := by simp [fixedL, show (n ≤ 2) by omega]
  (repeat' (first | (apply G.h; constructor <;> (first | exact Zc | apply gI | ((repeat' (first | exact Y0 | apply Y1 | ((first | apply Y4 | apply Y5); simp only [evs, Nat.reduceEqDiff, reduceIte, f1] <;> rfl))); done) | (apply Y6; (try simp only [evs, f1]); first | exact Row.load1 (row_new _ _ _ _) rfl rfl rfl | exact Row.load1 ((row_new _ _ _ _).keep_new _) rfl rfl rfl))) | (apply g_split <;> (first | (apply Ev.mk; (simp only [evs, Nat.reduceEqDiff, reduceIte, f1] <;> rfl)) | (apply Dn.mk; (simp only [evs, Nat.reduceEqDiff, reduceIte, f1] <;> rfl)) | (apply g_wpO) | intro h | constructor | fail))))
  all_goals
   (refine g_fin (by repeat' first | exact Rs.nil | apply Rs.cons | (apply Y4; simp only [evs, Nat.reduceEqDiff, reduceIte, f1] <;> rfl)) (by (simp only [evs, Nat.reduceEqDiff, reduceIte, f1] <;> first | rfl | (congr 1; omega) | omega)) ?_)
   simp only [m_upd, m_mem, m_start]
   refine ⟨_, tup_eq ?_, ((Grow.refl _).new _).new _, LV.of _ _ _ [2, 3] _ (row_new _ _ _ _) (fun i h => by (rcases i with _ | _ | _ | i) <;> first | rfl | (simp only [List.length_cons, List.length_nil] at h; omega)) hf⟩
   focus (simp only [okN, hf]; first | exact (decide_eq_true (by simp only [List.length_cons, List.length_nil]; omega)).symm | exact (decide_eq_false (by simp only [List.length_cons, List.length_nil]; omega)).symm)

set_option maxHeartbeats 4000000 in
theorem places30_6 (n : Int) (text : List UInt8) (num pos : Int) (n1 : -9223372036854775808 ≤ n) (n2 : n ≤ 9223372036854775807) (m : Mem) : Runs evEnv 30 [.agg ⟨Nd.val ⟨6, n, text, num, pos⟩⟩] m fun v m' => ∃ lv, v = .tuple ⟨[lv, .bool (okN ⟨6, n, text, num, pos⟩)]⟩ ∧ Grow m m' ∧ LV m' lv (fixedL ⟨6, n, text, num, pos⟩) := by
 refine runs_start rfl rfl rfl rfl ?_
 ·have hf : fixedL ⟨6, n, text, num, pos⟩ = some [2, 3] := rfl
  (repeat' (first | (apply G.h; constructor <;> (first | exact Zc | apply gI | ((repeat' (first | exact Y0 | apply Y1 | ((first | apply Y4 | apply Y5); simp only [evs, Nat.reduceEqDiff, reduceIte] <;> rfl))); done) | (apply Y6; (try simp only [evs]); first | exact Row.load1 (row_new _ _ _ _) rfl rfl rfl | exact Row.load1 ((row_new _ _ _ _).keep_new _) rfl rfl rfl))) | (apply g_split <;> (first | (apply Ev.mk; (simp only [evs, Nat.reduceEqDiff, reduceIte] <;> rfl)) | (apply Dn.mk; (simp only [evs, Nat.reduceEqDiff, reduceIte] <;> rfl)) | (apply g_wpO) | intro h | constructor | fail))))
  all_goals
   (refine g_fin (by repeat' first | exact Rs.nil | apply Rs.cons | (apply Y4; simp only [evs, Nat.reduceEqDiff, reduceIte] <;> rfl)) (by (simp only [evs, Nat.reduceEqDiff, reduceIte] <;> first | rfl | (congr 1; omega) | omega)) ?_)
   simp only [m_upd, m_mem, m_start]
   refine ⟨_, tup_eq ?_, ((Grow.refl _).new _).new _, LV.of _ _ _ [2, 3] _ (row_new _ _ _ _) (fun i h => by (rcases i with _ | _ | _ | i) <;> first | rfl | (simp only [List.length_cons, List.length_nil] at h; omega)) hf⟩
   focus (simp only [okN, hf]; first | exact (decide_eq_true (by simp only [List.length_cons, List.length_nil]; omega)).symm | exact (decide_eq_false (by simp only [List.length_cons, List.length_nil]; omega)).symm)

set_option maxHeartbeats 40000000 in
theorem places30_of7 (kd : Int) (hk : kd = 7 ∨ kd = 8 ∨ kd = 14 ∨ kd = 15 ∨ kd = 16 ∨ kd = 17 ∨ kd = 18 ∨ kd = 19) (n : Int) (text : List UInt8) (num pos : Int) (n1 : -9223372036854775808 ≤ n) (n2 : n ≤ 9223372036854775807) (m : Mem) : Runs evEnv 30 [.agg ⟨Nd.val ⟨kd, n, text, num, pos⟩⟩] m fun v m' => ∃ lv, v = .tuple ⟨[lv, .bool (okN ⟨kd, n, text, num, pos⟩)]⟩ ∧ Grow m m' ∧ LV m' lv (fixedL ⟨kd, n, text, num, pos⟩) := by
 have hf : fixedL ⟨kd, n, text, num, pos⟩ = some [] := by rcases hk with rfl | rfl | rfl | rfl | rfl | rfl | rfl | rfl <;> rfl
 rcases hk with rfl | rfl | rfl | rfl | rfl | rfl | rfl | rfl
 all_goals
  refine runs_start rfl rfl rfl rfl ?_
  ·(repeat' (first | (apply G.h; constructor <;> (first | exact Zc | apply gI | ((repeat' (first | exact Y0 | apply Y1 | ((first | apply Y4 | apply Y5); simp only [evs, Nat.reduceEqDiff, reduceIte] <;> rfl))); done) | (apply Y6; (try simp only [evs]); first | exact Row.load1 (row_new _ _ _ _) rfl rfl rfl | exact Row.load1 ((row_new _ _ _ _).keep_new _) rfl rfl rfl))) | (apply g_split <;> (first | (apply Ev.mk; (simp only [evs, Nat.reduceEqDiff, reduceIte] <;> rfl)) | (apply Dn.mk; (simp only [evs, Nat.reduceEqDiff, reduceIte] <;> rfl)) | (apply g_wpO) | intro h | constructor | fail))))
   all_goals
    (refine g_fin (by repeat' first | exact Rs.nil | apply Rs.cons | (apply Y4; simp only [evs, Nat.reduceEqDiff, reduceIte] <;> rfl)) (by (simp only [evs, Nat.reduceEqDiff, reduceIte] <;> first | rfl | (congr 1; omega) | omega)) ?_)
    simp only [m_upd, m_mem, m_start]
    refine ⟨_, tup_eq ?_, (Grow.refl _).new _, by rw [hf]; exact .inl ⟨rfl, rfl⟩⟩
    focus (simp only [okN, hf]; first | exact (decide_eq_true (by simp only [List.length_nil]; omega)).symm | exact (decide_eq_false (by simp only [List.length_nil]; omega)).symm)

set_option maxHeartbeats 4000000 in
theorem places30_9 (n : Int) (text : List UInt8) (num pos : Int) (n1 : -9223372036854775808 ≤ n) (n2 : n ≤ 9223372036854775807) (m : Mem) : Runs evEnv 30 [.agg ⟨Nd.val ⟨9, n, text, num, pos⟩⟩] m fun v m' => ∃ lv, v = .tuple ⟨[lv, .bool (okN ⟨9, n, text, num, pos⟩)]⟩ ∧ Grow m m' ∧ LV m' lv (fixedL ⟨9, n, text, num, pos⟩) := by
 refine runs_start rfl rfl rfl rfl ?_
 rcases Int.lt_or_le 0 n with c1 | c1
 ·have f1 : min (max n 0) 1 = Int.ofNat 1 := by show min (max n 0) 1 = 1; omega
  have hf : fixedL ⟨9, n, text, num, pos⟩ = some [2] := by simp [fixedL, show ¬ (n ≤ 0) by omega]
  (repeat' (first | (apply G.h; constructor <;> (first | exact Zc | apply gI | ((repeat' (first | exact Y0 | apply Y1 | ((first | apply Y4 | apply Y5); simp only [evs, Nat.reduceEqDiff, reduceIte, f1] <;> rfl))); done) | (apply Y6; (try simp only [evs, f1]); first | exact Row.load1 (row_new _ _ _ _) rfl rfl rfl | exact Row.load1 ((row_new _ _ _ _).keep_new _) rfl rfl rfl))) | (apply g_split <;> (first | (apply Ev.mk; (simp only [evs, Nat.reduceEqDiff, reduceIte, f1] <;> rfl)) | (apply Dn.mk; (simp only [evs, Nat.reduceEqDiff, reduceIte, f1] <;> rfl)) | (apply g_wpO) | intro h | constructor | fail))))
  all_goals
   (refine g_fin (by repeat' first | exact Rs.nil | apply Rs.cons | (apply Y4; simp only [evs, Nat.reduceEqDiff, reduceIte, f1] <;> rfl)) (by (simp only [evs, Nat.reduceEqDiff, reduceIte, f1] <;> first | rfl | (congr 1; omega) | omega)) ?_)
   simp only [m_upd, m_mem, m_start]
   refine ⟨_, tup_eq ?_, ((Grow.refl _).new _).new _, LV.of _ _ _ [2] _ (row_new _ _ _ _) (fun i h => by (rcases i with _ | _ | _ | i) <;> first | rfl | (simp only [List.length_cons, List.length_nil] at h; omega)) hf⟩
   focus (simp only [okN, hf]; first | exact (decide_eq_true (by simp only [List.length_cons, List.length_nil]; omega)).symm | exact (decide_eq_false (by simp only [List.length_cons, List.length_nil]; omega)).symm)
 ·have f1 : min (max n 0) 1 = Int.ofNat 0 := by show min (max n 0) 1 = 0; omega
  have hf : fixedL ⟨9, n, text, num, pos⟩ = some [] := by simp [fixedL, show (n ≤ 0) by omega]
  (repeat' (first | (apply G.h; constructor <;> (first | exact Zc | apply gI | ((repeat' (first | exact Y0 | apply Y1 | ((first | apply Y4 | apply Y5); simp only [evs, Nat.reduceEqDiff, reduceIte, f1] <;> rfl))); done) | (apply Y6; (try simp only [evs, f1]); first | exact Row.load1 (row_new _ _ _ _) rfl rfl rfl | exact Row.load1 ((row_new _ _ _ _).keep_new _) rfl rfl rfl))) | (apply g_split <;> (first | (apply Ev.mk; (simp only [evs, Nat.reduceEqDiff, reduceIte, f1] <;> rfl)) | (apply Dn.mk; (simp only [evs, Nat.reduceEqDiff, reduceIte, f1] <;> rfl)) | (apply g_wpO) | intro h | constructor | fail))))
  all_goals
   (refine g_fin (by repeat' first | exact Rs.nil | apply Rs.cons | (apply Y4; simp only [evs, Nat.reduceEqDiff, reduceIte, f1] <;> rfl)) (by (simp only [evs, Nat.reduceEqDiff, reduceIte, f1] <;> first | rfl | (congr 1; omega) | omega)) ?_)
   simp only [m_upd, m_mem, m_start]
   refine ⟨_, tup_eq ?_, ((Grow.refl _).new _).new _, LV.of _ _ _ [] _ (row_new _ _ _ _) (fun i h => by (rcases i with _ | _ | _ | i) <;> first | rfl | (simp only [List.length_cons, List.length_nil] at h; omega)) hf⟩
   focus (simp only [okN, hf]; first | exact (decide_eq_true (by simp only [List.length_cons, List.length_nil]; omega)).symm | exact (decide_eq_false (by simp only [List.length_cons, List.length_nil]; omega)).symm)

set_option maxHeartbeats 4000000 in
theorem places30_11 (n : Int) (text : List UInt8) (num pos : Int) (n1 : -9223372036854775808 ≤ n) (n2 : n ≤ 9223372036854775807) (m : Mem) : Runs evEnv 30 [.agg ⟨Nd.val ⟨11, n, text, num, pos⟩⟩] m fun v m' => ∃ lv, v = .tuple ⟨[lv, .bool (okN ⟨11, n, text, num, pos⟩)]⟩ ∧ Grow m m' ∧ LV m' lv (fixedL ⟨11, n, text, num, pos⟩) := by
 refine runs_start rfl rfl rfl rfl ?_
 ·have hf : fixedL ⟨11, n, text, num, pos⟩ = some [3, 3] := rfl
  (repeat' (first | (apply G.h; constructor <;> (first | exact Zc | apply gI | ((repeat' (first | exact Y0 | apply Y1 | ((first | apply Y4 | apply Y5); simp only [evs, Nat.reduceEqDiff, reduceIte] <;> rfl))); done) | (apply Y6; (try simp only [evs]); first | exact Row.load1 (row_new _ _ _ _) rfl rfl rfl | exact Row.load1 ((row_new _ _ _ _).keep_new _) rfl rfl rfl))) | (apply g_split <;> (first | (apply Ev.mk; (simp only [evs, Nat.reduceEqDiff, reduceIte] <;> rfl)) | (apply Dn.mk; (simp only [evs, Nat.reduceEqDiff, reduceIte] <;> rfl)) | (apply g_wpO) | intro h | constructor | fail))))
  all_goals
   (refine g_fin (by repeat' first | exact Rs.nil | apply Rs.cons | (apply Y4; simp only [evs, Nat.reduceEqDiff, reduceIte] <;> rfl)) (by (simp only [evs, Nat.reduceEqDiff, reduceIte] <;> first | rfl | (congr 1; omega) | omega)) ?_)
   simp only [m_upd, m_mem, m_start]
   refine ⟨_, tup_eq ?_, ((Grow.refl _).new _).new _, LV.of _ _ _ [3, 3] _ (row_new _ _ _ _) (fun i h => by (rcases i with _ | _ | _ | i) <;> first | rfl | (simp only [List.length_cons, List.length_nil] at h; omega)) hf⟩
   focus (simp only [okN, hf]; first | exact (decide_eq_true (by simp only [List.length_cons, List.length_nil]; omega)).symm | exact (decide_eq_false (by simp only [List.length_cons, List.length_nil]; omega)).symm)

set_option maxHeartbeats 40000000 in
theorem places30_of23 (kd : Int) (hk : kd = 23 ∨ kd = 24 ∨ kd = 25 ∨ kd = 29) (n : Int) (text : List UInt8) (num pos : Int) (n1 : -9223372036854775808 ≤ n) (n2 : n ≤ 9223372036854775807) (m : Mem) : Runs evEnv 30 [.agg ⟨Nd.val ⟨kd, n, text, num, pos⟩⟩] m fun v m' => ∃ lv, v = .tuple ⟨[lv, .bool (okN ⟨kd, n, text, num, pos⟩)]⟩ ∧ Grow m m' ∧ LV m' lv (fixedL ⟨kd, n, text, num, pos⟩) := by
 have hf : fixedL ⟨kd, n, text, num, pos⟩ = some [2, 2] := by rcases hk with rfl | rfl | rfl | rfl <;> rfl
 rcases hk with rfl | rfl | rfl | rfl
 all_goals
  refine runs_start rfl rfl rfl rfl ?_
  ·(repeat' (first | (apply G.h; constructor <;> (first | exact Zc | apply gI | ((repeat' (first | exact Y0 | apply Y1 | ((first | apply Y4 | apply Y5); simp only [evs, Nat.reduceEqDiff, reduceIte] <;> rfl))); done) | (apply Y6; (try simp only [evs]); first | exact Row.load1 (row_new _ _ _ _) rfl rfl rfl | exact Row.load1 ((row_new _ _ _ _).keep_new _) rfl rfl rfl))) | (apply g_split <;> (first | (apply Ev.mk; (simp only [evs, Nat.reduceEqDiff, reduceIte] <;> rfl)) | (apply Dn.mk; (simp only [evs, Nat.reduceEqDiff, reduceIte] <;> rfl)) | (apply g_wpO) | intro h | constructor | fail))))
   all_goals
    (refine g_fin (by repeat' first | exact Rs.nil | apply Rs.cons | (apply Y4; simp only [evs, Nat.reduceEqDiff, reduceIte] <;> rfl)) (by (simp only [evs, Nat.reduceEqDiff, reduceIte] <;> first | rfl | (congr 1; omega) | omega)) ?_)
    simp only [m_upd, m_mem, m_start]
    refine ⟨_, tup_eq ?_, ((Grow.refl _).new _).new _, LV.of _ _ _ [2, 2] _ (row_new _ _ _ _) (fun i h => by (rcases i with _ | _ | _ | i) <;> first | rfl | (simp only [List.length_cons, List.length_nil] at h; omega)) hf⟩
    focus (simp only [okN, hf]; first | exact (decide_eq_true (by simp only [List.length_cons, List.length_nil]; omega)).symm | exact (decide_eq_false (by simp only [List.length_cons, List.length_nil]; omega)).symm)

theorem places30 (x : Nd) (m : Mem) (hx : x.ok) (h1 : 1 ≤ x.kind) (h2 : x.kind ≤ 32) : Runs evEnv 30 [.agg ⟨x.val⟩] m fun v m' => ∃ lv, v = .tuple ⟨[lv, .bool (okN x)]⟩ ∧ Grow m m' ∧ LV m' lv (fixedL x) := by
 obtain ⟨kind, n, text, num, pos⟩ := x
 obtain ⟨-, ⟨n1, n2⟩, -, -⟩ := hx
 refine kinds h1 h2 (P := fun kind => Runs evEnv 30 [.agg ⟨Nd.val ⟨kind, n, text, num, pos⟩⟩] m fun v m' => ∃ lv, v = .tuple ⟨[lv, .bool (okN ⟨kind, n, text, num, pos⟩)]⟩ ∧ Grow m m' ∧ LV m' lv (fixedL ⟨kind, n, text, num, pos⟩))
  (places30_of1 1 (by decide) n text num pos n1 n2 m) (places30_of1 2 (by decide) n text num pos n1 n2 m) (places30_of3 3 (by decide) n text num pos n1 n2 m) (places30_4 n text num pos n1 n2 m) (places30_5 n text num pos n1 n2 m) (places30_6 n text num pos n1 n2 m) (places30_of7 7 (by decide) n text num pos n1 n2 m) (places30_of7 8 (by decide) n text num pos n1 n2 m) (places30_9 n text num pos n1 n2 m) (places30_of3 10 (by decide) n text num pos n1 n2 m) (places30_11 n text num pos n1 n2 m) (places30_of1 12 (by decide) n text num pos n1 n2 m) (places30_of3 13 (by decide) n text num pos n1 n2 m) (places30_of7 14 (by decide) n text num pos n1 n2 m) (places30_of7 15 (by decide) n text num pos n1 n2 m) (places30_of7 16 (by decide) n text num pos n1 n2 m) (places30_of7 17 (by decide) n text num pos n1 n2 m) (places30_of7 18 (by decide) n text num pos n1 n2 m) (places30_of7 19 (by decide) n text num pos n1 n2 m) (places30_of1 20 (by decide) n text num pos n1 n2 m) (places30_of1 21 (by decide) n text num pos n1 n2 m) (places30_of3 22 (by decide) n text num pos n1 n2 m) (places30_of23 23 (by decide) n text num pos n1 n2 m) (places30_of23 24 (by decide) n text num pos n1 n2 m) (places30_of23 25 (by decide) n text num pos n1 n2 m) (places30_of3 26 (by decide) n text num pos n1 n2 m) (places30_of3 27 (by decide) n text num pos n1 n2 m) (places30_of1 28 (by decide) n text num pos n1 n2 m) (places30_of23 29 (by decide) n text num pos n1 n2 m) (places30_of3 30 (by decide) n text num pos n1 n2 m) (places30_of1 31 (by decide) n text num pos n1 n2 m) (places30_of1 32 (by decide) n text num pos n1 n2 m)
end Go.Proofs.YthhcnfgeacnfiaaGreatDoor

namespace Go.Proofs.YthhcnfgeacnfiaaGreatDoor
open Go Go.Ev
set_option maxRecDepth 100000
set_option linter.unusedVariables false
set_option linter.unusedSimpArgs false
set_option pp.maxSteps 1500
attribute [local irreducible] quiet allocs effect wp ret wpO Runs Act.tmp Act.eval fin results Tree.set binOp loadAt storeAt target wanted cellsFrom

def placeR (x : Nd) (i : Nat) : Nat :=
 if x.kind = 1 ∨ x.kind = 2 then 1 else if x.kind = 4 ∧ i = 0 then 5 else if x.kind = 5 ∧ 0 < i then i + 2 else if x.kind = 6 ∧ i = 1 then 3 else if x.kind = 11 then 3 else
 if x.kind = 12 ∨ x.kind = 31 then (if (i : Int) < x.n - 1 then 6 else 3) else if x.kind = 21 then 7 else 2

def countB (x : Nd) : Bool :=
 if x.kind = 7 ∨ x.kind = 8 ∨ (14 ≤ x.kind ∧ x.kind ≤ 19) then decide (x.n = 0) else
 if x.kind = 3 ∨ x.kind = 10 ∨ x.kind = 13 ∨ x.kind = 22 ∨ x.kind = 26 ∨ x.kind = 27 ∨ x.kind = 30 then decide (x.n = 1) else
 if x.kind = 4 ∨ x.kind = 6 ∨ x.kind = 11 ∨ (23 ≤ x.kind ∧ x.kind ≤ 25) ∨ x.kind = 29 then decide (x.n = 2) else
 if x.kind = 5 then decide (x.n = 2 ∨ x.n = 3) else if x.kind = 9 then decide (x.n = 0 ∨ x.n = 1) else
 if x.kind = 28 ∨ x.kind = 32 then decide (1 ≤ x.n ∧ x.n ≤ 17) else
 if x.kind = 12 ∨ x.kind = 31 then decide (0 ≤ x.num ∧ x.num ≤ 16 ∧ x.n = x.num + 1) else decide (0 ≤ x.n)

end Go.Proofs.YthhcnfgeacnfiaaGreatDoor

namespace Go.Proofs.YthhcnfgeacnfiaaGreatDoor
set_option linter.unusedSimpArgs false
open Go Go.Ev
set_option linter.unusedVariables false

def okR (x : Nd) : Bool := countB x && fieldsB x

/-- what waits for so many, and what each must be. -/
structure Du where
 n : Int
 pl : Nat → Nat
def Nd.du (x : Nd) : Du := ⟨x.n, placeR x⟩

/-- nodes that have all that they are made of are done. -/
def pop : List (Du × Nat) → List (Du × Nat)
 | [] => []
 | (x, c) :: st => if (c : Int) = x.n then pop st else (x, c) :: st

/-- is the rest just what those that wait are made of? -/
def accept : List Nd → List (Du × Nat) → Bool
 | [], st => (pop st).isEmpty
 | x :: r, st => match pop st with
  | [] => false
  | (y, c) :: st' => mayB x.kind (y.pl c) && (okR x && accept r ((x.du, 0) :: (y, c + 1) :: st'))

theorem accept_pop (r : List Nd) (x : Du) (c : Nat) (st : List (Du × Nat)) (h : (c : Int) = x.n) : accept r ((x, c) :: st) = accept r st := by
 cases r <;> simp only [accept, pop, h, if_true]
theorem pop_not (x : Du) (c : Nat) (st : List (Du × Nat)) (h : (c : Int) < x.n) : pop ((x, c) :: st) = (x, c) :: st := by
 simp only [pop, if_neg (show ¬ (c : Int) = x.n by omega)]
theorem accept_nil (x : Du) (c : Nat) (st : List (Du × Nat)) (h : (c : Int) < x.n) : accept [] ((x, c) :: st) = false := by
 simp only [accept, pop_not x c st h]; rfl
theorem accept_cons (x : Nd) (y : Du) (r : List Nd) (c : Nat) (st : List (Du × Nat)) (h : (c : Int) < y.n) :
  accept (x :: r) ((y, c) :: st) = (mayB x.kind (y.pl c) && (okR x && accept r ((x.du, 0) :: (y, c + 1) :: st))) := by
 simp only [accept, pop_not y c st h]

def root : Du := ⟨1, fun _ => 0⟩
/-- is it a program? -/
def okProg (l : List Nd) : Bool := accept l [(root, 0)]

theorem may_range {kind : Int} {p : Nat} (h : mayB kind p = true) : 1 ≤ kind ∧ kind ≤ 32 := by
 unfold mayB at h
 (repeat' split at h) <;> have := of_decide_eq_true h <;> omega
theorem count_pos {x : Nd} (h : countB x = true) : 0 ≤ x.n := by
 unfold countB at h
 (repeat' split at h) <;> have := of_decide_eq_true h <;> omega
theorem placeR_le {x : Nd} (h : countB x = true) (i : Nat) (hi : (i : Int) < x.n) : placeR x i ≤ 7 := by
 unfold placeR
 by_cases h5 : x.kind = 5
 ·have : x.n = 2 ∨ x.n = 3 := by
   have h2 : countB x = decide (x.n = 2 ∨ x.n = 3) := by simp [countB, h5]
   rw [h2] at h
   exact of_decide_eq_true h
  (repeat' split) <;> omega
 ·(repeat' split) <;> omega

theorem Nodes.grow {m m' : Mem} {b off : Nat} {l : List Nd} (h : Nodes m b off l) (hb : b < m.next) (g : Grow m m') : Nodes m' b off l := by
 obtain ⟨n, c, ty, kd, h1, h2, h3⟩ := h
 exact ⟨n, c, ty, kd, by rw [g.2 b hb]; exact h1, h2, h3⟩
theorem Nodes.all {m : Mem} {b off : Nat} {l : List Nd} (h : Nodes m b off l) (i : Nat) (hi : i < l.length) : loadAt evEnv m 58 b (off + i * 5) = some (.agg ⟨l[i].val⟩) := by
 obtain ⟨n, c, ty, kd, h1, h2, h3⟩ := h
 refine load_agg (k := 5) rfl rfl rfl h1 (by omega) ?_
 have e0 := h3 i 0 hi (by omega)
 have e1 := h3 i 1 hi (by omega)
 have e2 := h3 i 2 hi (by omega)
 have e3 := h3 i 3 hi (by omega)
 have e4 := h3 i 4 hi (by omega)
 simp only [Nat.add_zero] at e0
 simp only [cellsFrom, e0, show off + i * 5 + 1 + 1 = off + i * 5 + 2 from rfl, show off + i * 5 + 2 + 1 = off + i * 5 + 3 from rfl, show off + i * 5 + 3 + 1 = off + i * 5 + 4 from rfl, e1, e2, e3, e4]
 rfl
def zeroNode : List Value := [.int .i64 0, .int .i64 0, .string ⟨⟨[]⟩⟩, .int .i64 0, .int .i64 0]

end Go.Proofs.YthhcnfgeacnfiaaGreatDoor

namespace Go.Proofs.YthhcnfgeacnfiaaGreatDoor
set_option linter.unusedSimpArgs false
open Go Go.Ev
set_option linter.unusedVariables false
set_option maxRecDepth 100000

/-- both ask the same of a node. -/
theorem ok_same (x : Nd) (h1 : 1 ≤ x.kind) (h2 : x.kind ≤ 32) : (okN x && rightB x) = okR x := by
 obtain ⟨kind, n, text, num, pos⟩ := x
 simp only at h1 h2
 revert n text num pos
 refine kinds h1 h2 (P := fun kind => ∀ (n : Int) (text : List UInt8) (num pos : Int), (okN ⟨kind, n, text, num, pos⟩ && rightB ⟨kind, n, text, num, pos⟩) = okR ⟨kind, n, text, num, pos⟩) ?_ ?_ ?_ ?_ ?_ ?_ ?_ ?_ ?_ ?_ ?_ ?_ ?_ ?_ ?_ ?_ ?_ ?_ ?_ ?_ ?_ ?_ ?_ ?_ ?_ ?_ ?_ ?_ ?_ ?_ ?_ ?_
 all_goals
  intro n text num pos
  simp [okN, fixedL, rightB, okR, countB, fieldsB]
 all_goals first
  | (intros; omega)
  | (by_cases h : n ≤ 2 <;> simp only [h, if_true, if_false] <;> rw [Bool.eq_iff_iff] <;> simp <;> omega)
  | (by_cases h : n ≤ 0 <;> simp only [h, if_true, if_false] <;> rw [Bool.eq_iff_iff] <;> simp <;> omega)
  | (cases nameB text <;> rw [Bool.eq_iff_iff] <;> simp <;> omega)

theorem place_many (x : Nd) (h : fixedL x = none) (h1 : 1 ≤ x.kind) (h2 : x.kind ≤ 32) (i : Nat) : placeN x.kind x.n i = placeR x i := by
 obtain ⟨kind, n, text, num, pos⟩ := x
 simp only at h1 h2
 revert h
 refine kinds h1 h2 (P := fun kind => fixedL ⟨kind, n, text, num, pos⟩ = none → placeN kind n i = placeR ⟨kind, n, text, num, pos⟩ i) ?_ ?_ ?_ ?_ ?_ ?_ ?_ ?_ ?_ ?_ ?_ ?_ ?_ ?_ ?_ ?_ ?_ ?_ ?_ ?_ ?_ ?_ ?_ ?_ ?_ ?_ ?_ ?_ ?_ ?_ ?_ ?_
 all_goals
  intro h
  first
  | (simp [fixedL] at h; done)
  | (exfalso; by_cases hn : n ≤ 2 <;> simp [fixedL, hn] at h; done)
  | (exfalso; by_cases hn : n ≤ 0 <;> simp [fixedL, hn] at h; done)
  | (simp [placeN, placeR]; done)
  | (simp [placeN, placeR])
theorem place_few (x : Nd) (ks : List Nat) (h : fixedL x = some ks) (h1 : 1 ≤ x.kind) (h2 : x.kind ≤ 32) (i : Nat) (hi : i < ks.length) : ks[i] = placeR x i := by
 obtain ⟨kind, n, text, num, pos⟩ := x
 simp only at h1 h2
 revert h
 refine kinds h1 h2 (P := fun kind => fixedL ⟨kind, n, text, num, pos⟩ = some ks → ks[i] = placeR ⟨kind, n, text, num, pos⟩ i) ?_ ?_ ?_ ?_ ?_ ?_ ?_ ?_ ?_ ?_ ?_ ?_ ?_ ?_ ?_ ?_ ?_ ?_ ?_ ?_ ?_ ?_ ?_ ?_ ?_ ?_ ?_ ?_ ?_ ?_ ?_ ?_
 all_goals
  intro h
  first
  | (simp [fixedL] at h; done)
  | (simp [fixedL] at h; subst h; rcases i with _ | _ | _ | i <;> first | (simp [placeR]; done) | (simp at hi; done) | (simp at hi; omega))
  | (simp [fixedL] at h; split at h <;> (cases h; rcases i with _ | _ | _ | i <;> first | (simp [placeR]; done) | (simp at hi; done) | (simp at hi; omega)))
end Go.Proofs.YthhcnfgeacnfiaaGreatDoor

namespace Go.Proofs.YthhcnfgeacnfiaaGreatDoor
set_option linter.unusedSimpArgs false
open Go Go.Ev
set_option linter.unusedVariables false
set_option maxRecDepth 100000

/-- one that waits: its node, what it is made of as a slice, how many were there. -/
structure WE where
  x : Nd
  lv : Value
  c : Nat
  du : Du
def WE.enc (w : WE) : List Value := w.x.val ++ [w.lv, .int .i64 w.c]
def WE.dc (w : WE) : Du × Nat := (w.du, w.c)
theorem enc_len (w : WE) : w.enc.length = 7 := rfl

/-- what a waiting one's slice says is what its rule says. -/
def PL (m : Mem) (w : WE) : Prop :=
  w.x.n = w.du.n ∧ (w.c : Int) ≤ w.x.n ∧ w.x.n ≤ 9223372036854775807 ∧ oneCell w.lv = true ∧ (∀ c : Nat, (c : Int) < w.x.n → w.du.pl c ≤ 7) ∧
  ((w.lv = .slice none 0 0 ∧ ∀ c : Nat, (c : Int) < w.x.n → placeN w.x.kind w.x.n c = w.du.pl c) ∨
   ∃ (kb cap : Nat) (ks : List Nat) (r : List Value), w.lv = .slice (some ⟨kb, 0, none⟩) ks.length cap ∧ Row m kb r 3 0 ∧ (∀ (i : Nat) (h : i < ks.length), r[i]? = some (.int .i64 ks[i])) ∧ w.x.n = ks.length ∧ ∀ (i : Nat) (h : i < ks.length), ks[i] = w.du.pl i)

theorem PL.keep {m m' : Mem} {w : WE} {wb : Nat} {r : List Value} (h : PL m w) (hr : Row m wb r 91 0) (hn : m.next ≤ m'.next) (hg : ∀ b, b ≠ wb → b < m.next → m'.get b = m.get b) : PL m' w := by
  obtain ⟨h1, h2, h3, h4, h5, h6⟩ := h
  refine ⟨h1, h2, h3, h4, h5, ?_⟩
  rcases h6 with h6 | ⟨kb, cap, ks, rk, e1, e2, e3, e4, e5⟩
  · exact .inl h6
  · exact .inr ⟨kb, cap, ks, rk, e1, e2.keep hn (hg kb (e2.ne hr (by decide)) e2.1), e3, e4, e5⟩
theorem PL.grow {m m' : Mem} {w : WE} (h : PL m w) (g : Grow m m') : PL m' w := by
  obtain ⟨h1, h2, h3, h4, h5, h6⟩ := h
  refine ⟨h1, h2, h3, h4, h5, ?_⟩
  rcases h6 with h6 | ⟨kb, cap, ks, rk, e1, e2, e3, e4, e5⟩
  · exact .inl h6
  · exact .inr ⟨kb, cap, ks, rk, e1, e2.grow g, e3, e4, e5⟩

theorem flat_get : ∀ (rs : List WE) (j f : Nat) (hj : j < rs.length) (hf : f < 7), (rs.flatMap WE.enc)[j * 7 + f]? = (rs[j].enc)[f]?
  | w :: rs, 0, f, hj, hf => by
    rw [List.flatMap_cons, List.getElem?_append_left (by rw [enc_len]; omega)]; simp
  | w :: rs, j + 1, f, hj, hf => by
    rw [List.flatMap_cons, List.getElem?_append_right (by rw [enc_len]; omega), enc_len, show (j + 1) * 7 + f - 7 = j * 7 + f by omega]
    have := flat_get rs j f (by simpa using hj) hf
    simpa using this
theorem flat_len : ∀ (rs : List WE), (rs.flatMap WE.enc).length = rs.length * 7
  | [] => rfl
  | w :: rs => by rw [List.flatMap_cons, List.length_append, enc_len, flat_len rs, List.length_cons]; omega

/-- those that wait, the last one first, in a block. -/
def Stk (m : Mem) (wb cap : Nat) (st : List WE) : Prop := ∃ r, Row m wb r 91 0 ∧ r.length = cap * 7 ∧ st.length ≤ cap ∧ r.take (st.length * 7) = st.reverse.flatMap WE.enc

theorem Stk.get {m : Mem} {wb cap : Nat} {st : List WE} (h : Stk m wb cap st) : ∃ r, Row m wb r 91 0 ∧ r.length = cap * 7 ∧ ∀ (j f : Nat) (hj : j < st.reverse.length), f < 7 → r[j * 7 + f]? = (st.reverse[j].enc)[f]? := by
  obtain ⟨r, h1, h2, h3, h4⟩ := h
  refine ⟨r, h1, h2, fun j f hj hf => ?_⟩
  have hj' : j < st.length := by simpa using hj
  rw [← flat_get _ j f hj hf, ← h4, List.getElem?_take_of_lt (by omega)]
theorem Stk.top {m : Mem} {wb cap : Nat} {w : WE} {st : List WE} (h : Stk m wb cap (w :: st)) : ∃ r, Row m wb r 91 0 ∧ r.length = cap * 7 ∧ st.length * 7 + 7 ≤ r.length ∧ ∀ f, f < 7 → r[0 + st.length * 7 + f]? = (w.enc)[f]? := by
  obtain ⟨r, h1, h2, h3⟩ := h.get
  obtain ⟨_, _, _, h4, _⟩ := h
  refine ⟨r, h1, h2, by simp only [List.length_cons] at h4; omega, fun f hf => ?_⟩
  have := h3 st.length f (by simp) hf
  rw [Nat.zero_add, this]
  congr 2
  simp
theorem Stk.pop {m : Mem} {wb cap : Nat} {w : WE} {st : List WE} (h : Stk m wb cap (w :: st)) : Stk m wb cap st := by
  obtain ⟨r, h1, h2, h3, h4⟩ := h
  simp only [List.length_cons] at h3 h4
  refine ⟨r, h1, h2, by omega, ?_⟩
  have : r.take (st.length * 7) = (r.take ((st.length + 1) * 7)).take (st.length * 7) := by rw [List.take_take]; congr 1; omega
  rw [this, h4, List.reverse_cons, List.flatMap_append, List.take_append_of_le_length (by rw [flat_len]; simp), List.take_of_length_le (by rw [flat_len]; simp)]
theorem Stk.keep {m m' : Mem} {wb cap : Nat} {st : List WE} (h : Stk m wb cap st) (hn : m.next ≤ m'.next) (hg : m'.get wb = m.get wb) : Stk m' wb cap st := by
  obtain ⟨r, h1, h2, h3, h4⟩ := h
  exact ⟨r, h1.keep hn hg, h2, h3, h4⟩
theorem Stk.grow {m m' : Mem} {wb cap : Nat} {st : List WE} (h : Stk m wb cap st) (g : Grow m m') : Stk m' wb cap st := by
  obtain ⟨r, h1, h2, h3, h4⟩ := h
  exact ⟨r, h1.grow g, h2, h3, h4⟩
/-- one more was there. -/
theorem Stk.more {m : Mem} {wb cap : Nat} {w : WE} {st : List WE} (h : Stk m wb cap (w :: st)) :
    ∃ m', storeAt evEnv m 3 wb (0 + st.length * 7 + 6) (.int .i64 ((w.c + 1 : Nat) : Int)) = some m' ∧ Stk m' wb cap ({ w with c := w.c + 1 } :: st) ∧ (∀ b, b ≠ wb → m'.get b = m.get b) ∧ m'.next = m.next := by
  obtain ⟨r, h1, h2, h3, h4⟩ := h
  simp only [List.length_cons] at h3 h4
  obtain ⟨m', e1, e2, e3, e4⟩ := h1.store (E := evEnv) (t := 3) (o := 0 + st.length * 7 + 6) (k := 1) (v := .int .i64 ((w.c + 1 : Nat) : Int)) (by decide) rfl rfl rfl (by omega) rfl
  refine ⟨m', e1, ⟨_, e2, by rw [put_length, h2], by simp only [List.length_cons]; omega, ?_⟩, e3, e4⟩
  simp only [List.length_cons, cellsOf, put]
  rw [List.take_set, h4, List.reverse_cons, List.reverse_cons, List.flatMap_append, List.flatMap_append]
  have hl : (st.reverse.flatMap WE.enc).length = st.length * 7 := by rw [flat_len]; simp
  rw [List.set_append_right _ _ (by omega), hl, show 0 + st.length * 7 + 6 - st.length * 7 = 6 by omega]
  rfl
/-- one that waits, behind the others. -/
theorem Stk.push {m : Mem} {wb cap : Nat} {st : List WE} (h : Stk m wb cap st) (w : WE) (hw : oneCell w.lv = true) (hs : st.length ≤ 1000000) :
    ∃ wb' cap' m', effect.append m 91 7 80 (.slice (some ⟨wb, 0, none⟩) st.length cap) 1 w.enc = some (.slice (some ⟨wb', 0, none⟩) (st.length + 1) cap', m') ∧ Stk m' wb' cap' (w :: st) ∧ (∀ b, b ≠ wb → b < m.next → m'.get b = m.get b) ∧ m.next ≤ m'.next ∧ (wb' = wb ∨ wb' = m.next) := by
  obtain ⟨r, h1, h2, h3, h4⟩ := h
  obtain ⟨wb', cap', m', r', e1, e2, e3, e4, e5, e6, e7, e8⟩ := append_row (bytes := 80) (k := 1) (new := w.enc) h1 h2 h3 rfl (by unfold oneCell at hw; simp [WE.enc, Nd.val, oneCell]; exact hw) (by omega) (by omega) (by omega)
  refine ⟨wb', cap', m', e1, ⟨r', e2, e3, by simpa using e4, ?_⟩, e6, e7, e8⟩
  rw [List.length_cons, e5, h4, List.reverse_cons, List.flatMap_append]
  simp

theorem pop_empty : ∀ (st : List (Du × Nat)), (pop st).isEmpty = true ↔ ∀ q ∈ st, (q.2 : Int) = q.1.n
  | [] => by simp [pop]
  | (x, c) :: st => by
    simp only [pop]
    by_cases h : (c : Int) = x.n
    · rw [if_pos h, pop_empty st]; simp [h]
    · rw [if_neg h]; simp [h]

/-- what places answers makes one that waits. -/
theorem PL.of {m : Mem} {x : Nd} {lv : Value} (h : LV m lv (fixedL x)) (hk1 : 1 ≤ x.kind) (hk2 : x.kind ≤ 32) (ho : okN x = true) (hr : okR x = true) (hn : x.n ≤ 9223372036854775807) :
    (lv = .slice none 0 0 ∨ ∃ kb n c, lv = .slice (some ⟨kb, 0, none⟩) n c) ∧ PL m ⟨x, lv, 0, x.du⟩ := by
  have hcnt : countB x = true := by unfold okR at hr; exact (Bool.and_eq_true_iff.1 hr).1
  have h0 := count_pos hcnt
  have hle : ∀ c : Nat, (c : Int) < x.n → x.du.pl c ≤ 7 := fun c hc => placeR_le hcnt c hc
  cases hf : fixedL x with
  | none =>
    rw [hf] at h
    obtain rfl : lv = .slice none 0 0 := h
    exact ⟨.inl rfl, rfl, h0, hn, rfl, hle, .inl ⟨rfl, fun c _ => place_many x hf hk1 hk2 c⟩⟩
  | some ks =>
    rw [hf] at h
    have hnk : x.n = ks.length := by
      unfold okN at ho
      rw [hf] at ho
      exact of_decide_eq_true ho
    rcases h with ⟨rfl, rfl⟩ | ⟨kb, cap, r, rfl, hrow, hget⟩
    · refine ⟨.inl rfl, rfl, h0, hn, rfl, hle, .inl ⟨rfl, fun c hc => ?_⟩⟩
      have hc' : (c : Int) < x.n := hc
      simp only [List.length_nil] at hnk
      omega
    · exact ⟨.inr ⟨kb, _, cap, rfl⟩, rfl, h0, hn, rfl, hle, .inr ⟨kb, cap, ks, r, rfl, hrow, hget, hnk, fun i hi => place_few x ks hf hk1 hk2 i hi⟩⟩
theorem LV.grow {m m' : Mem} {lv : Value} {o : Option (List Nat)} (h : LV m lv o) (g : Grow m m') : LV m' lv o := by
  cases o with
  | none => exact h
  | some ks =>
    rcases h with h | ⟨kb, cap, r, e1, e2, e3⟩
    · exact .inl h
    · exact .inr ⟨kb, cap, r, e1, e2.grow g, e3⟩
end Go.Proofs.YthhcnfgeacnfiaaGreatDoor
