/- Part of a verified evaluator of the model's programs and of runs by it: LA LB LC LD LE. -/
import Derived.Test.YtihokakelnfdgaaDoorSA
import Derived.Test.YtihokakelnfdgaaDoorEvV
import Derived.Test.YtihokakelnfdgaaDoorSE
import Derived.Test.YtihokakelnfdgaaDoorSM
namespace Go.Proofs.YtihokakelnfdgaaDoor
open Go Go.Ev
set_option maxRecDepth 100000
set_option linter.unusedVariables false
set_option linter.unusedSimpArgs false
set_option pp.maxSteps 1500
attribute [local irreducible] quiet allocs effect wp ret wpO Runs Act.tmp Act.eval fin results Tree.set binOp loadAt storeAt target wanted cellsFrom

theorem letter37 (c : Nat) (m : Mem) : Runs evEnv 37 [.int .u8 c] m fun v m' => v = .bool (letterN c) ∧ m' = m := by
 refine runs_start rfl rfl rfl rfl ?_
 (repeat' (first | (apply G.h; constructor <;> (first | exact Zc | apply gI | ((repeat' (first | exact Y0 | apply Y1 | ((first | apply Y4 | apply Y5); simp only [evs, Nat.reduceEqDiff, reduceIte] <;> rfl))); done) | (apply Y6; (try simp only [evs]); first | rfl))) | (apply g_split <;> (first | (apply Ev.mk; (simp only [evs, Nat.reduceEqDiff, reduceIte] <;> rfl)) | (apply Dn.mk; (simp only [evs, Nat.reduceEqDiff, reduceIte] <;> rfl)) | (apply g_wpO) | intro h | constructor | fail))))
 all_goals
  (refine g_fin (by repeat' first | exact Rs.nil | apply Rs.cons | (apply Y4; simp only [evs, Nat.reduceEqDiff, reduceIte] <;> rfl)) (by (simp only [evs, Nat.reduceEqDiff, reduceIte] <;> first | rfl | (congr 1; omega) | omega)) ?_)
  refine ⟨congrArg Value.bool ?_, by (simp only [evs, Nat.reduceEqDiff, reduceIte] <;> first | rfl | (congr 1; omega) | omega)⟩
  unfold letterN
  first | (symm; simp; omega) | (simp; omega)
theorem digit38 (c : Nat) (m : Mem) : Runs evEnv 38 [.int .u8 c] m fun v m' => v = .bool (digitN c) ∧ m' = m := by
 refine runs_start rfl rfl rfl rfl ?_
 (repeat' (first | (apply G.h; constructor <;> (first | exact Zc | apply gI | ((repeat' (first | exact Y0 | apply Y1 | ((first | apply Y4 | apply Y5); simp only [evs, Nat.reduceEqDiff, reduceIte] <;> rfl))); done) | (apply Y6; (try simp only [evs]); first | rfl))) | (apply g_split <;> (first | (apply Ev.mk; (simp only [evs, Nat.reduceEqDiff, reduceIte] <;> rfl)) | (apply Dn.mk; (simp only [evs, Nat.reduceEqDiff, reduceIte] <;> rfl)) | (apply g_wpO) | intro h | constructor | fail))))
 all_goals
  (refine g_fin (by repeat' first | exact Rs.nil | apply Rs.cons | (apply Y4; simp only [evs, Nat.reduceEqDiff, reduceIte] <;> rfl)) (by (simp only [evs, Nat.reduceEqDiff, reduceIte] <;> first | rfl | (congr 1; omega) | omega)) ?_)
  refine ⟨congrArg Value.bool ?_, by (simp only [evs, Nat.reduceEqDiff, reduceIte] <;> first | rfl | (congr 1; omega) | omega)⟩
  unfold digitN
  first | (symm; simp; omega) | (simp; omega)
end Go.Proofs.YtihokakelnfdgaaDoor

namespace Go.Proofs.YtihokakelnfdgaaDoor
open Go Go.Ev
set_option maxRecDepth 100000
set_option linter.unusedVariables false
set_option linter.unusedSimpArgs false
set_option pp.maxSteps 1500

/-- bytes, where they lie. -/
def Bts (m : Mem) (b off : Nat) (bs : List UInt8) : Prop := b < m.next ∧ ∃ n c el kd, m.get b = some (.cells n c el kd) ∧ off + bs.length ≤ n ∧ ∀ i x, bs[i]? = some x → c.get (off + i) = some (.int .u8 (x.toNat : Nat))
theorem Bts.load {m : Mem} {b off : Nat} {bs : List UInt8} (h : Bts m b off bs) {i : Nat} {x : UInt8} (hx : bs[i]? = some x) : loadAt evEnv m 5 b (off + i * 1) = some (.int .u8 (x.toNat : Nat)) := by
 obtain ⟨-, n, c, el, kd, h1, h2, h3⟩ := h
 have hi := (List.getElem?_eq_some_iff.1 hx).1
 rw [show off + i * 1 = off + i by omega]
 exact load_cell rfl rfl h1 (by omega) (h3 i x hx)
theorem Bts.grow {m m' : Mem} {b off : Nat} {bs : List UInt8} (h : Bts m b off bs) (g : Grow m m') : Bts m' b off bs := by
 obtain ⟨h0, n, c, el, kd, h1, h2⟩ := h
 exact ⟨Nat.lt_of_lt_of_le h0 g.1, n, c, el, kd, by rw [g.2 b h0]; exact h1, h2⟩
/-- how many bytes are blanks and remarks. -/
def skipL : Bool → List UInt8 → Nat
 | _, [] => 0
 | true, c :: r => 1 + skipL (c.toNat != 10) r
 | false, c :: r => if c.toNat = 35 then 1 + skipL true r else if c.toNat = 32 ∨ c.toNat = 9 ∨ c.toNat = 10 ∨ c.toNat = 13 then 1 + skipL false r else 0
theorem drop_at {bs : List UInt8} {p : Nat} {c : UInt8} (h : bs[p]? = some c) : bs.drop p = c :: bs.drop (p + 1) := by
 obtain ⟨hp, rfl⟩ := List.getElem?_eq_some_iff.1 h
 exact List.drop_eq_getElem_cons hp
attribute [local irreducible] quiet allocs effect wp ret wpO Runs Act.tmp Act.eval fin results Tree.set binOp loadAt storeAt target wanted cellsFrom

set_option maxHeartbeats 2000000 in
theorem skip36 (b off cap : Nat) (bs : List UInt8) (hl : bs.length ≤ 1000000) (at_ : Nat) (hat : at_ ≤ bs.length) (m : Mem) (hB : Bts m b off bs) :
  Runs evEnv 36 [.slice (some ⟨b, off, none⟩) bs.length cap, I at_] m fun v m' => v = I (at_ + skipL false (bs.drop at_) : Nat) ∧ m' = m ∧ at_ + skipL false (bs.drop at_) ≤ bs.length := by
 refine runs_start rfl rfl rfl rfl ?_
 (repeat (first | (apply G.h; constructor <;> (first | exact Zc | apply gI | ((repeat' (first | exact Y0 | apply Y1 | ((first | apply Y4 | apply Y5); simp only [evs, Nat.reduceEqDiff, reduceIte] <;> rfl))); done) | (apply Y6; (try simp only [evs]); first | rfl)))))
 refine ewp_loop (ι := Nat) (fun p a => (a.n = 47 ∧ a.defers = [] ∧ a.tmp 0 = .slice (some ⟨b, off, none⟩) bs.length cap ∧ a.tmp 1 = I p) ∧ a.m = m ∧ p ≤ bs.length ∧ p + skipL false (bs.drop p) = at_ + skipL false (bs.drop at_)) (fun p => bs.length - p) at_ ?_ ?_
 ·exact ⟨(by refine ⟨?_, ?_, ?_, ?_⟩ <;> (simp only [evs, Nat.reduceEqDiff, reduceIte] <;> first | rfl | (congr 1; omega) | omega)), by (simp only [evs, Nat.reduceEqDiff, reduceIte] <;> first | rfl | (congr 1; omega) | omega), hat, rfl⟩
 rintro p a ⟨⟨qn, qd, q0, q1⟩, qm, hp, he⟩ ih
 rcases Nat.lt_or_ge p bs.length with hlt | hge
 ·obtain ⟨c, hc⟩ : ∃ c, bs[p]? = some c := ⟨_, List.getElem?_eq_getElem hlt⟩
  have hld := hB.load hc
  have hdr := drop_at hc
  rw [hdr, skipL] at he
  by_cases h35 : c.toNat = 35
  ·rw [if_pos h35] at he
   (repeat (first | (apply G.h; constructor <;> (first | exact Zc | apply gI | ((repeat' (first | exact Y0 | apply Y1 | ((first | apply Y4 | apply Y5); simp only [evs, Nat.reduceEqDiff, reduceIte, qn, qd, q0, q1, qm] <;> rfl))); done) | (apply Y6; (try simp only [evs, qn, qd, q0, q1, qm]); first | exact hld)))))
   have hstart : p + skipL true (bs.drop p) = at_ + skipL false (bs.drop at_) := by
    rw [hdr, skipL, show (c.toNat != 10) = true by rw [h35]; rfl]; exact he
   refine ewp_loop (ι := Nat) (fun r a => (a.n = 47 ∧ a.defers = [] ∧ a.tmp 0 = .slice (some ⟨b, off, none⟩) bs.length cap ∧ a.tmp 1 = I r) ∧ a.m = m ∧ p ≤ r ∧ r ≤ bs.length ∧ r + skipL true (bs.drop r) = at_ + skipL false (bs.drop at_)) (fun r => bs.length - r) p ?_ ?_
   ·exact ⟨(by refine ⟨?_, ?_, ?_, ?_⟩ <;> (simp only [evs, Nat.reduceEqDiff, reduceIte, qn, qd, q0, q1] <;> first | rfl | (congr 1; omega) | omega)), by (simp only [evs, Nat.reduceEqDiff, reduceIte, qm] <;> first | rfl | (congr 1; omega) | omega), Nat.le_refl _, hp, hstart⟩
   clear qn qd q0 q1 qm hld
   rintro r a ⟨⟨qn, qd, q0, q1⟩, qm, hpr, hrl, hre⟩ ihr
   rcases Nat.lt_or_ge r bs.length with hrlt | hrge
   ·obtain ⟨x, hx⟩ : ∃ x, bs[r]? = some x := ⟨_, List.getElem?_eq_getElem hrlt⟩
    have hlx := hB.load hx
    have hdx := drop_at hx
    rw [hdx, skipL] at hre
    by_cases h10 : x.toNat = 10
    ·have hne : p ≠ r := fun h => by
      subst h
      rw [hc] at hx; cases hx
      omega
     rw [show (x.toNat != 10) = false by rw [h10]; rfl] at hre
     (repeat (first | (apply G.h; constructor <;> (first | exact Zc | apply gI | ((repeat' (first | exact Y0 | apply Y1 | ((first | apply Y4 | apply Y5); simp only [evs, Nat.reduceEqDiff, reduceIte, qn, qd, q0, q1, qm] <;> rfl))); done) | (apply Y6; (try simp only [evs, qn, qd, q0, q1, qm]); first | exact hlx)))))
     refine ih r _ ⟨(by refine ⟨?_, ?_, ?_, ?_⟩ <;> (simp only [evs, Nat.reduceEqDiff, reduceIte, qn, qd, q0, q1] <;> first | rfl | (congr 1; omega) | omega)), by (simp only [evs, Nat.reduceEqDiff, reduceIte, qm] <;> first | rfl | (congr 1; omega) | omega), hrl, ?_⟩ (by omega)
     rw [hdx, skipL, if_neg (by omega), if_pos (by omega)]
     exact hre
    ·rw [show (x.toNat != 10) = true by simp [h10]] at hre
     (repeat (first | (apply G.h; constructor <;> (first | exact Zc | apply gI | ((repeat' (first | exact Y0 | apply Y1 | ((first | apply Y4 | apply Y5); simp only [evs, Nat.reduceEqDiff, reduceIte, qn, qd, q0, q1, qm] <;> rfl))); done) | (apply Y6; (try simp only [evs, qn, qd, q0, q1, qm]); first | exact hlx)))))
     exact ihr (r + 1) _ ⟨(by refine ⟨?_, ?_, ?_, ?_⟩ <;> (simp only [evs, Nat.reduceEqDiff, reduceIte, qn, qd, q0, q1] <;> first | rfl | (congr 1; omega) | omega)), by (simp only [evs, Nat.reduceEqDiff, reduceIte, qm] <;> first | rfl | (congr 1; omega) | omega), by omega, hrlt, by omega⟩ (by omega)
   ·obtain rfl : r = bs.length := by omega
    rw [List.drop_length, skipL] at hre
    (repeat (first | (apply G.h; constructor <;> (first | exact Zc | apply gI | ((repeat' (first | exact Y0 | apply Y1 | ((first | apply Y4 | apply Y5); simp only [evs, Nat.reduceEqDiff, reduceIte, qn, qd, q0, q1, qm] <;> rfl))); done) | (apply Y6; (try simp only [evs, qn, qd, q0, q1, qm]); first | rfl)))))
    refine ih bs.length _ ⟨(by refine ⟨?_, ?_, ?_, ?_⟩ <;> (simp only [evs, Nat.reduceEqDiff, reduceIte, qn, qd, q0, q1] <;> first | rfl | (congr 1; omega) | omega)), by (simp only [evs, Nat.reduceEqDiff, reduceIte, qm] <;> first | rfl | (congr 1; omega) | omega), hrl, ?_⟩ (by omega)
    rw [List.drop_length, skipL]; exact hre
  ·rw [if_neg h35] at he
   by_cases hbl : c.toNat = 32 ∨ c.toNat = 9 ∨ c.toNat = 10 ∨ c.toNat = 13
   ·rw [if_pos hbl] at he
    rcases (show c.toNat = 32 ∨ (c.toNat ≠ 32 ∧ c.toNat = 9) ∨ (c.toNat ≠ 32 ∧ c.toNat ≠ 9 ∧ c.toNat = 10) ∨ (c.toNat ≠ 32 ∧ c.toNat ≠ 9 ∧ c.toNat ≠ 10 ∧ c.toNat = 13) by omega) with h1 | ⟨h1, h2⟩ | ⟨h1, h2, h3⟩ | ⟨h1, h2, h3, h4⟩
    all_goals
     (repeat (first | (apply G.h; constructor <;> (first | exact Zc | apply gI | ((repeat' (first | exact Y0 | apply Y1 | ((first | apply Y4 | apply Y5); simp only [evs, Nat.reduceEqDiff, reduceIte, qn, qd, q0, q1, qm] <;> rfl))); done) | (apply Y6; (try simp only [evs, qn, qd, q0, q1, qm]); first | exact hld)))))
     refine ih (p + 1) _ ⟨(by refine ⟨?_, ?_, ?_, ?_⟩ <;> (simp only [evs, Nat.reduceEqDiff, reduceIte, qn, qd, q0, q1] <;> first | rfl | (congr 1; omega) | omega)), by (simp only [evs, Nat.reduceEqDiff, reduceIte, qm] <;> first | rfl | (congr 1; omega) | omega), hlt, by omega⟩ (by omega)
   ·rw [if_neg hbl] at he
    have h1 : c.toNat ≠ 32 := by omega
    have h2 : c.toNat ≠ 9 := by omega
    have h3 : c.toNat ≠ 10 := by omega
    have h4 : c.toNat ≠ 13 := by omega
    (repeat (first | (apply G.h; constructor <;> (first | exact Zc | apply gI | ((repeat' (first | exact Y0 | apply Y1 | ((first | apply Y4 | apply Y5); simp only [evs, Nat.reduceEqDiff, reduceIte, qn, qd, q0, q1, qm] <;> rfl))); done) | (apply Y6; (try simp only [evs, qn, qd, q0, q1, qm]); first | exact hld)))))
    (refine g_fin (by repeat' first | exact Rs.nil | apply Rs.cons | (apply Y4; simp only [evs, Nat.reduceEqDiff, reduceIte, qn, qd, q0, q1, qm] <;> rfl)) (by (simp only [evs, Nat.reduceEqDiff, reduceIte, qn, qd, q0, q1, qm] <;> first | rfl | (congr 1; omega) | omega)) ?_)
    exact ⟨by rw [← he]; rfl, by (simp only [evs, Nat.reduceEqDiff, reduceIte, qm] <;> first | rfl | (congr 1; omega) | omega), by omega⟩
 ·obtain rfl : p = bs.length := by omega
  rw [List.drop_length, skipL] at he
  (repeat (first | (apply G.h; constructor <;> (first | exact Zc | apply gI | ((repeat' (first | exact Y0 | apply Y1 | ((first | apply Y4 | apply Y5); simp only [evs, Nat.reduceEqDiff, reduceIte, qn, qd, q0, q1, qm] <;> rfl))); done) | (apply Y6; (try simp only [evs, qn, qd, q0, q1, qm]); first | rfl)))))
  (refine g_fin (by repeat' first | exact Rs.nil | apply Rs.cons | (apply Y4; simp only [evs, Nat.reduceEqDiff, reduceIte, qn, qd, q0, q1, qm] <;> rfl)) (by (simp only [evs, Nat.reduceEqDiff, reduceIte, qn, qd, q0, q1, qm] <;> first | rfl | (congr 1; omega) | omega)) ?_)
  exact ⟨by rw [← he]; rfl, by (simp only [evs, Nat.reduceEqDiff, reduceIte, qm] <;> first | rfl | (congr 1; omega) | omega), by omega⟩
end Go.Proofs.YtihokakelnfdgaaDoor

namespace Go.Proofs.YtihokakelnfdgaaDoor
open Go Go.Ev
set_option maxRecDepth 100000
set_option linter.unusedVariables false
set_option linter.unusedSimpArgs false
set_option pp.maxSteps 1500

def signsL : List UInt8 := [43, 45, 42, 47, 37, 60, 62, 61, 40, 41, 91, 93, 123, 125, 44, 59, 58, 46]
theorem cellsFrom_all2 {c : Tree Value} : ∀ (k o : Nat) (L : List Value), L.length = k → (∀ i, i < k → c.get (o + i) = L[i]?) → cellsFrom c o k = some L
 | 0, o, L, hl, h => by rw [List.length_eq_zero_iff.1 hl]; rfl
 | k + 1, o, [], hl, h => by simp at hl
 | k + 1, o, x :: L, hl, h => by
  have h0 := h 0 (by omega)
  rw [Nat.add_zero, List.getElem?_cons_zero] at h0
  rw [cellsFrom, h0, cellsFrom_all2 k (o + 1) L (by simpa using hl) fun i hi => by
   have := h (i + 1) (by omega)
   rw [List.getElem?_cons_succ] at this
   rw [← this]; congr 1; omega]
/-- a part of the bytes, as a string. -/
theorem bytes_cells : ∀ (r : List UInt8) (L : List Value), L = r.map (fun x => .int .u8 (x.toNat : Nat)) → bytesOfCells L = some r
 | [], L, h => by rw [h]; rfl
 | x :: r, L, h => by
  rw [h, List.map_cons, bytesOfCells, bytes_cells r _ rfl]
  simp
theorem Bts.part {m : Mem} {b off : Nat} {bs : List UInt8} (h : Bts m b off bs) {lo hi : Nat} (h1 : lo ≤ hi) (h2 : hi ≤ bs.length) :
  ∃ n c el kd L, m.get b = some (.cells n c el kd) ∧ Nat.ble (off + lo * 1 + (hi - lo)) n = true ∧ cellsFrom c (off + lo * 1) (hi - lo) = some L ∧ bytesOfCells L = some ((bs.drop lo).take (hi - lo)) := by
 obtain ⟨-, n, c, el, kd, e1, e2, e3⟩ := h
 refine ⟨n, c, el, kd, ((bs.drop lo).take (hi - lo)).map (fun x => .int .u8 (x.toNat : Nat)), e1, Nat.ble_eq_true_of_le (by omega), ?_, bytes_cells _ _ rfl⟩
 refine cellsFrom_all2 (hi - lo) _ _ (by rw [List.length_map, List.length_take, List.length_drop]; omega) fun i hi' => ?_
 have hx : bs[lo + i]? = some (bs[lo + i]'(by omega)) := List.getElem?_eq_getElem _
 rw [show off + lo * 1 + i = off + (lo + i) by omega, e3 _ _ hx, List.getElem?_map, List.getElem?_take_of_lt hi', List.getElem?_drop, hx]; rfl
attribute [local irreducible] quiet allocs effect wp ret wpO Runs Act.tmp Act.eval fin results Tree.set binOp loadAt storeAt target wanted cellsFrom

set_option maxHeartbeats 2000000 in
theorem sign42 (b off cap : Nat) (bs : List UInt8) (hl : bs.length ≤ 1000000) (hcap : bs.length ≤ cap) (at_ : Nat) (c : UInt8) (j : Nat) (m : Mem) (hB : Bts m b off bs) (hc : bs[at_]? = some c) (hj : signsL[j]? = some c) (hf : ∀ i, i < j → signsL[i]? ≠ some c) (h2 : ∀ x, bs[at_ + 1]? = some x → x.toNat ≠ 61) :
  Runs evEnv 42 [.slice (some ⟨b, off, none⟩) bs.length cap, I at_] m fun v m' => Grow m m' ∧ v = .tuple ⟨[.agg ⟨[I 5, encS [c], I 0, I at_]⟩, I (at_ + 1 : Nat), I 0]⟩ := by
 have hat := (List.getElem?_eq_some_iff.1 hc).1
 have hj18 : j < 18 := (List.getElem?_eq_some_iff.1 hj).1
 have r4 : Row (m.new (rowObj [I 0, encS [], I 0, I 0] 73 0)) m.next [I 0, encS [], I 0, I 0] 73 0 := row_new m [I 0, encS [], I 0, I 0] 73 0
 have g1 : Grow m (m.new (rowObj [I 0, encS [], I 0, I 0] 73 0)) := (Grow.refl m).new _
 refine runs_start rfl rfl rfl rfl ?_
 (repeat (first | (apply G.h; constructor <;> (first | exact Zc | apply gI | ((repeat' (first | exact Y0 | apply Y1 | ((first | apply Y4 | apply Y5); simp only [evs, Nat.reduceEqDiff, reduceIte] <;> rfl))); done) | (apply Y6; (try simp only [evs]); first | rfl)))))
 have z7 := row_new (m.new (rowObj [I 0, encS [], I 0, I 0] 73 0)) [I 0, encS [], I 0, I 0] 73 0
 (apply g_stR <;> (first | exact Zc | apply gI | ((repeat' (first | exact Y0 | apply Y1 | exact Y2 | apply Y3 | ((first | apply Y4 | apply Y5); simp only [evs, Nat.reduceEqDiff, reduceIte] <;> rfl))); done) | (apply Hy.mk; (try simp only [evs]); first | exact z7 | assumption) | (apply Om.mk; first | exact z7) | (apply Y6; (try simp only [evs]); first | rfl) | apply Cn.mk))
 intro m3 r7 o3 n3; simp only [evs] at r7 o3 n3
 replace r7 : Row m3 (m.next + 1) [I 5, encS [], I 0, I at_] 73 0 := r7
 have g3 : Grow m m3 := g1.trans (((Grow.refl _).new _).wrote (Nat.le_refl _) o3 n3)
 have r43 : Row m3 m.next [I 0, encS [], I 0, I 0] 73 0 := r4.grow (((Grow.refl _).new _).wrote (Nat.le_refl _) o3 n3)
 have hld := (hB.grow g3).load hc
 have hcond : ∀ (R : Prop), (at_ + 1 < bs.length → ∀ x, bs[at_ + 1]? = some x → R) → (¬ at_ + 1 < bs.length → R) → R := fun R h h' => by
  by_cases hh : at_ + 1 < bs.length
  ·exact h hh _ (List.getElem?_eq_getElem hh)
  ·exact h' hh
 rcases (show at_ + 1 < bs.length ∨ bs.length ≤ at_ + 1 by omega) with hh | hh
 case' inl =>
  obtain ⟨x, hx⟩ : ∃ x, bs[at_ + 1]? = some x := ⟨_, List.getElem?_eq_getElem hh⟩
  have hlx := (hB.grow g3).load hx
  have hx61 := h2 x hx
  (repeat (first | (apply G.h; constructor <;> (first | exact Zc | apply gI | ((repeat' (first | exact Y0 | apply Y1 | ((first | apply Y4 | apply Y5); simp only [evs, Nat.reduceEqDiff, reduceIte] <;> rfl))); done) | (apply Y6; (try simp only [evs]); first | exact hld | exact hlx)))))
 case' inr =>
  (repeat (first | (apply G.h; constructor <;> (first | exact Zc | apply gI | ((repeat' (first | exact Y0 | apply Y1 | ((first | apply Y4 | apply Y5); simp only [evs, Nat.reduceEqDiff, reduceIte] <;> rfl))); done) | (apply Y6; (try simp only [evs]); first | exact hld)))))
 all_goals
  refine ewp_loop (ι := Nat) (fun i a => (a.n = 84 ∧ a.defers = [] ∧ a.tmp 0 = .slice (some ⟨b, off, none⟩) bs.length cap ∧ a.tmp 1 = I at_ ∧ a.tmp 4 = ptr m.next ∧ a.tmp 7 = ptr (m.next + 1) ∧ a.tmp 8 = .int .u8 (c.toNat : Nat) ∧ a.tmp 9 = encS signsL ∧ a.tmp 10 = I i) ∧ a.m = m3 ∧ i ≤ j) (fun i => j - i) 0 ?_ ?_
  ·exact ⟨(by refine ⟨?_, ?_, ?_, ?_, ?_, ?_, ?_, ?_, ?_⟩ <;> (simp only [evs, Nat.reduceEqDiff, reduceIte] <;> first | rfl | (congr 1; omega) | omega)), by (simp only [evs, Nat.reduceEqDiff, reduceIte] <;> first | rfl | (congr 1; omega) | omega), Nat.zero_le _⟩
  rintro i a ⟨⟨qn, qd, q0, q1, q4, q7, q8, q9, q10⟩, qm, hij⟩ ih
  have hsl : signsL.length = 18 := rfl
  have hi18 : i < signsL.length := by omega
  obtain ⟨y, hy⟩ : ∃ y, signsL[i]? = some y := ⟨_, List.getElem?_eq_getElem hi18⟩
  have hny : nth signsL i = some y := by rw [nth_is]; exact hy
  by_cases hyc : y = c
  ·subst hyc
   obtain rfl : i = j := by
    rcases Nat.lt_or_ge i j with h | h
    ·exact absurd hy (hf i h)
    ·omega
   obtain ⟨n, cc, el, kd, L, p1, p2, p3, p4⟩ := (hB.grow g3).part (lo := at_) (hi := at_ + 1) (by omega) (by omega)
   have p5 : bytesOfCells L = some [y] := by rw [p4, drop_at hc, show at_ + 1 - at_ = 1 by omega]; rfl
   (repeat (first | (apply G.h; constructor <;> (first | exact Zc | apply gI | ((repeat' (first | exact Y0 | apply Y1 | ((first | apply Y4 | apply Y5); simp only [evs, Nat.reduceEqDiff, reduceIte, qn, qd, q0, q1, q4, q7, q8, q9, q10, qm] <;> rfl))); done) | (apply Y6; (try simp only [evs, qn, qd, q0, q1, q4, q7, q8, q9, q10, qm]); first | rfl)))))
   (apply g_slice2 <;> (first | exact Zc | apply gI | ((repeat' (first | exact Y0 | apply Y1 | exact Y2 | apply Y3 | ((first | apply Y4 | apply Y5); simp only [evs, Nat.reduceEqDiff, reduceIte, qn, qd, q0, q1, q4, q7, q8, q9, q10] <;> rfl))); done) | (apply Hy.mk; (try simp only [evs, qn, qd, q0, q1, q4, q7, q8, q9, q10]); first | fail | assumption) | (apply Om.mk; first | fail) | (apply Y6; (try simp only [evs, qn, qd, q0, q1, q4, q7, q8, q9, q10]); first | rfl) | apply Cn.mk))
   (repeat (first | (apply G.h; constructor <;> (first | exact Zc | apply gI | ((repeat' (first | exact Y0 | apply Y1 | ((first | apply Y4 | apply Y5); simp only [evs, Nat.reduceEqDiff, reduceIte, qn, qd, q0, q1, q4, q7, q8, q9, q10] <;> rfl))); done) | (apply Y6; (try simp only [evs, qn, qd, q0, q1, q4, q7, q8, q9, q10]); first | rfl)))))
   (apply g_bytesStr <;> (first | exact Zc | apply gI | ((repeat' (first | exact Y0 | apply Y1 | exact Y2 | apply Y3 | ((first | apply Y4 | apply Y5); simp only [evs, Nat.reduceEqDiff, reduceIte, qn, qd, q0, q1, q4, q7, q8, q9, q10, qm] <;> rfl))); done) | (apply Hy.mk; (try simp only [evs, qn, qd, q0, q1, q4, q7, q8, q9, q10, qm]); first | exact p1 | exact p2 | exact p3 | exact p5 | assumption) | (apply Om.mk; first | exact p1 | exact p2 | exact p3 | exact p5) | (apply Y6; (try simp only [evs, qn, qd, q0, q1, q4, q7, q8, q9, q10, qm]); first | rfl) | apply Cn.mk))
   (repeat (first | (apply G.h; constructor <;> (first | exact Zc | apply gI | ((repeat' (first | exact Y0 | apply Y1 | ((first | apply Y4 | apply Y5); simp only [evs, Nat.reduceEqDiff, reduceIte, qn, qd, q0, q1, q4, q7, q8, q9, q10] <;> rfl))); done) | (apply Y6; (try simp only [evs, qn, qd, q0, q1, q4, q7, q8, q9, q10]); first | rfl)))))
   (apply g_stR <;> (first | exact Zc | apply gI | ((repeat' (first | exact Y0 | apply Y1 | exact Y2 | apply Y3 | ((first | apply Y4 | apply Y5); simp only [evs, Nat.reduceEqDiff, reduceIte, qn, qd, q0, q1, q4, q7, q8, q9, q10, qm] <;> rfl))); done) | (apply Hy.mk; (try simp only [evs, qn, qd, q0, q1, q4, q7, q8, q9, q10, qm]); first | exact r7 | assumption) | (apply Om.mk; first | exact r7) | (apply Y6; (try simp only [evs, qn, qd, q0, q1, q4, q7, q8, q9, q10, qm]); first | rfl) | apply Cn.mk))
   intro m4 r8 o4 n4; simp only [evs, qn, qd, q0, q1, q4, q7, q8, q9, q10, qm] at r8 o4 n4
   replace r8 : Row m4 (m.next + 1) [I 5, encS [y], I 0, I at_] 73 0 := r8
   have r44 := r43.keep (m' := m4) (by rw [n4]; exact Nat.le_refl _) (o4 _ (by omega))
   (repeat (first | (apply G.h; constructor <;> (first | exact Zc | apply gI | ((repeat' (first | exact Y0 | apply Y1 | ((first | apply Y4 | apply Y5); simp only [evs, Nat.reduceEqDiff, reduceIte, qn, qd, q0, q1, q4, q7, q8, q9, q10] <;> rfl))); done) | (apply Y6; (try simp only [evs, qn, qd, q0, q1, q4, q7, q8, q9, q10]); first | exact r8.loadA rfl rfl rfl (Nat.le_refl 4) rfl)))))
   (apply g_stR <;> (first | exact Zc | apply gI | ((repeat' (first | exact Y0 | apply Y1 | exact Y2 | apply Y3 | ((first | apply Y4 | apply Y5); simp only [evs, Nat.reduceEqDiff, reduceIte, qn, qd, q0, q1, q4, q7, q8, q9, q10] <;> rfl))); done) | (apply Hy.mk; (try simp only [evs, qn, qd, q0, q1, q4, q7, q8, q9, q10]); first | exact r44 | assumption) | (apply Om.mk; first | exact r44) | (apply Y6; (try simp only [evs, qn, qd, q0, q1, q4, q7, q8, q9, q10]); first | rfl) | apply Cn.mk))
   intro m5 r9 o5 n5; simp only [evs, qn, qd, q0, q1, q4, q7, q8, q9, q10] at r9 o5 n5
   (repeat (first | (apply G.h; constructor <;> (first | exact Zc | apply gI | ((repeat' (first | exact Y0 | apply Y1 | ((first | apply Y4 | apply Y5); simp only [evs, Nat.reduceEqDiff, reduceIte, qn, qd, q0, q1, q4, q7, q8, q9, q10] <;> rfl))); done) | (apply Y6; (try simp only [evs, qn, qd, q0, q1, q4, q7, q8, q9, q10]); first | rfl)))))
   refine g_fin3c (b := m.next) (o := 0) _ (I (at_ + 1 : Nat)) (I 0) rfl ?_ ?_ (by simp only [evs]; exact r9.loadA rfl rfl rfl (Nat.le_refl 4) rfl) ?_ ?_ ?_
   ·(simp only [evs, Nat.reduceEqDiff, reduceIte, qn, qd, q0, q1, q4, q7, q8, q9, q10] <;> first | rfl | (congr 1; omega) | omega)
   ·(simp only [evs, Nat.reduceEqDiff, reduceIte, qn, qd, q0, q1, q4, q7, q8, q9, q10] <;> first | rfl | (congr 1; omega) | omega)
   ·(simp only [evs, Nat.reduceEqDiff, reduceIte, qn, qd, q0, q1, q4, q7, q8, q9, q10] <;> first | rfl | (congr 1; omega) | omega)
   ·(simp only [evs, Nat.reduceEqDiff, reduceIte, qn, qd, q0, q1, q4, q7, q8, q9, q10] <;> first | rfl | (congr 1; omega) | omega)
   ·refine ⟨?_, rfl⟩
    simp only [evs]
    exact (g3.wrote (b := m.next + 1) (by omega) o4 n4).wrote (b := m.next) (Nat.le_refl _) o5 n5
  ·have hlt : i < j := by
    rcases Nat.lt_or_ge i j with h | h
    ·exact h
    ·obtain rfl : i = j := by omega
     rw [hj] at hy; cases hy; exact absurd rfl hyc
   have hyn : y.toNat ≠ c.toNat := fun h => hyc (UInt8.toNat_inj.1 h)
   (repeat (first | (apply G.h; constructor <;> (first | exact Zc | apply gI | ((repeat' (first | exact Y0 | apply Y1 | ((first | apply Y4 | apply Y5); simp only [evs, Nat.reduceEqDiff, reduceIte, qn, qd, q0, q1, q4, q7, q8, q9, q10, qm] <;> rfl))); done) | (apply Y6; (try simp only [evs, qn, qd, q0, q1, q4, q7, q8, q9, q10, qm]); first | rfl)))))
   refine ih (i + 1) _ ⟨(by refine ⟨?_, ?_, ?_, ?_, ?_, ?_, ?_, ?_, ?_⟩ <;> (simp only [evs, Nat.reduceEqDiff, reduceIte, qn, qd, q0, q1, q4, q7, q8, q9, q10] <;> first | rfl | (congr 1; omega) | omega)), by (simp only [evs, Nat.reduceEqDiff, reduceIte, qm] <;> first | rfl | (congr 1; omega) | omega), hlt⟩ (by omega)
end Go.Proofs.YtihokakelnfdgaaDoor

namespace Go.Proofs.YtihokakelnfdgaaDoor
open Go Go.Ev
set_option maxRecDepth 100000
set_option linter.unusedVariables false
set_option linter.unusedSimpArgs false
set_option pp.maxSteps 1500
theorem i64mul {m : Mem} {t : TypeId} : Bn evEnv m .mul t (I 0) (I 10) (I 0) := .mk rfl

theorem u8sub48 {m : Mem} {t : TypeId} : Bn evEnv m .sub t (.int .u8 ((48 : Nat) : Int)) (.int .u8 48) (.int .u8 0) := .mk rfl
theorem i64sub48 {m : Mem} {t : TypeId} : Bn evEnv m .sub t (I 2305843009213693951) (I 0) (I (2305843009213693951 - 0)) := .mk rfl
theorem i64quo48 {m : Mem} {t : TypeId} : Bn evEnv m .quo t (I (2305843009213693951 - 0)) (I 10) (I 230584300921369395) := .mk rfl

theorem u8sub49 {m : Mem} {t : TypeId} : Bn evEnv m .sub t (.int .u8 ((49 : Nat) : Int)) (.int .u8 48) (.int .u8 1) := .mk rfl
theorem i64sub49 {m : Mem} {t : TypeId} : Bn evEnv m .sub t (I 2305843009213693951) (I 1) (I (2305843009213693951 - 1)) := .mk rfl
theorem i64quo49 {m : Mem} {t : TypeId} : Bn evEnv m .quo t (I (2305843009213693951 - 1)) (I 10) (I 230584300921369395) := .mk rfl
attribute [local irreducible] quiet allocs effect wp ret wpO Runs Act.tmp Act.eval fin results Tree.set binOp loadAt storeAt target wanted cellsFrom


set_option maxHeartbeats 2000000 in
/-- one digit alone. -/
theorem number40_48 (b off cap : Nat) (bs : List UInt8) (hl : bs.length ≤ 1000000) (at_ : Nat) (c x : UInt8) (hcv : c.toNat = 48) (m : Mem) (hB : Bts m b off bs) (hc : bs[at_]? = some c) (hx : bs[at_ + 1]? = some x) (hxd : digitN x.toNat = false) (hxl : letterN x.toNat = false) :
  Runs evEnv 40 [.slice (some ⟨b, off, none⟩) bs.length cap, I at_] m fun v m' => Grow m m' ∧ v = .tuple ⟨[.agg ⟨[I 3, encS [], I 0, I at_]⟩, I (at_ + 1 : Nat), I 0]⟩ := by
 have hat := (List.getElem?_eq_some_iff.1 hx).1
 have r4 : Row (m.new (rowObj [I 0, encS [], I 0, I 0] 73 0)) m.next [I 0, encS [], I 0, I 0] 73 0 := row_new m [I 0, encS [], I 0, I 0] 73 0
 have g1 : Grow m (m.new (rowObj [I 0, encS [], I 0, I 0] 73 0)) := (Grow.refl m).new _
 refine runs_start rfl rfl rfl rfl ?_
 (repeat (first | (apply G.h; constructor <;> (first | exact Zc | apply gI | ((repeat' (first | exact Y0 | apply Y1 | ((first | apply Y4 | apply Y5); simp only [evs, Nat.reduceEqDiff, reduceIte] <;> rfl))); done) | (apply Y6; (try simp only [evs]); first | rfl)))))
 have z7 := row_new (m.new (rowObj [I 0, encS [], I 0, I 0] 73 0)) [I 0, encS [], I 0, I 0] 73 0
 (apply g_stR <;> (first | exact Zc | apply gI | ((repeat' (first | exact Y0 | apply Y1 | exact Y2 | apply Y3 | ((first | apply Y4 | apply Y5); simp only [evs, Nat.reduceEqDiff, reduceIte] <;> rfl))); done) | (apply Hy.mk; (try simp only [evs]); first | exact z7 | assumption) | (apply Om.mk; first | exact z7) | (apply Y6; (try simp only [evs]); first | rfl) | apply Cn.mk))
 intro m3 r7 o3 n3; simp only [evs] at r7 o3 n3
 replace r7 : Row m3 (m.next + 1) [I 3, encS [], I 0, I at_] 73 0 := r7
 have g3 : Grow m m3 := g1.trans (((Grow.refl _).new _).wrote (Nat.le_refl _) o3 n3)
 have r43 : Row m3 m.next [I 0, encS [], I 0, I 0] 73 0 := r4.grow (((Grow.refl _).new _).wrote (Nat.le_refl _) o3 n3)
 have hld := (hB.grow g3).load hc
 rw [hcv] at hld
 have hlx := (hB.grow g3).load hx
 (repeat (first | (apply G.h; constructor <;> (first | exact Zc | apply gI | ((repeat' (first | exact Y0 | apply Y1 | ((first | apply Y4 | apply Y5); simp only [evs, Nat.reduceEqDiff, reduceIte] <;> rfl))); done) | (apply Y6; (try simp only [evs]); first | rfl)))))
 refine ewp_loop (ι := Bool) (fun s a => (a.n = 82 ∧ a.defers = [] ∧ a.tmp 0 = .slice (some ⟨b, off, none⟩) bs.length cap ∧ a.tmp 1 = I at_ ∧ a.tmp 4 = ptr m.next ∧ a.tmp 7 = ptr (m.next + 1) ∧ a.tmp 8 = I (if s then at_ else at_ + 1 : Nat)) ∧ a.m = m3) (fun s => if s then 1 else 0) true ?_ ?_
 ·exact ⟨(by refine ⟨?_, ?_, ?_, ?_, ?_, ?_, ?_⟩ <;> (simp only [evs, Nat.reduceEqDiff, reduceIte] <;> first | rfl | (congr 1; omega) | omega)), by (simp only [evs, Nat.reduceEqDiff, reduceIte] <;> first | rfl | (congr 1; omega) | omega)⟩
 rintro s a ⟨⟨qn, qd, q0, q1, q4, q7, q8⟩, qm⟩ ih
 cases s with
 | true =>
  rw [if_pos rfl] at q8
  (repeat (first | (apply G.h; constructor <;> (first | exact Zc | apply gI | ((repeat' (first | exact Y0 | apply Y1 | ((first | apply Y4 | apply Y5); simp only [evs, Nat.reduceEqDiff, reduceIte, qn, qd, q0, q1, q4, q7, q8, qm] <;> rfl))); done) | (apply Y6; (try simp only [evs, qn, qd, q0, q1, q4, q7, q8, qm]); first | exact hld)))))
  ((first | apply g_run | apply g_run0) <;> (first | ((repeat' (first | exact Y0 | apply Y1 | exact Y2 | apply Y3 | ((first | apply Y4 | apply Y5); simp only [evs, Nat.reduceEqDiff, reduceIte, qn, qd, q0, q1, q4, q7, q8, qm] <;> rfl))); done) | exact Rn.mk (digit45 48 _) | apply Cn.mk))
  rintro v m4 ⟨rfl, rfl⟩
  rw [show digitN 48 = true from rfl]
  (repeat (first | (apply G.h; constructor <;> (first | exact Zc | apply gI | ((repeat' (first | exact Y0 | apply Y1 | ((first | apply Y4 | apply Y5); simp only [evs, Nat.reduceEqDiff, reduceIte, qn, qd, q0, q1, q4, q7, q8, qm] <;> rfl))); done) | (apply Y6; (try simp only [evs, qn, qd, q0, q1, q4, q7, q8, qm]); first | rfl)))))
  exact ih false _ ⟨(by refine ⟨?_, ?_, ?_, ?_, ?_, ?_, ?_⟩ <;> (simp only [evs, Nat.reduceEqDiff, reduceIte, qn, qd, q0, q1, q4, q7, q8] <;> first | rfl | (congr 1; omega) | omega)), by (simp only [evs, Nat.reduceEqDiff, reduceIte, qm] <;> first | rfl | (congr 1; omega) | omega)⟩ (by decide)
 | false =>
  rw [if_neg (by decide)] at q8
  (repeat (first | (apply G.h; constructor <;> (first | exact Zc | apply gI | ((repeat' (first | exact Y0 | apply Y1 | ((first | apply Y4 | apply Y5); simp only [evs, Nat.reduceEqDiff, reduceIte, qn, qd, q0, q1, q4, q7, q8, qm] <;> rfl))); done) | (apply Y6; (try simp only [evs, qn, qd, q0, q1, q4, q7, q8, qm]); first | exact hlx)))))
  ((first | apply g_run | apply g_run0) <;> (first | ((repeat' (first | exact Y0 | apply Y1 | exact Y2 | apply Y3 | ((first | apply Y4 | apply Y5); simp only [evs, Nat.reduceEqDiff, reduceIte, qn, qd, q0, q1, q4, q7, q8, qm] <;> rfl))); done) | exact Rn.mk (digit45 x.toNat _) | apply Cn.mk))
  rintro v m4 ⟨rfl, rfl⟩
  rw [hxd]
  (repeat (first | (apply G.h; constructor <;> (first | exact Zc | apply gI | ((repeat' (first | exact Y0 | apply Y1 | ((first | apply Y4 | apply Y5); simp only [evs, Nat.reduceEqDiff, reduceIte, qn, qd, q0, q1, q4, q7, q8, qm] <;> rfl))); done) | (apply Y6; (try simp only [evs, qn, qd, q0, q1, q4, q7, q8, qm]); first | exact hld | exact hlx)))))
  ((first | apply g_run | apply g_run0) <;> (first | ((repeat' (first | exact Y0 | apply Y1 | exact Y2 | apply Y3 | ((first | apply Y4 | apply Y5); simp only [evs, Nat.reduceEqDiff, reduceIte, qn, qd, q0, q1, q4, q7, q8, qm] <;> rfl))); done) | exact Rn.mk (letter44 x.toNat _) | apply Cn.mk))
  rintro v m4 ⟨rfl, rfl⟩
  rw [hxl]
  (repeat (first | (apply G.h; constructor <;> (first | exact Zc | apply gI | ((repeat' (first | exact Y0 | apply Y1 | ((first | apply Y4 | apply Y5); simp only [evs, Nat.reduceEqDiff, reduceIte, qn, qd, q0, q1, q4, q7, q8, qm] <;> rfl))); done) | (apply Y6; (try simp only [evs, qn, qd, q0, q1, q4, q7, q8, qm]); first | rfl)))))
  clear ih
  refine ewp_loop (ι := Bool) (fun s a => (a.n = 82 ∧ a.defers = [] ∧ a.tmp 0 = .slice (some ⟨b, off, none⟩) bs.length cap ∧ a.tmp 1 = I at_ ∧ a.tmp 4 = ptr m.next ∧ a.tmp 7 = ptr (m.next + 1) ∧ a.tmp 8 = I (at_ + 1 : Nat)) ∧ (if s then a.tmp 9 = I at_ ∧ a.m = m3 else a.tmp 9 = I (at_ + 1 : Nat) ∧ Grow m a.m ∧ Row a.m (m.next + 1) [I 3, encS [], I 0, I at_] 73 0 ∧ Row a.m m.next [I 0, encS [], I 0, I 0] 73 0)) (fun s => if s then 1 else 0) true ?_ ?_
  ·exact ⟨(by refine ⟨?_, ?_, ?_, ?_, ?_, ?_, ?_⟩ <;> (simp only [evs, Nat.reduceEqDiff, reduceIte, qn, qd, q0, q1, q4, q7, q8] <;> first | rfl | (congr 1; omega) | omega)), by rw [if_pos rfl]; exact ⟨by (simp only [evs, Nat.reduceEqDiff, reduceIte, qn, qd, q0, q1, q4, q7, q8] <;> first | rfl | (congr 1; omega) | omega), by (simp only [evs, Nat.reduceEqDiff, reduceIte, qm] <;> first | rfl | (congr 1; omega) | omega)⟩⟩
  clear qn qd q0 q1 q4 q7 q8 qm
  rintro s a ⟨⟨wn, wd, w0, w1, w4, w7, w8⟩, hs⟩ ih
  cases s with
  | true =>
   rw [if_pos rfl] at hs
   obtain ⟨w9, wm⟩ := hs
   (repeat (first | (apply G.h; constructor <;> (first | exact Zc | apply gI | ((repeat' (first | exact Y0 | apply Y1 | ((first | apply Y4 | apply Y5); simp only [evs, Nat.reduceEqDiff, reduceIte, wn, wd, w0, w1, w4, w7, w8, w9, wm] <;> rfl))); done) | (apply Y6; (try simp only [evs, wn, wd, w0, w1, w4, w7, w8, w9, wm]); first | exact hld)))))
   apply g_bin
   focus (apply Ev.mk; (simp only [evs, Nat.reduceEqDiff, reduceIte, wn, wd, w0, w1, w4, w7, w8, w9] <;> rfl))
   focus (apply Ev.mk; (simp only [evs, Nat.reduceEqDiff, reduceIte, wn, wd, w0, w1, w4, w7, w8, w9] <;> rfl))
   focus exact u8sub48
   focus (apply Dn.mk; (simp only [evs, Nat.reduceEqDiff, reduceIte, wn, wd, w0, w1, w4, w7, w8] <;> rfl))
   apply g_convI (w := 0)
   focus exact Rf.mk
   focus exact Rf.mk
   focus (apply Ev.mk; (simp only [evs, Nat.reduceEqDiff, reduceIte, wn, wd, w0, w1, w4, w7, w8, w9] <;> rfl))
   focus exact Om.mk rfl
   focus (apply Dn.mk; (simp only [evs, Nat.reduceEqDiff, reduceIte, wn, wd, w0, w1, w4, w7, w8] <;> rfl))
   (repeat (first | (apply G.h; constructor <;> (first | exact Zc | apply gI | ((repeat' (first | exact Y0 | apply Y1 | ((first | apply Y4 | apply Y5); simp only [evs, Nat.reduceEqDiff, reduceIte, wn, wd, w0, w1, w4, w7, w8, w9, wm] <;> rfl))); done) | (apply Y6; (try simp only [evs, wn, wd, w0, w1, w4, w7, w8, w9, wm]); first | exact r7.load1 rfl rfl rfl)))))
   apply g_bin
   focus (apply Ev.mk; (simp only [evs, Nat.reduceEqDiff, reduceIte, wn, wd, w0, w1, w4, w7, w8, w9] <;> rfl))
   focus (apply Ev.mk; (simp only [evs, Nat.reduceEqDiff, reduceIte, wn, wd, w0, w1, w4, w7, w8, w9] <;> rfl))
   focus exact i64quo48
   focus (apply Dn.mk; (simp only [evs, Nat.reduceEqDiff, reduceIte, wn, wd, w0, w1, w4, w7, w8] <;> rfl))
   (repeat (first | (apply G.h; constructor <;> (first | exact Zc | apply gI | ((repeat' (first | exact Y0 | apply Y1 | ((first | apply Y4 | apply Y5); simp only [evs, Nat.reduceEqDiff, reduceIte, wn, wd, w0, w1, w4, w7, w8, w9, wm] <;> rfl))); done) | (apply Y6; (try simp only [evs, wn, wd, w0, w1, w4, w7, w8, w9, wm]); first | exact r7.load1 rfl rfl rfl)))))
   apply g_bin
   focus (apply Ev.mk; (simp only [evs, Nat.reduceEqDiff, reduceIte, wn, wd, w0, w1, w4, w7, w8, w9] <;> rfl))
   focus (apply Ev.mk; (simp only [evs, Nat.reduceEqDiff, reduceIte, wn, wd, w0, w1, w4, w7, w8, w9] <;> rfl))
   focus exact i64mul
   focus (apply Dn.mk; (simp only [evs, Nat.reduceEqDiff, reduceIte, wn, wd, w0, w1, w4, w7, w8] <;> rfl))
   (repeat (first | (apply G.h; constructor <;> (first | exact Zc | apply gI | ((repeat' (first | exact Y0 | apply Y1 | ((first | apply Y4 | apply Y5); simp only [evs, Nat.reduceEqDiff, reduceIte, wn, wd, w0, w1, w4, w7, w8, w9, wm] <;> rfl))); done) | (apply Y6; (try simp only [evs, wn, wd, w0, w1, w4, w7, w8, w9, wm]); first | rfl)))))
   (apply g_stR <;> (first | exact Zc | apply gI | ((repeat' (first | exact Y0 | apply Y1 | exact Y2 | apply Y3 | ((first | apply Y4 | apply Y5); simp only [evs, Nat.reduceEqDiff, reduceIte, wn, wd, w0, w1, w4, w7, w8, w9, wm] <;> rfl))); done) | (apply Hy.mk; (try simp only [evs, wn, wd, w0, w1, w4, w7, w8, w9, wm]); first | exact r7 | assumption) | (apply Om.mk; first | exact r7) | (apply Y6; (try simp only [evs, wn, wd, w0, w1, w4, w7, w8, w9, wm]); first | rfl) | apply Cn.mk))
   intro m4 r8 o4 n4; simp only [evs, wn, wd, w0, w1, w4, w7, w8, w9, wm] at r8 o4 n4
   replace r8 : Row m4 (m.next + 1) [I 3, encS [], I 0, I at_] 73 0 := r8
   have r44 := r43.keep (m' := m4) (by rw [n4]; exact Nat.le_refl _) (o4 _ (by omega))
   (repeat (first | (apply G.h; constructor <;> (first | exact Zc | apply gI | ((repeat' (first | exact Y0 | apply Y1 | ((first | apply Y4 | apply Y5); simp only [evs, Nat.reduceEqDiff, reduceIte, wn, wd, w0, w1, w4, w7, w8, w9] <;> rfl))); done) | (apply Y6; (try simp only [evs, wn, wd, w0, w1, w4, w7, w8, w9]); first | rfl)))))
   refine ih false _ ⟨(by refine ⟨?_, ?_, ?_, ?_, ?_, ?_, ?_⟩ <;> (simp only [evs, Nat.reduceEqDiff, reduceIte, wn, wd, w0, w1, w4, w7, w8] <;> first | rfl | (congr 1; omega) | omega)), ?_⟩ (by decide)
   rw [if_neg (by decide)]
   exact ⟨by (simp only [evs, Nat.reduceEqDiff, reduceIte, wn, wd, w0, w1, w4, w7, w8, w9] <;> first | rfl | (congr 1; omega) | omega), by simp only [evs]; exact g3.wrote (b := m.next + 1) (by omega) o4 n4, by simp only [evs]; exact r8, by simp only [evs]; exact r44⟩
  | false =>
   rw [if_neg (by decide)] at hs
   obtain ⟨w9, hg, hr7, hr4⟩ := hs
   (repeat (first | (apply G.h; constructor <;> (first | exact Zc | apply gI | ((repeat' (first | exact Y0 | apply Y1 | ((first | apply Y4 | apply Y5); simp only [evs, Nat.reduceEqDiff, reduceIte, wn, wd, w0, w1, w4, w7, w8, w9] <;> rfl))); done) | (apply Y6; (try simp only [evs, wn, wd, w0, w1, w4, w7, w8, w9]); first | exact hr7.loadA rfl rfl rfl (Nat.le_refl 4) rfl)))))
   (apply g_stR <;> (first | exact Zc | apply gI | ((repeat' (first | exact Y0 | apply Y1 | exact Y2 | apply Y3 | ((first | apply Y4 | apply Y5); simp only [evs, Nat.reduceEqDiff, reduceIte, wn, wd, w0, w1, w4, w7, w8] <;> rfl))); done) | (apply Hy.mk; (try simp only [evs, wn, wd, w0, w1, w4, w7, w8]); first | exact hr4 | assumption) | (apply Om.mk; first | exact hr4) | (apply Y6; (try simp only [evs, wn, wd, w0, w1, w4, w7, w8]); first | rfl) | apply Cn.mk))
   intro m5 r9 o5 n5; simp only [evs, wn, wd, w0, w1, w4, w7, w8] at r9 o5 n5
   (repeat (first | (apply G.h; constructor <;> (first | exact Zc | apply gI | ((repeat' (first | exact Y0 | apply Y1 | ((first | apply Y4 | apply Y5); simp only [evs, Nat.reduceEqDiff, reduceIte, wn, wd, w0, w1, w4, w7, w8] <;> rfl))); done) | (apply Y6; (try simp only [evs, wn, wd, w0, w1, w4, w7, w8]); first | rfl)))))
   refine g_fin3c (b := m.next) (o := 0) _ (I (at_ + 1 : Nat)) (I 0) rfl ?_ ?_ (by simp only [evs]; exact r9.loadA rfl rfl rfl (Nat.le_refl 4) rfl) ?_ ?_ ?_
   ·(simp only [evs, Nat.reduceEqDiff, reduceIte, wn, wd, w0, w1, w4, w7, w8] <;> first | rfl | (congr 1; omega) | omega)
   ·(simp only [evs, Nat.reduceEqDiff, reduceIte, wn, wd, w0, w1, w4, w7, w8] <;> first | rfl | (congr 1; omega) | omega)
   ·(simp only [evs, Nat.reduceEqDiff, reduceIte, wn, wd, w0, w1, w4, w7, w8] <;> first | rfl | (congr 1; omega) | omega)
   ·(simp only [evs, Nat.reduceEqDiff, reduceIte, wn, wd, w0, w1, w4, w7, w8] <;> first | rfl | (congr 1; omega) | omega)
   ·refine ⟨?_, rfl⟩
    simp only [evs]
    exact hg.wrote (b := m.next) (Nat.le_refl _) o5 n5

set_option maxHeartbeats 2000000 in
/-- one digit alone. -/
theorem number40_49 (b off cap : Nat) (bs : List UInt8) (hl : bs.length ≤ 1000000) (at_ : Nat) (c x : UInt8) (hcv : c.toNat = 49) (m : Mem) (hB : Bts m b off bs) (hc : bs[at_]? = some c) (hx : bs[at_ + 1]? = some x) (hxd : digitN x.toNat = false) (hxl : letterN x.toNat = false) :
  Runs evEnv 40 [.slice (some ⟨b, off, none⟩) bs.length cap, I at_] m fun v m' => Grow m m' ∧ v = .tuple ⟨[.agg ⟨[I 3, encS [], I 1, I at_]⟩, I (at_ + 1 : Nat), I 0]⟩ := by
 have hat := (List.getElem?_eq_some_iff.1 hx).1
 have r4 : Row (m.new (rowObj [I 0, encS [], I 0, I 0] 73 0)) m.next [I 0, encS [], I 0, I 0] 73 0 := row_new m [I 0, encS [], I 0, I 0] 73 0
 have g1 : Grow m (m.new (rowObj [I 0, encS [], I 0, I 0] 73 0)) := (Grow.refl m).new _
 refine runs_start rfl rfl rfl rfl ?_
 (repeat (first | (apply G.h; constructor <;> (first | exact Zc | apply gI | ((repeat' (first | exact Y0 | apply Y1 | ((first | apply Y4 | apply Y5); simp only [evs, Nat.reduceEqDiff, reduceIte] <;> rfl))); done) | (apply Y6; (try simp only [evs]); first | rfl)))))
 have z7 := row_new (m.new (rowObj [I 0, encS [], I 0, I 0] 73 0)) [I 0, encS [], I 0, I 0] 73 0
 (apply g_stR <;> (first | exact Zc | apply gI | ((repeat' (first | exact Y0 | apply Y1 | exact Y2 | apply Y3 | ((first | apply Y4 | apply Y5); simp only [evs, Nat.reduceEqDiff, reduceIte] <;> rfl))); done) | (apply Hy.mk; (try simp only [evs]); first | exact z7 | assumption) | (apply Om.mk; first | exact z7) | (apply Y6; (try simp only [evs]); first | rfl) | apply Cn.mk))
 intro m3 r7 o3 n3; simp only [evs] at r7 o3 n3
 replace r7 : Row m3 (m.next + 1) [I 3, encS [], I 0, I at_] 73 0 := r7
 have g3 : Grow m m3 := g1.trans (((Grow.refl _).new _).wrote (Nat.le_refl _) o3 n3)
 have r43 : Row m3 m.next [I 0, encS [], I 0, I 0] 73 0 := r4.grow (((Grow.refl _).new _).wrote (Nat.le_refl _) o3 n3)
 have hld := (hB.grow g3).load hc
 rw [hcv] at hld
 have hlx := (hB.grow g3).load hx
 (repeat (first | (apply G.h; constructor <;> (first | exact Zc | apply gI | ((repeat' (first | exact Y0 | apply Y1 | ((first | apply Y4 | apply Y5); simp only [evs, Nat.reduceEqDiff, reduceIte] <;> rfl))); done) | (apply Y6; (try simp only [evs]); first | rfl)))))
 refine ewp_loop (ι := Bool) (fun s a => (a.n = 82 ∧ a.defers = [] ∧ a.tmp 0 = .slice (some ⟨b, off, none⟩) bs.length cap ∧ a.tmp 1 = I at_ ∧ a.tmp 4 = ptr m.next ∧ a.tmp 7 = ptr (m.next + 1) ∧ a.tmp 8 = I (if s then at_ else at_ + 1 : Nat)) ∧ a.m = m3) (fun s => if s then 1 else 0) true ?_ ?_
 ·exact ⟨(by refine ⟨?_, ?_, ?_, ?_, ?_, ?_, ?_⟩ <;> (simp only [evs, Nat.reduceEqDiff, reduceIte] <;> first | rfl | (congr 1; omega) | omega)), by (simp only [evs, Nat.reduceEqDiff, reduceIte] <;> first | rfl | (congr 1; omega) | omega)⟩
 rintro s a ⟨⟨qn, qd, q0, q1, q4, q7, q8⟩, qm⟩ ih
 cases s with
 | true =>
  rw [if_pos rfl] at q8
  (repeat (first | (apply G.h; constructor <;> (first | exact Zc | apply gI | ((repeat' (first | exact Y0 | apply Y1 | ((first | apply Y4 | apply Y5); simp only [evs, Nat.reduceEqDiff, reduceIte, qn, qd, q0, q1, q4, q7, q8, qm] <;> rfl))); done) | (apply Y6; (try simp only [evs, qn, qd, q0, q1, q4, q7, q8, qm]); first | exact hld)))))
  ((first | apply g_run | apply g_run0) <;> (first | ((repeat' (first | exact Y0 | apply Y1 | exact Y2 | apply Y3 | ((first | apply Y4 | apply Y5); simp only [evs, Nat.reduceEqDiff, reduceIte, qn, qd, q0, q1, q4, q7, q8, qm] <;> rfl))); done) | exact Rn.mk (digit45 49 _) | apply Cn.mk))
  rintro v m4 ⟨rfl, rfl⟩
  rw [show digitN 49 = true from rfl]
  (repeat (first | (apply G.h; constructor <;> (first | exact Zc | apply gI | ((repeat' (first | exact Y0 | apply Y1 | ((first | apply Y4 | apply Y5); simp only [evs, Nat.reduceEqDiff, reduceIte, qn, qd, q0, q1, q4, q7, q8, qm] <;> rfl))); done) | (apply Y6; (try simp only [evs, qn, qd, q0, q1, q4, q7, q8, qm]); first | rfl)))))
  exact ih false _ ⟨(by refine ⟨?_, ?_, ?_, ?_, ?_, ?_, ?_⟩ <;> (simp only [evs, Nat.reduceEqDiff, reduceIte, qn, qd, q0, q1, q4, q7, q8] <;> first | rfl | (congr 1; omega) | omega)), by (simp only [evs, Nat.reduceEqDiff, reduceIte, qm] <;> first | rfl | (congr 1; omega) | omega)⟩ (by decide)
 | false =>
  rw [if_neg (by decide)] at q8
  (repeat (first | (apply G.h; constructor <;> (first | exact Zc | apply gI | ((repeat' (first | exact Y0 | apply Y1 | ((first | apply Y4 | apply Y5); simp only [evs, Nat.reduceEqDiff, reduceIte, qn, qd, q0, q1, q4, q7, q8, qm] <;> rfl))); done) | (apply Y6; (try simp only [evs, qn, qd, q0, q1, q4, q7, q8, qm]); first | exact hlx)))))
  ((first | apply g_run | apply g_run0) <;> (first | ((repeat' (first | exact Y0 | apply Y1 | exact Y2 | apply Y3 | ((first | apply Y4 | apply Y5); simp only [evs, Nat.reduceEqDiff, reduceIte, qn, qd, q0, q1, q4, q7, q8, qm] <;> rfl))); done) | exact Rn.mk (digit45 x.toNat _) | apply Cn.mk))
  rintro v m4 ⟨rfl, rfl⟩
  rw [hxd]
  (repeat (first | (apply G.h; constructor <;> (first | exact Zc | apply gI | ((repeat' (first | exact Y0 | apply Y1 | ((first | apply Y4 | apply Y5); simp only [evs, Nat.reduceEqDiff, reduceIte, qn, qd, q0, q1, q4, q7, q8, qm] <;> rfl))); done) | (apply Y6; (try simp only [evs, qn, qd, q0, q1, q4, q7, q8, qm]); first | exact hld | exact hlx)))))
  ((first | apply g_run | apply g_run0) <;> (first | ((repeat' (first | exact Y0 | apply Y1 | exact Y2 | apply Y3 | ((first | apply Y4 | apply Y5); simp only [evs, Nat.reduceEqDiff, reduceIte, qn, qd, q0, q1, q4, q7, q8, qm] <;> rfl))); done) | exact Rn.mk (letter44 x.toNat _) | apply Cn.mk))
  rintro v m4 ⟨rfl, rfl⟩
  rw [hxl]
  (repeat (first | (apply G.h; constructor <;> (first | exact Zc | apply gI | ((repeat' (first | exact Y0 | apply Y1 | ((first | apply Y4 | apply Y5); simp only [evs, Nat.reduceEqDiff, reduceIte, qn, qd, q0, q1, q4, q7, q8, qm] <;> rfl))); done) | (apply Y6; (try simp only [evs, qn, qd, q0, q1, q4, q7, q8, qm]); first | rfl)))))
  clear ih
  refine ewp_loop (ι := Bool) (fun s a => (a.n = 82 ∧ a.defers = [] ∧ a.tmp 0 = .slice (some ⟨b, off, none⟩) bs.length cap ∧ a.tmp 1 = I at_ ∧ a.tmp 4 = ptr m.next ∧ a.tmp 7 = ptr (m.next + 1) ∧ a.tmp 8 = I (at_ + 1 : Nat)) ∧ (if s then a.tmp 9 = I at_ ∧ a.m = m3 else a.tmp 9 = I (at_ + 1 : Nat) ∧ Grow m a.m ∧ Row a.m (m.next + 1) [I 3, encS [], I 1, I at_] 73 0 ∧ Row a.m m.next [I 0, encS [], I 0, I 0] 73 0)) (fun s => if s then 1 else 0) true ?_ ?_
  ·exact ⟨(by refine ⟨?_, ?_, ?_, ?_, ?_, ?_, ?_⟩ <;> (simp only [evs, Nat.reduceEqDiff, reduceIte, qn, qd, q0, q1, q4, q7, q8] <;> first | rfl | (congr 1; omega) | omega)), by rw [if_pos rfl]; exact ⟨by (simp only [evs, Nat.reduceEqDiff, reduceIte, qn, qd, q0, q1, q4, q7, q8] <;> first | rfl | (congr 1; omega) | omega), by (simp only [evs, Nat.reduceEqDiff, reduceIte, qm] <;> first | rfl | (congr 1; omega) | omega)⟩⟩
  clear qn qd q0 q1 q4 q7 q8 qm
  rintro s a ⟨⟨wn, wd, w0, w1, w4, w7, w8⟩, hs⟩ ih
  cases s with
  | true =>
   rw [if_pos rfl] at hs
   obtain ⟨w9, wm⟩ := hs
   (repeat (first | (apply G.h; constructor <;> (first | exact Zc | apply gI | ((repeat' (first | exact Y0 | apply Y1 | ((first | apply Y4 | apply Y5); simp only [evs, Nat.reduceEqDiff, reduceIte, wn, wd, w0, w1, w4, w7, w8, w9, wm] <;> rfl))); done) | (apply Y6; (try simp only [evs, wn, wd, w0, w1, w4, w7, w8, w9, wm]); first | exact hld)))))
   apply g_bin
   focus (apply Ev.mk; (simp only [evs, Nat.reduceEqDiff, reduceIte, wn, wd, w0, w1, w4, w7, w8, w9] <;> rfl))
   focus (apply Ev.mk; (simp only [evs, Nat.reduceEqDiff, reduceIte, wn, wd, w0, w1, w4, w7, w8, w9] <;> rfl))
   focus exact u8sub49
   focus (apply Dn.mk; (simp only [evs, Nat.reduceEqDiff, reduceIte, wn, wd, w0, w1, w4, w7, w8] <;> rfl))
   apply g_convI (w := 1)
   focus exact Rf.mk
   focus exact Rf.mk
   focus (apply Ev.mk; (simp only [evs, Nat.reduceEqDiff, reduceIte, wn, wd, w0, w1, w4, w7, w8, w9] <;> rfl))
   focus exact Om.mk rfl
   focus (apply Dn.mk; (simp only [evs, Nat.reduceEqDiff, reduceIte, wn, wd, w0, w1, w4, w7, w8] <;> rfl))
   (repeat (first | (apply G.h; constructor <;> (first | exact Zc | apply gI | ((repeat' (first | exact Y0 | apply Y1 | ((first | apply Y4 | apply Y5); simp only [evs, Nat.reduceEqDiff, reduceIte, wn, wd, w0, w1, w4, w7, w8, w9, wm] <;> rfl))); done) | (apply Y6; (try simp only [evs, wn, wd, w0, w1, w4, w7, w8, w9, wm]); first | exact r7.load1 rfl rfl rfl)))))
   apply g_bin
   focus (apply Ev.mk; (simp only [evs, Nat.reduceEqDiff, reduceIte, wn, wd, w0, w1, w4, w7, w8, w9] <;> rfl))
   focus (apply Ev.mk; (simp only [evs, Nat.reduceEqDiff, reduceIte, wn, wd, w0, w1, w4, w7, w8, w9] <;> rfl))
   focus exact i64quo49
   focus (apply Dn.mk; (simp only [evs, Nat.reduceEqDiff, reduceIte, wn, wd, w0, w1, w4, w7, w8] <;> rfl))
   (repeat (first | (apply G.h; constructor <;> (first | exact Zc | apply gI | ((repeat' (first | exact Y0 | apply Y1 | ((first | apply Y4 | apply Y5); simp only [evs, Nat.reduceEqDiff, reduceIte, wn, wd, w0, w1, w4, w7, w8, w9, wm] <;> rfl))); done) | (apply Y6; (try simp only [evs, wn, wd, w0, w1, w4, w7, w8, w9, wm]); first | exact r7.load1 rfl rfl rfl)))))
   apply g_bin
   focus (apply Ev.mk; (simp only [evs, Nat.reduceEqDiff, reduceIte, wn, wd, w0, w1, w4, w7, w8, w9] <;> rfl))
   focus (apply Ev.mk; (simp only [evs, Nat.reduceEqDiff, reduceIte, wn, wd, w0, w1, w4, w7, w8, w9] <;> rfl))
   focus exact i64mul
   focus (apply Dn.mk; (simp only [evs, Nat.reduceEqDiff, reduceIte, wn, wd, w0, w1, w4, w7, w8] <;> rfl))
   (repeat (first | (apply G.h; constructor <;> (first | exact Zc | apply gI | ((repeat' (first | exact Y0 | apply Y1 | ((first | apply Y4 | apply Y5); simp only [evs, Nat.reduceEqDiff, reduceIte, wn, wd, w0, w1, w4, w7, w8, w9, wm] <;> rfl))); done) | (apply Y6; (try simp only [evs, wn, wd, w0, w1, w4, w7, w8, w9, wm]); first | rfl)))))
   (apply g_stR <;> (first | exact Zc | apply gI | ((repeat' (first | exact Y0 | apply Y1 | exact Y2 | apply Y3 | ((first | apply Y4 | apply Y5); simp only [evs, Nat.reduceEqDiff, reduceIte, wn, wd, w0, w1, w4, w7, w8, w9, wm] <;> rfl))); done) | (apply Hy.mk; (try simp only [evs, wn, wd, w0, w1, w4, w7, w8, w9, wm]); first | exact r7 | assumption) | (apply Om.mk; first | exact r7) | (apply Y6; (try simp only [evs, wn, wd, w0, w1, w4, w7, w8, w9, wm]); first | rfl) | apply Cn.mk))
   intro m4 r8 o4 n4; simp only [evs, wn, wd, w0, w1, w4, w7, w8, w9, wm] at r8 o4 n4
   replace r8 : Row m4 (m.next + 1) [I 3, encS [], I 1, I at_] 73 0 := r8
   have r44 := r43.keep (m' := m4) (by rw [n4]; exact Nat.le_refl _) (o4 _ (by omega))
   (repeat (first | (apply G.h; constructor <;> (first | exact Zc | apply gI | ((repeat' (first | exact Y0 | apply Y1 | ((first | apply Y4 | apply Y5); simp only [evs, Nat.reduceEqDiff, reduceIte, wn, wd, w0, w1, w4, w7, w8, w9] <;> rfl))); done) | (apply Y6; (try simp only [evs, wn, wd, w0, w1, w4, w7, w8, w9]); first | rfl)))))
   refine ih false _ ⟨(by refine ⟨?_, ?_, ?_, ?_, ?_, ?_, ?_⟩ <;> (simp only [evs, Nat.reduceEqDiff, reduceIte, wn, wd, w0, w1, w4, w7, w8] <;> first | rfl | (congr 1; omega) | omega)), ?_⟩ (by decide)
   rw [if_neg (by decide)]
   exact ⟨by (simp only [evs, Nat.reduceEqDiff, reduceIte, wn, wd, w0, w1, w4, w7, w8, w9] <;> first | rfl | (congr 1; omega) | omega), by simp only [evs]; exact g3.wrote (b := m.next + 1) (by omega) o4 n4, by simp only [evs]; exact r8, by simp only [evs]; exact r44⟩
  | false =>
   rw [if_neg (by decide)] at hs
   obtain ⟨w9, hg, hr7, hr4⟩ := hs
   (repeat (first | (apply G.h; constructor <;> (first | exact Zc | apply gI | ((repeat' (first | exact Y0 | apply Y1 | ((first | apply Y4 | apply Y5); simp only [evs, Nat.reduceEqDiff, reduceIte, wn, wd, w0, w1, w4, w7, w8, w9] <;> rfl))); done) | (apply Y6; (try simp only [evs, wn, wd, w0, w1, w4, w7, w8, w9]); first | exact hr7.loadA rfl rfl rfl (Nat.le_refl 4) rfl)))))
   (apply g_stR <;> (first | exact Zc | apply gI | ((repeat' (first | exact Y0 | apply Y1 | exact Y2 | apply Y3 | ((first | apply Y4 | apply Y5); simp only [evs, Nat.reduceEqDiff, reduceIte, wn, wd, w0, w1, w4, w7, w8] <;> rfl))); done) | (apply Hy.mk; (try simp only [evs, wn, wd, w0, w1, w4, w7, w8]); first | exact hr4 | assumption) | (apply Om.mk; first | exact hr4) | (apply Y6; (try simp only [evs, wn, wd, w0, w1, w4, w7, w8]); first | rfl) | apply Cn.mk))
   intro m5 r9 o5 n5; simp only [evs, wn, wd, w0, w1, w4, w7, w8] at r9 o5 n5
   (repeat (first | (apply G.h; constructor <;> (first | exact Zc | apply gI | ((repeat' (first | exact Y0 | apply Y1 | ((first | apply Y4 | apply Y5); simp only [evs, Nat.reduceEqDiff, reduceIte, wn, wd, w0, w1, w4, w7, w8] <;> rfl))); done) | (apply Y6; (try simp only [evs, wn, wd, w0, w1, w4, w7, w8]); first | rfl)))))
   refine g_fin3c (b := m.next) (o := 0) _ (I (at_ + 1 : Nat)) (I 0) rfl ?_ ?_ (by simp only [evs]; exact r9.loadA rfl rfl rfl (Nat.le_refl 4) rfl) ?_ ?_ ?_
   ·(simp only [evs, Nat.reduceEqDiff, reduceIte, wn, wd, w0, w1, w4, w7, w8] <;> first | rfl | (congr 1; omega) | omega)
   ·(simp only [evs, Nat.reduceEqDiff, reduceIte, wn, wd, w0, w1, w4, w7, w8] <;> first | rfl | (congr 1; omega) | omega)
   ·(simp only [evs, Nat.reduceEqDiff, reduceIte, wn, wd, w0, w1, w4, w7, w8] <;> first | rfl | (congr 1; omega) | omega)
   ·(simp only [evs, Nat.reduceEqDiff, reduceIte, wn, wd, w0, w1, w4, w7, w8] <;> first | rfl | (congr 1; omega) | omega)
   ·refine ⟨?_, rfl⟩
    simp only [evs]
    exact hg.wrote (b := m.next) (Nat.le_refl _) o5 n5
end Go.Proofs.YtihokakelnfdgaaDoor

namespace Go.Proofs.YtihokakelnfdgaaDoor
open Go Go.Ev
set_option maxRecDepth 100000
set_option linter.unusedVariables false
set_option linter.unusedSimpArgs false
set_option pp.maxSteps 1500

/-- a token. -/
structure Tn where
 kind : Nat
 text : Bs
 num : Nat
 pos : Nat
def Tn.val (t : Tn) : List Value := [I t.kind, encS t.text, I t.num, I t.pos]
def encT (l : List Tn) : List Value := l.flatMap Tn.val
theorem encT_len (l : List Tn) : (encT l).length = l.length * 4 := by
 induction l with
 | nil => rfl
 | cons x l ih => unfold encT at ih ⊢; rw [List.flatMap_cons, List.length_append, ih, List.length_cons]; show 4 + _ = _; omega
def wordC (c : UInt8) : Bool := letterN c.toNat || digitN c.toNat
def wordLen : List UInt8 → Nat
 | [] => 0
 | c :: r => if wordC c then 1 + wordLen r else 0
def noEq : List UInt8 → Bool
 | x :: _ => decide (x.toNat ≠ 61)
 | [] => true
/-- the tokens of a text of names, words, single digits and single signs, from behind blanks on. -/
def lexStep (rec : List UInt8 → Nat → Option (List Tn)) (c : UInt8) (r : List UInt8) (p : Nat) : Option (List Tn) :=
  if letterN c.toNat then
   let n := wordLen (c :: r)
   let t := (c :: r).take n
   let s := (c :: r).drop n
   (rec (s.drop (skipL false s)) (p + n + skipL false s)).map ((⟨if wordB t then 2 else 1, t, 0, p⟩ : Tn) :: ·)
  else if digitN c.toNat then
   match r with
   | [] => none
   | x :: _ => if (c.toNat = 48 ∨ c.toNat = 49) ∧ digitN x.toNat = false ∧ letterN x.toNat = false then
     (rec (r.drop (skipL false r)) (p + 1 + skipL false r)).map ((⟨3, [], c.toNat - 48, p⟩ : Tn) :: ·)
    else none
  else if c.toNat = 34 then none
  else if signsL.contains c && noEq r then
   (rec (r.drop (skipL false r)) (p + 1 + skipL false r)).map ((⟨5, [c], 0, p⟩ : Tn) :: ·)
  else none
def lexF : Nat → List UInt8 → Nat → Option (List Tn)
 | 0, [], _ => some []
 | 0, _ :: _, _ => none
 | _ + 1, [], _ => some []
 | f + 1, c :: r, p => lexStep (lexF f) c r p
theorem lexF_succ (f : Nat) (c : UInt8) (r : List UInt8) (p : Nat) : lexF (f + 1) (c :: r) p = lexStep (lexF f) c r p := rfl
theorem lexF_nil (f p : Nat) : lexF f [] p = some [] := by cases f <;> rfl
theorem lexF_zero (c : UInt8) (r : List UInt8) (p : Nat) : lexF 0 (c :: r) p = none := rfl
theorem lexF_word {f : Nat} {c : UInt8} {r : List UInt8} {p : Nat} (h : letterN c.toNat = true) : lexF (f + 1) (c :: r) p = (lexF f (((c :: r).drop (wordLen (c :: r))).drop (skipL false ((c :: r).drop (wordLen (c :: r))))) (p + wordLen (c :: r) + skipL false ((c :: r).drop (wordLen (c :: r))))).map ((⟨if wordB ((c :: r).take (wordLen (c :: r))) then 2 else 1, (c :: r).take (wordLen (c :: r)), 0, p⟩ : Tn) :: ·) := by
 rw [lexF_succ]; unfold lexStep; rw [if_pos h]
theorem lexF_digit {f : Nat} {c : UInt8} {r : List UInt8} {p : Nat} {rest : List Tn} (h : letterN c.toNat = false) (h2 : digitN c.toNat = true) (hf : lexF (f + 1) (c :: r) p = some rest) :
  ∃ x r', r = x :: r' ∧ (c.toNat = 48 ∨ c.toNat = 49) ∧ digitN x.toNat = false ∧ letterN x.toNat = false ∧ ∃ rest', rest = (⟨3, [], c.toNat - 48, p⟩ : Tn) :: rest' ∧ lexF f (r.drop (skipL false r)) (p + 1 + skipL false r) = some rest' := by
 rw [lexF_succ] at hf
 unfold lexStep at hf
 rw [if_neg (by rw [h]; simp), if_pos h2] at hf
 cases r with
 | nil => cases hf
 | cons x r' =>
  simp only at hf
  split at hf
  ·rename_i hh
   obtain ⟨rest', e1, e2⟩ := Option.map_eq_some_iff.1 hf
   exact ⟨x, r', rfl, hh.1, hh.2.1, hh.2.2, rest', e2.symm, e1⟩
  ·cases hf
theorem lexF_sign {f : Nat} {c : UInt8} {r : List UInt8} {p : Nat} {rest : List Tn} (h : letterN c.toNat = false) (h2 : digitN c.toNat = false) (hf : lexF (f + 1) (c :: r) p = some rest) :
  c.toNat ≠ 34 ∧ c ∈ signsL ∧ (∀ x r', r = x :: r' → x.toNat ≠ 61) ∧ ∃ rest', rest = (⟨5, [c], 0, p⟩ : Tn) :: rest' ∧ lexF f (r.drop (skipL false r)) (p + 1 + skipL false r) = some rest' := by
 rw [lexF_succ] at hf
 unfold lexStep at hf
 rw [if_neg (by rw [h]; simp), if_neg (by rw [h2]; simp)] at hf
 by_cases h34 : c.toNat = 34
 ·simp [h34] at hf
 ·rw [if_neg h34] at hf
  by_cases hh : (signsL.contains c && noEq r) = true
  ·rw [if_pos hh] at hf
   simp only [Bool.and_eq_true] at hh
   obtain ⟨rest', e1, e2⟩ := Option.map_eq_some_iff.1 hf
   refine ⟨h34, by simpa using hh.1, fun x r' hr => ?_, rest', e2.symm, e1⟩
   subst hr
   exact of_decide_eq_true hh.2
  ·rw [if_neg hh] at hf; cases hf
def lexM (bs : List UInt8) : Option (List Tn) := (lexF bs.length (bs.drop (skipL false bs)) (skipL false bs)).map (· ++ [⟨0, [], 0, bs.length⟩])
example : lexM [102, 110, 32, 102, 40, 41, 32, 123, 32, 118, 97, 114, 32, 122, 113, 97, 97, 32, 61, 32, 49, 59, 32, 125] = some [⟨2, [102, 110], 0, 0⟩, ⟨1, [102], 0, 3⟩, ⟨5, [40], 0, 4⟩, ⟨5, [41], 0, 5⟩, ⟨5, [123], 0, 7⟩, ⟨2, [118, 97, 114], 0, 9⟩, ⟨1, [122, 113, 97, 97], 0, 13⟩, ⟨5, [61], 0, 18⟩, ⟨3, [], 1, 20⟩, ⟨5, [59], 0, 21⟩, ⟨5, [125], 0, 23⟩, ⟨0, [], 0, 24⟩] := by rfl
theorem Sl.form2' {X : Nat → Prop} {m : Mem} {v : Value} {l : List Value} (h : Sl X m v 73 4 l) {n : Nat} (hl : l.length = n * 4) : ∃ a c, v = .slice a n c := by
 obtain ⟨a, k, c, rfl, hk⟩ := Go.Ev.Sl.form h (by decide)
 have : k = n := by omega
 exact ⟨a, c, by rw [this]⟩
theorem wordLen_le : ∀ l : List UInt8, wordLen l ≤ l.length
 | [] => Nat.le_refl _
 | c :: r => by
  rw [wordLen]
  have := wordLen_le r
  split
  ·rw [List.length_cons]; omega
  ·exact Nat.zero_le _
theorem first_ix {α : Type} [DecidableEq α] (c : α) : ∀ (l : List α), c ∈ l → ∃ j : Nat, l[j]? = some c ∧ ∀ i, i < j → l[i]? ≠ some c
 | x :: l, h => by
  by_cases hx : x = c
  ·exact ⟨0, by rw [hx]; rfl, fun i hi => by omega⟩
  ·obtain ⟨j, h1, h2⟩ := first_ix c l ((List.mem_cons.1 h).resolve_left fun e => hx e.symm)
   refine ⟨j + 1, h1, fun i hi => ?_⟩
   cases i with
   | zero => intro e; cases e; exact hx rfl
   | succ i => exact h2 i (by omega)
attribute [local irreducible] quiet allocs effect wp ret wpO Runs Act.tmp Act.eval fin results Tree.set binOp loadAt storeAt target wanted cellsFrom

set_option maxHeartbeats 2000000 in
theorem lex24 (b off cap : Nat) (bs : List UInt8) (hl : bs.length ≤ 16000) (hcap : bs.length ≤ cap) (toks : List Tn) (hM : lexM bs = some toks) (m : Mem) (hB : Bts m b off bs) :
  Runs evEnv 24 [.slice (some ⟨b, off, none⟩) bs.length cap] m fun v m' => Keep (fun c => c < m.next) [73] m m' ∧ ∃ ov, v = .tuple ⟨[ov, I 0, I bs.length]⟩ ∧ Sl (fun c => c < m.next) m' ov 73 4 (encT toks) := by
 refine runs_start rfl rfl rfl rfl ?_
 (repeat (first | (apply G.h; constructor <;> (first | exact Zc | apply gI | ((repeat' (first | exact Y0 | apply Y1 | ((first | apply Y4 | apply Y5); simp only [evs, Nat.reduceEqDiff, reduceIte] <;> rfl))); done) | (apply Y6; (try simp only [evs]); first | rfl)))))
 ((first | apply g_run | apply g_run0) <;> (first | ((repeat' (first | exact Y0 | apply Y1 | exact Y2 | apply Y3 | ((first | apply Y4 | apply Y5); simp only [evs, Nat.reduceEqDiff, reduceIte] <;> rfl))); done) | exact Rn.mk (skip36 b off cap bs (by omega) 0 (Nat.zero_le _) _ (by simp only [evs]; exact hB)) | apply Cn.mk))
 rintro v m1 ⟨rfl, rfl, hs1⟩
 rw [List.drop_zero, Nat.zero_add] at hs1 ⊢
 (repeat (first | (apply G.h; constructor <;> (first | exact Zc | apply gI | ((repeat' (first | exact Y0 | apply Y1 | ((first | apply Y4 | apply Y5); simp only [evs, Nat.reduceEqDiff, reduceIte] <;> rfl))); done) | (apply Y6; (try simp only [evs]); first | rfl)))))
 unfold lexM at hM
 obtain ⟨rest0, hr0, ht0⟩ := Option.map_eq_some_iff.1 hM
 refine ewp_loop (ι := Nat) (fun p a => (a.n = 113 ∧ a.defers = [] ∧ a.tmp 0 = .slice (some ⟨b, off, none⟩) bs.length cap ∧ a.tmp 6 = I p) ∧ p ≤ bs.length ∧ Keep (fun c => c < m.next) [73] m a.m ∧ ∃ f L rest, lexF f (bs.drop p) p = some rest ∧ toks = L ++ rest ++ [⟨0, [], 0, bs.length⟩] ∧ L.length ≤ p ∧ Sl (fun c => c < m.next) a.m (a.tmp 5) 73 4 (encT L)) (fun p => bs.length - p) (skipL false bs) ?_ ?_
 ·refine ⟨(by refine ⟨?_, ?_, ?_, ?_⟩ <;> (simp only [evs, Nat.reduceEqDiff, reduceIte] <;> first | rfl | (congr 1; omega) | omega)), hs1, by simp only [evs]; exact Keep.refl, _, [], rest0, hr0, by rw [List.nil_append]; exact ht0.symm, Nat.zero_le _, .inl ⟨by (simp only [evs, Nat.reduceEqDiff, reduceIte] <;> first | rfl | (congr 1; omega) | omega), rfl⟩⟩
 rintro p a ⟨⟨qn, qd, q0, q6⟩, hp, kk, f, L, rest, hf, htk, hLp, sL⟩ ih
 obtain ⟨oa, oc, q5⟩ := Sl.form2' sL (encT_len L)
 rw [q5] at sL
 rcases Nat.lt_or_ge p bs.length with hlt | hge
 ·obtain ⟨c, hc⟩ : ∃ c, bs[p]? = some c := ⟨_, List.getElem?_eq_getElem hlt⟩
  have hdr := drop_at hc
  rw [hdr] at hf
  cases f with
  | zero => rw [lexF_zero] at hf; cases hf
  | succ f =>
  have hB1 : Bts a.m b off bs := by
   obtain ⟨h0, n, cc, el, kd, h1, h2⟩ := hB
   exact ⟨Nat.lt_of_lt_of_le h0 kk.1, n, cc, el, kd, kk.2 _ _ h0 h1 (.inl h0), h2⟩
  have gA : Grow a.m (a.m.new (rowObj [I 0, encS [], I 0, I 0] 73 0)) := (Grow.refl _).new _
  have hld := (hB1.grow gA).load hc
  have z7 := row_new a.m [I 0, encS [], I 0, I 0] 73 0
  (repeat (first | (apply G.h; constructor <;> (first | exact Zc | apply gI | ((repeat' (first | exact Y0 | apply Y1 | ((first | apply Y4 | apply Y5); simp only [evs, Nat.reduceEqDiff, reduceIte, qn, qd, q0, q5, q6] <;> rfl))); done) | (apply Y6; (try simp only [evs, qn, qd, q0, q5, q6]); first | exact hld)))))
  ((first | apply g_run | apply g_run0) <;> (first | ((repeat' (first | exact Y0 | apply Y1 | exact Y2 | apply Y3 | ((first | apply Y4 | apply Y5); simp only [evs, Nat.reduceEqDiff, reduceIte, qn, qd, q0, q5, q6] <;> rfl))); done) | exact Rn.mk (letter44 c.toNat _) | apply Cn.mk))
  rintro v m4 ⟨rfl, rfl⟩
  cases hlet : letterN c.toNat with
  | true =>
   rw [lexF_word hlet, ← hdr] at hf
   obtain ⟨rest', hf', hre⟩ := Option.map_eq_some_iff.1 hf
   subst hre
   have hle : p + wordLen (bs.drop p) ≤ bs.length := by
    have := wordLen_le (bs.drop p)
    rw [List.length_drop] at this; omega
   have hw1 : 1 ≤ wordLen (bs.drop p) := by
    rw [hdr, wordLen, if_pos (by unfold wordC; rw [hlet]; rfl)]; omega
   (repeat (first | (apply G.h; constructor <;> (first | exact Zc | apply gI | ((repeat' (first | exact Y0 | apply Y1 | ((first | apply Y4 | apply Y5); simp only [evs, Nat.reduceEqDiff, reduceIte, qn, qd, q0, q5, q6, q5] <;> rfl))); done) | (apply Y6; (try simp only [evs, qn, qd, q0, q5, q6, q5]); first | exact hld)))))
   refine ewp_loop (ι := Nat) (fun r a' => (a'.n = 113 ∧ a'.defers = [] ∧ a'.tmp 0 = .slice (some ⟨b, off, none⟩) bs.length cap ∧ a'.tmp 5 = .slice oa L.length oc ∧ a'.tmp 6 = I p ∧ a'.tmp 7 = ptr a.m.next ∧ a'.tmp 8 = I r ∧ a'.tmp 9 = I 0) ∧ a'.m = a.m.new (rowObj [I 0, encS [], I 0, I 0] 73 0) ∧ p ≤ r ∧ r ≤ bs.length ∧ r + wordLen (bs.drop r) = p + wordLen (bs.drop p)) (fun r => bs.length - r) p ?_ ?_
   ·exact ⟨(by refine ⟨?_, ?_, ?_, ?_, ?_, ?_, ?_, ?_⟩ <;> (simp only [evs, Nat.reduceEqDiff, reduceIte, qn, qd, q0, q5, q6, q5] <;> first | rfl | (congr 1; omega) | omega)), by (simp only [evs, Nat.reduceEqDiff, reduceIte] <;> first | rfl | (congr 1; omega) | omega), Nat.le_refl _, hp, rfl⟩
   clear qn qd q0 q6 q5
   rintro r a2 ⟨⟨vn, vd, v0, v5, v6, v7, v8, v9⟩, vm, hpr, hrl, hrw⟩ ihr
   have hend : r + wordLen (bs.drop r) = r ∨ ∃ x, bs[r]? = some x ∧ wordC x = true ∧ r + 1 + wordLen (bs.drop (r + 1)) = r + wordLen (bs.drop r) := by
    rcases Nat.lt_or_ge r bs.length with h | h
    ·have hx : bs[r]? = some bs[r] := List.getElem?_eq_getElem h
     rw [drop_at hx, wordLen]
     cases hwc : wordC bs[r] with
     | true => exact .inr ⟨_, hx, hwc, by rw [if_pos rfl]; omega⟩
     | false => exact .inl (by simp)
    ·left; rw [List.drop_eq_nil_of_le h]; rfl
   rcases hend with hend | ⟨x, hx, hxw, hxn⟩
   ·clear ihr
    have hwl : r - p = wordLen (bs.drop p) := by omega
    have hrp : p + wordLen (bs.drop p) = r := by omega
    have hpr1 : p < r := by omega
    obtain ⟨n, cc, el, kd, Lc, p1, p2, p3, p4⟩ := (hB1.grow gA).part (lo := p) (hi := r) hpr hrl
    rw [hrp, ← hwl] at hf'
    have hfd : (bs.drop p).drop (r - p) = bs.drop r := by rw [List.drop_drop]; congr 1; omega
    rw [hfd] at hf'
    rw [← hwl] at htk
    generalize (bs.drop p).take (r - p) = tx at p4 htk
    have hside : r = bs.length ∨ ∃ x, bs[r]? = some x ∧ letterN x.toNat = false ∧ digitN x.toNat = false := by
     rcases Nat.lt_or_ge r bs.length with h | h
     ·have hx : bs[r]? = some bs[r] := List.getElem?_eq_getElem h
      rw [drop_at hx, wordLen] at hend
      cases hwc : wordC bs[r] with
      | true => rw [hwc, if_pos rfl] at hend; omega
      | false =>
       unfold wordC at hwc
       simp only [Bool.or_eq_false_iff] at hwc
       exact .inr ⟨_, hx, hwc.1, hwc.2⟩
     ·exact .inl (by omega)
    rcases hside with hlen | ⟨x, hx, hxl, hxd⟩
    case' inl =>
     (repeat (first | (apply G.h; constructor <;> (first | exact Zc | apply gI | ((repeat' (first | exact Y0 | apply Y1 | ((first | apply Y4 | apply Y5); simp only [evs, Nat.reduceEqDiff, reduceIte, vn, vd, v0, v5, v6, v7, v8, v9, vm] <;> rfl))); done) | (apply Y6; (try simp only [evs, vn, vd, v0, v5, v6, v7, v8, v9, vm]); first | rfl)))))
    case' inr =>
     have hlx := (hB1.grow gA).load hx
     have hrlt := (List.getElem?_eq_some_iff.1 hx).1
     (repeat (first | (apply G.h; constructor <;> (first | exact Zc | apply gI | ((repeat' (first | exact Y0 | apply Y1 | ((first | apply Y4 | apply Y5); simp only [evs, Nat.reduceEqDiff, reduceIte, vn, vd, v0, v5, v6, v7, v8, v9, vm] <;> rfl))); done) | (apply Y6; (try simp only [evs, vn, vd, v0, v5, v6, v7, v8, v9, vm]); first | exact hlx)))))
     ((first | apply g_run | apply g_run0) <;> (first | ((repeat' (first | exact Y0 | apply Y1 | exact Y2 | apply Y3 | ((first | apply Y4 | apply Y5); simp only [evs, Nat.reduceEqDiff, reduceIte, vn, vd, v0, v5, v6, v7, v8, v9, vm] <;> rfl))); done) | exact Rn.mk (letter44 x.toNat _) | apply Cn.mk))
     rintro v m4 ⟨rfl, rfl⟩
     rw [hxl]
     (repeat (first | (apply G.h; constructor <;> (first | exact Zc | apply gI | ((repeat' (first | exact Y0 | apply Y1 | ((first | apply Y4 | apply Y5); simp only [evs, Nat.reduceEqDiff, reduceIte, vn, vd, v0, v5, v6, v7, v8, v9, vm] <;> rfl))); done) | (apply Y6; (try simp only [evs, vn, vd, v0, v5, v6, v7, v8, v9, vm]); first | exact hlx)))))
     ((first | apply g_run | apply g_run0) <;> (first | ((repeat' (first | exact Y0 | apply Y1 | exact Y2 | apply Y3 | ((first | apply Y4 | apply Y5); simp only [evs, Nat.reduceEqDiff, reduceIte, vn, vd, v0, v5, v6, v7, v8, v9, vm] <;> rfl))); done) | exact Rn.mk (digit45 x.toNat _) | apply Cn.mk))
     rintro v m4 ⟨rfl, rfl⟩
     rw [hxd]
     (repeat (first | (apply G.h; constructor <;> (first | exact Zc | apply gI | ((repeat' (first | exact Y0 | apply Y1 | ((first | apply Y4 | apply Y5); simp only [evs, Nat.reduceEqDiff, reduceIte, vn, vd, v0, v5, v6, v7, v8, v9, vm] <;> rfl))); done) | (apply Y6; (try simp only [evs, vn, vd, v0, v5, v6, v7, v8, v9, vm]); first | rfl)))))
    all_goals
     (apply g_slice2 <;> (first | exact Zc | apply gI | ((repeat' (first | exact Y0 | apply Y1 | exact Y2 | apply Y3 | ((first | apply Y4 | apply Y5); simp only [evs, Nat.reduceEqDiff, reduceIte, vn, vd, v0, v5, v6, v7, v8, v9] <;> rfl))); done) | (apply Hy.mk; (try simp only [evs, vn, vd, v0, v5, v6, v7, v8, v9]); first | fail | assumption) | (apply Om.mk; first | fail) | (apply Y6; (try simp only [evs, vn, vd, v0, v5, v6, v7, v8, v9]); first | rfl) | apply Cn.mk))
     (repeat (first | (apply G.h; constructor <;> (first | exact Zc | apply gI | ((repeat' (first | exact Y0 | apply Y1 | ((first | apply Y4 | apply Y5); simp only [evs, Nat.reduceEqDiff, reduceIte, vn, vd, v0, v5, v6, v7, v8, v9] <;> rfl))); done) | (apply Y6; (try simp only [evs, vn, vd, v0, v5, v6, v7, v8, v9]); first | rfl)))))
     (apply g_bytesStr <;> (first | exact Zc | apply gI | ((repeat' (first | exact Y0 | apply Y1 | exact Y2 | apply Y3 | ((first | apply Y4 | apply Y5); simp only [evs, Nat.reduceEqDiff, reduceIte, vn, vd, v0, v5, v6, v7, v8, v9, vm] <;> rfl))); done) | (apply Hy.mk; (try simp only [evs, vn, vd, v0, v5, v6, v7, v8, v9, vm]); first | exact p1 | exact p2 | exact p3 | exact p4 | assumption) | (apply Om.mk; first | exact p1 | exact p2 | exact p3 | exact p4) | (apply Y6; (try simp only [evs, vn, vd, v0, v5, v6, v7, v8, v9, vm]); first | rfl) | apply Cn.mk))
     (repeat (first | (apply G.h; constructor <;> (first | exact Zc | apply gI | ((repeat' (first | exact Y0 | apply Y1 | ((first | apply Y4 | apply Y5); simp only [evs, Nat.reduceEqDiff, reduceIte, vn, vd, v0, v5, v6, v7, v8, v9, vm] <;> rfl))); done) | (apply Y6; (try simp only [evs, vn, vd, v0, v5, v6, v7, v8, v9, vm]); first | rfl)))))
     (apply g_stR <;> (first | exact Zc | apply gI | ((repeat' (first | exact Y0 | apply Y1 | exact Y2 | apply Y3 | ((first | apply Y4 | apply Y5); simp only [evs, Nat.reduceEqDiff, reduceIte, vn, vd, v0, v5, v6, v7, v8, v9, vm] <;> rfl))); done) | (apply Hy.mk; (try simp only [evs, vn, vd, v0, v5, v6, v7, v8, v9, vm]); first | exact z7 | assumption) | (apply Om.mk; first | exact z7) | (apply Y6; (try simp only [evs, vn, vd, v0, v5, v6, v7, v8, v9, vm]); first | rfl) | apply Cn.mk))
     intro m5 r5 o5 n5; simp only [evs, vn, vd, v0, v5, v6, v7, v8, v9, vm] at r5 o5 n5
     replace r5 : Row m5 a.m.next [I 1, encS tx, I 0, I p] 73 0 := r5
     have g45 : Grow a.m m5 := gA.wrote (b := a.m.next) (Nat.le_refl _) o5 n5
     (repeat (first | (apply G.h; constructor <;> (first | exact Zc | apply gI | ((repeat' (first | exact Y0 | apply Y1 | ((first | apply Y4 | apply Y5); simp only [evs, Nat.reduceEqDiff, reduceIte, vn, vd, v0, v5, v6, v7, v8, v9] <;> rfl))); done) | (apply Y6; (try simp only [evs, vn, vd, v0, v5, v6, v7, v8, v9]); first | exact r5.load1 rfl rfl rfl)))))
     ((first | apply g_run | apply g_run0) <;> (first | ((repeat' (first | exact Y0 | apply Y1 | exact Y2 | apply Y3 | ((first | apply Y4 | apply Y5); simp only [evs, Nat.reduceEqDiff, reduceIte, vn, vd, v0, v5, v6, v7, v8, v9] <;> rfl))); done) | exact Rn.mk (word46 tx _) | apply Cn.mk))
     rintro v m6w ⟨rfl, gw⟩
     try simp only [evs] at gw
     have r6w := r5.grow gw
     cases hwd : wordB tx
     case' true =>
      (repeat (first | (apply G.h; constructor <;> (first | exact Zc | apply gI | ((repeat' (first | exact Y0 | apply Y1 | ((first | apply Y4 | apply Y5); simp only [evs, Nat.reduceEqDiff, reduceIte, vn, vd, v0, v5, v6, v7, v8, v9] <;> rfl))); done) | (apply Y6; (try simp only [evs, vn, vd, v0, v5, v6, v7, v8, v9]); first | rfl)))))
      (apply g_stR <;> (first | exact Zc | apply gI | ((repeat' (first | exact Y0 | apply Y1 | exact Y2 | apply Y3 | ((first | apply Y4 | apply Y5); simp only [evs, Nat.reduceEqDiff, reduceIte, vn, vd, v0, v5, v6, v7, v8, v9] <;> rfl))); done) | (apply Hy.mk; (try simp only [evs, vn, vd, v0, v5, v6, v7, v8, v9]); first | exact r6w | assumption) | (apply Om.mk; first | exact r6w) | (apply Y6; (try simp only [evs, vn, vd, v0, v5, v6, v7, v8, v9]); first | rfl) | apply Cn.mk))
      intro mT rT oT nT; simp only [evs, vn, vd, v0, v5, v6, v7, v8, v9] at rT oT nT
      obtain ⟨tk, htk1⟩ : ∃ tk : Tn, tk = ⟨2, tx, 0, p⟩ := ⟨_, rfl⟩
      replace rT : Row mT a.m.next (Tn.val tk) 73 0 := by rw [htk1]; exact rT
      have htk' : toks = L ++ (tk :: rest') ++ [⟨0, [], 0, bs.length⟩] := by rw [htk, hwd, htk1]; rfl
      have gT : Grow a.m mT := (g45.trans gw).wrote (b := a.m.next) (Nat.le_refl _) oT nT
      (repeat (first | (apply G.h; constructor <;> (first | exact Zc | apply gI | ((repeat' (first | exact Y0 | apply Y1 | ((first | apply Y4 | apply Y5); simp only [evs, Nat.reduceEqDiff, reduceIte, vn, vd, v0, v5, v6, v7, v8, v9] <;> rfl))); done) | (apply Y6; (try simp only [evs, vn, vd, v0, v5, v6, v7, v8, v9]); first | rfl)))))
     case' false =>
      obtain ⟨mT, rfl⟩ : ∃ x, x = m6w := ⟨_, rfl⟩
      obtain ⟨tk, htk1⟩ : ∃ tk : Tn, tk = ⟨1, tx, 0, p⟩ := ⟨_, rfl⟩
      have rT : Row mT a.m.next (Tn.val tk) 73 0 := by rw [htk1]; exact r6w
      have htk' : toks = L ++ (tk :: rest') ++ [⟨0, [], 0, bs.length⟩] := by rw [htk, hwd, htk1]; rfl
      have gT : Grow a.m mT := g45.trans gw
      (repeat (first | (apply G.h; constructor <;> (first | exact Zc | apply gI | ((repeat' (first | exact Y0 | apply Y1 | ((first | apply Y4 | apply Y5); simp only [evs, Nat.reduceEqDiff, reduceIte, vn, vd, v0, v5, v6, v7, v8, v9] <;> rfl))); done) | (apply Y6; (try simp only [evs, vn, vd, v0, v5, v6, v7, v8, v9]); first | rfl)))))
     all_goals
      have sT := sL.grow gT
      have s5 := sT.grow ((Grow.refl mT).new (rowObj tk.val 73 0))
      have hX5 : ∀ c, c < m.next → c < (mT.new (rowObj tk.val 73 0)).next := fun c hc => Nat.lt_succ_of_lt (Nat.lt_of_lt_of_le (Nat.lt_of_lt_of_le hc kk.1) gT.1)
      have hin5 : effect.cellsIn (mT.new (rowObj tk.val 73 0)) 4 (.slice (some ⟨mT.next, 0, none⟩) 1 1) = some (1, tk.val) := cellsIn_row (kc := 1) (new := tk.val) (row_new mT tk.val 73 0) (Nat.le_refl 4) rfl
      have hlen5 : (encT L).length ≤ 100000 := by rw [encT_len]; omega
      (repeat (first | (apply G.h; constructor <;> (first | exact Zc | apply gI | ((repeat' (first | exact Y0 | apply Y1 | ((first | apply Y4 | apply Y5); simp only [evs, Nat.reduceEqDiff, reduceIte, vn, vd, v0, v5, v6, v7, v8, v9] <;> rfl))); done) | (apply Y6; (try simp only [evs, vn, vd, v0, v5, v6, v7, v8, v9]); first | exact rT.loadA rfl rfl rfl (Nat.le_refl 4) rfl)))))
      (apply g_app <;> (first | exact Zc | apply gI | ((repeat' (first | exact Y0 | apply Y1 | exact Y2 | apply Y3 | ((first | apply Y4 | apply Y5); simp only [evs, Nat.reduceEqDiff, reduceIte, vn, vd, v0, v5, v6, v7, v8, v9] <;> rfl))); done) | (apply Hy.mk; (try simp only [evs, vn, vd, v0, v5, v6, v7, v8, v9]); first | exact hin5 | exact s5 | exact hX5 | assumption) | (apply Om.mk; first | exact hin5 | exact s5 | exact hX5) | (apply Y6; (try simp only [evs, vn, vd, v0, v5, v6, v7, v8, v9]); first | rfl) | apply Cn.mk))
      intro v' m6 s6 k6 o6 b6 f6
      simp only [evs, vn, vd, v0, v5, v6, v7, v8, v9] at k6
      have K6 : Keep (fun c => c < m.next) [73] m m6 := ((kk.trans (Keep.grow gT)).trans (Keep.new _)).trans k6
      have B6 : Bts m6 b off bs := by
       obtain ⟨h0, n, cc, el, kd, h1, h2⟩ := hB
       exact ⟨Nat.lt_of_lt_of_le h0 K6.1, n, cc, el, kd, K6.2 _ _ h0 h1 (.inl h0), h2⟩
      have hS2 := skip36 b off cap bs (by omega) r hrl m6 B6
      (repeat (first | (apply G.h; constructor <;> (first | exact Zc | apply gI | ((repeat' (first | exact Y0 | apply Y1 | ((first | apply Y4 | apply Y5); simp only [evs, Nat.reduceEqDiff, reduceIte, vn, vd, v0, v5, v6, v7, v8, v9] <;> rfl))); done) | (apply Y6; (try simp only [evs, vn, vd, v0, v5, v6, v7, v8, v9]); first | rfl)))))
      ((first | apply g_run | apply g_run0) <;> (first | ((repeat' (first | exact Y0 | apply Y1 | exact Y2 | apply Y3 | ((first | apply Y4 | apply Y5); simp only [evs, Nat.reduceEqDiff, reduceIte, vn, vd, v0, v5, v6, v7, v8, v9] <;> rfl))); done) | exact Rn.mk ((by simp only [evs]; exact hS2)) | apply Cn.mk))
      rintro v m7 ⟨rfl, rfl, hs7⟩
      (repeat (first | (apply G.h; constructor <;> (first | exact Zc | apply gI | ((repeat' (first | exact Y0 | apply Y1 | ((first | apply Y4 | apply Y5); simp only [evs, Nat.reduceEqDiff, reduceIte, vn, vd, v0, v5, v6, v7, v8, v9] <;> rfl))); done) | (apply Y6; (try simp only [evs, vn, vd, v0, v5, v6, v7, v8, v9]); first | rfl)))))
      rw [List.drop_drop] at hf'
      refine ih (r + skipL false (bs.drop r)) _ ⟨(by refine ⟨?_, ?_, ?_, ?_⟩ <;> (simp only [evs, Nat.reduceEqDiff, reduceIte, vn, vd, v0, v5, v6, v7, v8, v9] <;> first | rfl | (congr 1; omega) | omega)), hs7, by simp only [evs]; exact K6, f, L ++ [tk], rest', hf', by rw [htk']; simp, by rw [List.length_append]; show L.length + 1 ≤ _; omega, ?_⟩ (by omega)
      have he : encT (L ++ [tk]) = encT L ++ tk.val := by unfold encT; rw [List.flatMap_append]; simp
      rw [he]
      simp only [evs, Nat.reduceEqDiff, reduceIte]
      exact s6
   ·have hrlt := (List.getElem?_eq_some_iff.1 hx).1
    have hlx := (hB1.grow gA).load hx
    (repeat (first | (apply G.h; constructor <;> (first | exact Zc | apply gI | ((repeat' (first | exact Y0 | apply Y1 | ((first | apply Y4 | apply Y5); simp only [evs, Nat.reduceEqDiff, reduceIte, vn, vd, v0, v5, v6, v7, v8, v9, vm] <;> rfl))); done) | (apply Y6; (try simp only [evs, vn, vd, v0, v5, v6, v7, v8, v9, vm]); first | exact hlx)))))
    ((first | apply g_run | apply g_run0) <;> (first | ((repeat' (first | exact Y0 | apply Y1 | exact Y2 | apply Y3 | ((first | apply Y4 | apply Y5); simp only [evs, Nat.reduceEqDiff, reduceIte, vn, vd, v0, v5, v6, v7, v8, v9, vm] <;> rfl))); done) | exact Rn.mk (letter44 x.toNat _) | apply Cn.mk))
    rintro v m4 ⟨rfl, rfl⟩
    cases hxl : letterN x.toNat with
    | true =>
     (repeat (first | (apply G.h; constructor <;> (first | exact Zc | apply gI | ((repeat' (first | exact Y0 | apply Y1 | ((first | apply Y4 | apply Y5); simp only [evs, Nat.reduceEqDiff, reduceIte, vn, vd, v0, v5, v6, v7, v8, v9, vm] <;> rfl))); done) | (apply Y6; (try simp only [evs, vn, vd, v0, v5, v6, v7, v8, v9, vm]); first | rfl)))))
     exact ihr (r + 1) _ ⟨(by refine ⟨?_, ?_, ?_, ?_, ?_, ?_, ?_, ?_⟩ <;> (simp only [evs, Nat.reduceEqDiff, reduceIte, vn, vd, v0, v5, v6, v7, v8, v9] <;> first | rfl | (congr 1; omega) | omega)), by (simp only [evs, Nat.reduceEqDiff, reduceIte, vm] <;> first | rfl | (congr 1; omega) | omega), by omega, hrlt, by omega⟩ (by omega)
    | false =>
     have hxd : digitN x.toNat = true := by unfold wordC at hxw; rw [hxl] at hxw; simpa using hxw
     (repeat (first | (apply G.h; constructor <;> (first | exact Zc | apply gI | ((repeat' (first | exact Y0 | apply Y1 | ((first | apply Y4 | apply Y5); simp only [evs, Nat.reduceEqDiff, reduceIte, vn, vd, v0, v5, v6, v7, v8, v9, vm] <;> rfl))); done) | (apply Y6; (try simp only [evs, vn, vd, v0, v5, v6, v7, v8, v9, vm]); first | exact hlx)))))
     ((first | apply g_run | apply g_run0) <;> (first | ((repeat' (first | exact Y0 | apply Y1 | exact Y2 | apply Y3 | ((first | apply Y4 | apply Y5); simp only [evs, Nat.reduceEqDiff, reduceIte, vn, vd, v0, v5, v6, v7, v8, v9, vm] <;> rfl))); done) | exact Rn.mk (digit45 x.toNat _) | apply Cn.mk))
     rintro v m4 ⟨rfl, rfl⟩
     rw [hxd]
     (repeat (first | (apply G.h; constructor <;> (first | exact Zc | apply gI | ((repeat' (first | exact Y0 | apply Y1 | ((first | apply Y4 | apply Y5); simp only [evs, Nat.reduceEqDiff, reduceIte, vn, vd, v0, v5, v6, v7, v8, v9, vm] <;> rfl))); done) | (apply Y6; (try simp only [evs, vn, vd, v0, v5, v6, v7, v8, v9, vm]); first | rfl)))))
     exact ihr (r + 1) _ ⟨(by refine ⟨?_, ?_, ?_, ?_, ?_, ?_, ?_, ?_⟩ <;> (simp only [evs, Nat.reduceEqDiff, reduceIte, vn, vd, v0, v5, v6, v7, v8, v9] <;> first | rfl | (congr 1; omega) | omega)), by (simp only [evs, Nat.reduceEqDiff, reduceIte, vm] <;> first | rfl | (congr 1; omega) | omega), by omega, hrlt, by omega⟩ (by omega)
  | false =>
   (repeat (first | (apply G.h; constructor <;> (first | exact Zc | apply gI | ((repeat' (first | exact Y0 | apply Y1 | ((first | apply Y4 | apply Y5); simp only [evs, Nat.reduceEqDiff, reduceIte, qn, qd, q0, q5, q6] <;> rfl))); done) | (apply Y6; (try simp only [evs, qn, qd, q0, q5, q6]); first | exact hld)))))
   ((first | apply g_run | apply g_run0) <;> (first | ((repeat' (first | exact Y0 | apply Y1 | exact Y2 | apply Y3 | ((first | apply Y4 | apply Y5); simp only [evs, Nat.reduceEqDiff, reduceIte, qn, qd, q0, q5, q6] <;> rfl))); done) | exact Rn.mk (digit45 c.toNat _) | apply Cn.mk))
   rintro v m4 ⟨rfl, rfl⟩
   cases hdig : digitN c.toNat with
   | true =>
    obtain ⟨x, r', hr, hc01, hxd, hxl, rest', rfl, hf'⟩ := lexF_digit hlet hdig hf
    have hx : bs[p + 1]? = some x := by
     have := congrArg (fun l => l[0]?) hr
     simpa [List.getElem?_drop] using this
    rcases hc01 with hcv | hcv
    ·have hS := number40_48 b off cap bs (by omega) p c x hcv (a.m.new (rowObj [I 0, encS [], I 0, I 0] 73 0)) (hB1.grow gA) hc hx hxd hxl
     (repeat (first | (apply G.h; constructor <;> (first | exact Zc | apply gI | ((repeat' (first | exact Y0 | apply Y1 | ((first | apply Y4 | apply Y5); simp only [evs, Nat.reduceEqDiff, reduceIte, qn, qd, q0, q5, q6] <;> rfl))); done) | (apply Y6; (try simp only [evs, qn, qd, q0, q5, q6]); first | exact hld)))))
     ((first | apply g_run | apply g_run0) <;> (first | ((repeat' (first | exact Y0 | apply Y1 | exact Y2 | apply Y3 | ((first | apply Y4 | apply Y5); simp only [evs, Nat.reduceEqDiff, reduceIte, qn, qd, q0, q5, q6] <;> rfl))); done) | exact Rn.mk ((by simp only [evs]; exact hS)) | apply Cn.mk))
     rintro v m5 ⟨g5, rfl⟩
     have z75 := z7.grow g5
     (repeat (first | (apply G.h; constructor <;> (first | exact Zc | apply gI | ((repeat' (first | exact Y0 | apply Y1 | ((first | apply Y4 | apply Y5); simp only [evs, Nat.reduceEqDiff, reduceIte, qn, qd, q0, q5, q6] <;> rfl))); done) | (apply Y6; (try simp only [evs, qn, qd, q0, q5, q6]); first | rfl)))))
     (apply g_stR <;> (first | exact Zc | apply gI | ((repeat' (first | exact Y0 | apply Y1 | exact Y2 | apply Y3 | ((first | apply Y4 | apply Y5); simp only [evs, Nat.reduceEqDiff, reduceIte, qn, qd, q0, q5, q6] <;> rfl))); done) | (apply Hy.mk; (try simp only [evs, qn, qd, q0, q5, q6]); first | exact z75 | assumption) | (apply Om.mk; first | exact z75) | (apply Y6; (try simp only [evs, qn, qd, q0, q5, q6]); first | rfl) | apply Cn.mk))
     intro mT rT oT nT; simp only [evs, qn, qd, q0, q5, q6] at rT oT nT
     replace rT : Row mT a.m.next (Tn.val ⟨3, [], c.toNat - 48, p⟩) 73 0 := by rw [hcv]; exact rT
     (repeat (first | (apply G.h; constructor <;> (first | exact Zc | apply gI | ((repeat' (first | exact Y0 | apply Y1 | ((first | apply Y4 | apply Y5); simp only [evs, Nat.reduceEqDiff, reduceIte, qn, qd, q0, q5, q6] <;> rfl))); done) | (apply Y6; (try simp only [evs, qn, qd, q0, q5, q6]); first | rfl)))))
     have gT : Grow a.m mT := (gA.trans g5).wrote (b := a.m.next) (Nat.le_refl _) oT nT
     obtain ⟨tk, htk1⟩ : ∃ tk : Tn, tk = ⟨3, [], c.toNat - 48, p⟩ := ⟨_, rfl⟩
     rw [← htk1] at rT htk
     obtain ⟨nx, hnx1⟩ : ∃ nx, nx = p + 1 := ⟨_, rfl⟩
     have hnxl : nx ≤ bs.length := by omega
     have hpn : p < nx := by omega
     rw [← hnx1] at hf' ⊢
     have sT := sL.grow gT
     have s5 := sT.grow ((Grow.refl mT).new (rowObj tk.val 73 0))
     have hX5 : ∀ c, c < m.next → c < (mT.new (rowObj tk.val 73 0)).next := fun c hc => Nat.lt_succ_of_lt (Nat.lt_of_lt_of_le (Nat.lt_of_lt_of_le hc kk.1) gT.1)
     have hin5 : effect.cellsIn (mT.new (rowObj tk.val 73 0)) 4 (.slice (some ⟨mT.next, 0, none⟩) 1 1) = some (1, tk.val) := cellsIn_row (kc := 1) (new := tk.val) (row_new mT tk.val 73 0) (Nat.le_refl 4) rfl
     have hlen5 : (encT L).length ≤ 100000 := by rw [encT_len]; omega
     (repeat (first | (apply G.h; constructor <;> (first | exact Zc | apply gI | ((repeat' (first | exact Y0 | apply Y1 | ((first | apply Y4 | apply Y5); simp only [evs, Nat.reduceEqDiff, reduceIte, qn, qd, q0, q5, q6, q5] <;> rfl))); done) | (apply Y6; (try simp only [evs, qn, qd, q0, q5, q6, q5]); first | exact rT.loadA rfl rfl rfl (Nat.le_refl 4) rfl)))))
     (apply g_app <;> (first | exact Zc | apply gI | ((repeat' (first | exact Y0 | apply Y1 | exact Y2 | apply Y3 | ((first | apply Y4 | apply Y5); simp only [evs, Nat.reduceEqDiff, reduceIte, qn, qd, q0, q5, q6, q5] <;> rfl))); done) | (apply Hy.mk; (try simp only [evs, qn, qd, q0, q5, q6, q5]); first | exact hin5 | exact s5 | exact hX5 | assumption) | (apply Om.mk; first | exact hin5 | exact s5 | exact hX5) | (apply Y6; (try simp only [evs, qn, qd, q0, q5, q6, q5]); first | rfl) | apply Cn.mk))
     intro v' m6 s6 k6 o6 b6 f6
     simp only [evs, qn, qd, q0, q5, q6] at k6
     have K6 : Keep (fun c => c < m.next) [73] m m6 := ((kk.trans (Keep.grow gT)).trans (Keep.new _)).trans k6
     have B6 : Bts m6 b off bs := by
      obtain ⟨h0, n, cc, el, kd, h1, h2⟩ := hB
      exact ⟨Nat.lt_of_lt_of_le h0 K6.1, n, cc, el, kd, K6.2 _ _ h0 h1 (.inl h0), h2⟩
     have hS2 := skip36 b off cap bs (by omega) nx hnxl m6 B6
     (repeat (first | (apply G.h; constructor <;> (first | exact Zc | apply gI | ((repeat' (first | exact Y0 | apply Y1 | ((first | apply Y4 | apply Y5); simp only [evs, Nat.reduceEqDiff, reduceIte, qn, qd, q0, q5, q6, q5] <;> rfl))); done) | (apply Y6; (try simp only [evs, qn, qd, q0, q5, q6, q5]); first | rfl)))))
     ((first | apply g_run | apply g_run0) <;> (first | ((repeat' (first | exact Y0 | apply Y1 | exact Y2 | apply Y3 | ((first | apply Y4 | apply Y5); simp only [evs, Nat.reduceEqDiff, reduceIte, qn, qd, q0, q5, q6, q5] <;> rfl))); done) | exact Rn.mk ((by simp only [evs]; exact hS2)) | apply Cn.mk))
     rintro v m7 ⟨rfl, rfl, hs7⟩
     (repeat (first | (apply G.h; constructor <;> (first | exact Zc | apply gI | ((repeat' (first | exact Y0 | apply Y1 | ((first | apply Y4 | apply Y5); simp only [evs, Nat.reduceEqDiff, reduceIte, qn, qd, q0, q5, q6, q5] <;> rfl))); done) | (apply Y6; (try simp only [evs, qn, qd, q0, q5, q6, q5]); first | rfl)))))
     rw [List.drop_drop] at hf'
     refine ih (nx + skipL false (bs.drop nx)) _ ⟨(by refine ⟨?_, ?_, ?_, ?_⟩ <;> (simp only [evs, Nat.reduceEqDiff, reduceIte, qn, qd, q0, q5, q6, q5] <;> first | rfl | (congr 1; omega) | omega)), hs7, by simp only [evs]; exact K6, f, L ++ [tk], rest', hf', by rw [htk]; simp, by rw [List.length_append]; show L.length + 1 ≤ _; omega, ?_⟩ (by omega)
     have he : encT (L ++ [tk]) = encT L ++ tk.val := by unfold encT; rw [List.flatMap_append]; simp
     rw [he]
     simp only [evs, Nat.reduceEqDiff, reduceIte]
     exact s6
    ·have hS := number40_49 b off cap bs (by omega) p c x hcv (a.m.new (rowObj [I 0, encS [], I 0, I 0] 73 0)) (hB1.grow gA) hc hx hxd hxl
     (repeat (first | (apply G.h; constructor <;> (first | exact Zc | apply gI | ((repeat' (first | exact Y0 | apply Y1 | ((first | apply Y4 | apply Y5); simp only [evs, Nat.reduceEqDiff, reduceIte, qn, qd, q0, q5, q6] <;> rfl))); done) | (apply Y6; (try simp only [evs, qn, qd, q0, q5, q6]); first | exact hld)))))
     ((first | apply g_run | apply g_run0) <;> (first | ((repeat' (first | exact Y0 | apply Y1 | exact Y2 | apply Y3 | ((first | apply Y4 | apply Y5); simp only [evs, Nat.reduceEqDiff, reduceIte, qn, qd, q0, q5, q6] <;> rfl))); done) | exact Rn.mk ((by simp only [evs]; exact hS)) | apply Cn.mk))
     rintro v m5 ⟨g5, rfl⟩
     have z75 := z7.grow g5
     (repeat (first | (apply G.h; constructor <;> (first | exact Zc | apply gI | ((repeat' (first | exact Y0 | apply Y1 | ((first | apply Y4 | apply Y5); simp only [evs, Nat.reduceEqDiff, reduceIte, qn, qd, q0, q5, q6] <;> rfl))); done) | (apply Y6; (try simp only [evs, qn, qd, q0, q5, q6]); first | rfl)))))
     (apply g_stR <;> (first | exact Zc | apply gI | ((repeat' (first | exact Y0 | apply Y1 | exact Y2 | apply Y3 | ((first | apply Y4 | apply Y5); simp only [evs, Nat.reduceEqDiff, reduceIte, qn, qd, q0, q5, q6] <;> rfl))); done) | (apply Hy.mk; (try simp only [evs, qn, qd, q0, q5, q6]); first | exact z75 | assumption) | (apply Om.mk; first | exact z75) | (apply Y6; (try simp only [evs, qn, qd, q0, q5, q6]); first | rfl) | apply Cn.mk))
     intro mT rT oT nT; simp only [evs, qn, qd, q0, q5, q6] at rT oT nT
     replace rT : Row mT a.m.next (Tn.val ⟨3, [], c.toNat - 48, p⟩) 73 0 := by rw [hcv]; exact rT
     (repeat (first | (apply G.h; constructor <;> (first | exact Zc | apply gI | ((repeat' (first | exact Y0 | apply Y1 | ((first | apply Y4 | apply Y5); simp only [evs, Nat.reduceEqDiff, reduceIte, qn, qd, q0, q5, q6] <;> rfl))); done) | (apply Y6; (try simp only [evs, qn, qd, q0, q5, q6]); first | rfl)))))
     have gT : Grow a.m mT := (gA.trans g5).wrote (b := a.m.next) (Nat.le_refl _) oT nT
     obtain ⟨tk, htk1⟩ : ∃ tk : Tn, tk = ⟨3, [], c.toNat - 48, p⟩ := ⟨_, rfl⟩
     rw [← htk1] at rT htk
     obtain ⟨nx, hnx1⟩ : ∃ nx, nx = p + 1 := ⟨_, rfl⟩
     have hnxl : nx ≤ bs.length := by omega
     have hpn : p < nx := by omega
     rw [← hnx1] at hf' ⊢
     have sT := sL.grow gT
     have s5 := sT.grow ((Grow.refl mT).new (rowObj tk.val 73 0))
     have hX5 : ∀ c, c < m.next → c < (mT.new (rowObj tk.val 73 0)).next := fun c hc => Nat.lt_succ_of_lt (Nat.lt_of_lt_of_le (Nat.lt_of_lt_of_le hc kk.1) gT.1)
     have hin5 : effect.cellsIn (mT.new (rowObj tk.val 73 0)) 4 (.slice (some ⟨mT.next, 0, none⟩) 1 1) = some (1, tk.val) := cellsIn_row (kc := 1) (new := tk.val) (row_new mT tk.val 73 0) (Nat.le_refl 4) rfl
     have hlen5 : (encT L).length ≤ 100000 := by rw [encT_len]; omega
     (repeat (first | (apply G.h; constructor <;> (first | exact Zc | apply gI | ((repeat' (first | exact Y0 | apply Y1 | ((first | apply Y4 | apply Y5); simp only [evs, Nat.reduceEqDiff, reduceIte, qn, qd, q0, q5, q6, q5] <;> rfl))); done) | (apply Y6; (try simp only [evs, qn, qd, q0, q5, q6, q5]); first | exact rT.loadA rfl rfl rfl (Nat.le_refl 4) rfl)))))
     (apply g_app <;> (first | exact Zc | apply gI | ((repeat' (first | exact Y0 | apply Y1 | exact Y2 | apply Y3 | ((first | apply Y4 | apply Y5); simp only [evs, Nat.reduceEqDiff, reduceIte, qn, qd, q0, q5, q6, q5] <;> rfl))); done) | (apply Hy.mk; (try simp only [evs, qn, qd, q0, q5, q6, q5]); first | exact hin5 | exact s5 | exact hX5 | assumption) | (apply Om.mk; first | exact hin5 | exact s5 | exact hX5) | (apply Y6; (try simp only [evs, qn, qd, q0, q5, q6, q5]); first | rfl) | apply Cn.mk))
     intro v' m6 s6 k6 o6 b6 f6
     simp only [evs, qn, qd, q0, q5, q6] at k6
     have K6 : Keep (fun c => c < m.next) [73] m m6 := ((kk.trans (Keep.grow gT)).trans (Keep.new _)).trans k6
     have B6 : Bts m6 b off bs := by
      obtain ⟨h0, n, cc, el, kd, h1, h2⟩ := hB
      exact ⟨Nat.lt_of_lt_of_le h0 K6.1, n, cc, el, kd, K6.2 _ _ h0 h1 (.inl h0), h2⟩
     have hS2 := skip36 b off cap bs (by omega) nx hnxl m6 B6
     (repeat (first | (apply G.h; constructor <;> (first | exact Zc | apply gI | ((repeat' (first | exact Y0 | apply Y1 | ((first | apply Y4 | apply Y5); simp only [evs, Nat.reduceEqDiff, reduceIte, qn, qd, q0, q5, q6, q5] <;> rfl))); done) | (apply Y6; (try simp only [evs, qn, qd, q0, q5, q6, q5]); first | rfl)))))
     ((first | apply g_run | apply g_run0) <;> (first | ((repeat' (first | exact Y0 | apply Y1 | exact Y2 | apply Y3 | ((first | apply Y4 | apply Y5); simp only [evs, Nat.reduceEqDiff, reduceIte, qn, qd, q0, q5, q6, q5] <;> rfl))); done) | exact Rn.mk ((by simp only [evs]; exact hS2)) | apply Cn.mk))
     rintro v m7 ⟨rfl, rfl, hs7⟩
     (repeat (first | (apply G.h; constructor <;> (first | exact Zc | apply gI | ((repeat' (first | exact Y0 | apply Y1 | ((first | apply Y4 | apply Y5); simp only [evs, Nat.reduceEqDiff, reduceIte, qn, qd, q0, q5, q6, q5] <;> rfl))); done) | (apply Y6; (try simp only [evs, qn, qd, q0, q5, q6, q5]); first | rfl)))))
     rw [List.drop_drop] at hf'
     refine ih (nx + skipL false (bs.drop nx)) _ ⟨(by refine ⟨?_, ?_, ?_, ?_⟩ <;> (simp only [evs, Nat.reduceEqDiff, reduceIte, qn, qd, q0, q5, q6, q5] <;> first | rfl | (congr 1; omega) | omega)), hs7, by simp only [evs]; exact K6, f, L ++ [tk], rest', hf', by rw [htk]; simp, by rw [List.length_append]; show L.length + 1 ≤ _; omega, ?_⟩ (by omega)
     have he : encT (L ++ [tk]) = encT L ++ tk.val := by unfold encT; rw [List.flatMap_append]; simp
     rw [he]
     simp only [evs, Nat.reduceEqDiff, reduceIte]
     exact s6
   | false =>
    obtain ⟨h34, hsg, hne, rest', rfl, hf'⟩ := lexF_sign hlet hdig hf
    obtain ⟨j, hj, hjf⟩ := first_ix c signsL hsg
    have hnx : ∀ x, bs[p + 1]? = some x → x.toNat ≠ 61 := fun x hx => hne x (bs.drop (p + 1 + 1)) (drop_at hx)
    have hS := sign42 b off cap bs (by omega) hcap p c j (a.m.new (rowObj [I 0, encS [], I 0, I 0] 73 0)) (hB1.grow gA) hc hj hjf hnx
    (repeat (first | (apply G.h; constructor <;> (first | exact Zc | apply gI | ((repeat' (first | exact Y0 | apply Y1 | ((first | apply Y4 | apply Y5); simp only [evs, Nat.reduceEqDiff, reduceIte, qn, qd, q0, q5, q6] <;> rfl))); done) | (apply Y6; (try simp only [evs, qn, qd, q0, q5, q6]); first | exact hld)))))
    ((first | apply g_run | apply g_run0) <;> (first | ((repeat' (first | exact Y0 | apply Y1 | exact Y2 | apply Y3 | ((first | apply Y4 | apply Y5); simp only [evs, Nat.reduceEqDiff, reduceIte, qn, qd, q0, q5, q6] <;> rfl))); done) | exact Rn.mk ((by simp only [evs]; exact hS)) | apply Cn.mk))
    rintro v m5 ⟨g5, rfl⟩
    have z75 := z7.grow g5
    (repeat (first | (apply G.h; constructor <;> (first | exact Zc | apply gI | ((repeat' (first | exact Y0 | apply Y1 | ((first | apply Y4 | apply Y5); simp only [evs, Nat.reduceEqDiff, reduceIte, qn, qd, q0, q5, q6] <;> rfl))); done) | (apply Y6; (try simp only [evs, qn, qd, q0, q5, q6]); first | rfl)))))
    (apply g_stR <;> (first | exact Zc | apply gI | ((repeat' (first | exact Y0 | apply Y1 | exact Y2 | apply Y3 | ((first | apply Y4 | apply Y5); simp only [evs, Nat.reduceEqDiff, reduceIte, qn, qd, q0, q5, q6] <;> rfl))); done) | (apply Hy.mk; (try simp only [evs, qn, qd, q0, q5, q6]); first | exact z75 | assumption) | (apply Om.mk; first | exact z75) | (apply Y6; (try simp only [evs, qn, qd, q0, q5, q6]); first | rfl) | apply Cn.mk))
    intro mT rT oT nT; simp only [evs, qn, qd, q0, q5, q6] at rT oT nT
    replace rT : Row mT a.m.next (Tn.val ⟨5, [c], 0, p⟩) 73 0 := rT
    have gT : Grow a.m mT := (gA.trans g5).wrote (b := a.m.next) (Nat.le_refl _) oT nT
    obtain ⟨tk, htk1⟩ : ∃ tk : Tn, tk = ⟨5, [c], 0, p⟩ := ⟨_, rfl⟩
    rw [← htk1] at rT htk
    obtain ⟨nx, hnx1⟩ : ∃ nx, nx = p + 1 := ⟨_, rfl⟩
    have hnxl : nx ≤ bs.length := by omega
    have hpn : p < nx := by omega
    rw [← hnx1] at hf' ⊢
    have sT := sL.grow gT
    have s5 := sT.grow ((Grow.refl mT).new (rowObj tk.val 73 0))
    have hX5 : ∀ c, c < m.next → c < (mT.new (rowObj tk.val 73 0)).next := fun c hc => Nat.lt_succ_of_lt (Nat.lt_of_lt_of_le (Nat.lt_of_lt_of_le hc kk.1) gT.1)
    have hin5 : effect.cellsIn (mT.new (rowObj tk.val 73 0)) 4 (.slice (some ⟨mT.next, 0, none⟩) 1 1) = some (1, tk.val) := cellsIn_row (kc := 1) (new := tk.val) (row_new mT tk.val 73 0) (Nat.le_refl 4) rfl
    have hlen5 : (encT L).length ≤ 100000 := by rw [encT_len]; omega
    (repeat (first | (apply G.h; constructor <;> (first | exact Zc | apply gI | ((repeat' (first | exact Y0 | apply Y1 | ((first | apply Y4 | apply Y5); simp only [evs, Nat.reduceEqDiff, reduceIte, qn, qd, q0, q5, q6, q5] <;> rfl))); done) | (apply Y6; (try simp only [evs, qn, qd, q0, q5, q6, q5]); first | exact rT.loadA rfl rfl rfl (Nat.le_refl 4) rfl)))))
    (apply g_app <;> (first | exact Zc | apply gI | ((repeat' (first | exact Y0 | apply Y1 | exact Y2 | apply Y3 | ((first | apply Y4 | apply Y5); simp only [evs, Nat.reduceEqDiff, reduceIte, qn, qd, q0, q5, q6, q5] <;> rfl))); done) | (apply Hy.mk; (try simp only [evs, qn, qd, q0, q5, q6, q5]); first | exact hin5 | exact s5 | exact hX5 | assumption) | (apply Om.mk; first | exact hin5 | exact s5 | exact hX5) | (apply Y6; (try simp only [evs, qn, qd, q0, q5, q6, q5]); first | rfl) | apply Cn.mk))
    intro v' m6 s6 k6 o6 b6 f6
    simp only [evs, qn, qd, q0, q5, q6] at k6
    have K6 : Keep (fun c => c < m.next) [73] m m6 := ((kk.trans (Keep.grow gT)).trans (Keep.new _)).trans k6
    have B6 : Bts m6 b off bs := by
     obtain ⟨h0, n, cc, el, kd, h1, h2⟩ := hB
     exact ⟨Nat.lt_of_lt_of_le h0 K6.1, n, cc, el, kd, K6.2 _ _ h0 h1 (.inl h0), h2⟩
    have hS2 := skip36 b off cap bs (by omega) nx hnxl m6 B6
    (repeat (first | (apply G.h; constructor <;> (first | exact Zc | apply gI | ((repeat' (first | exact Y0 | apply Y1 | ((first | apply Y4 | apply Y5); simp only [evs, Nat.reduceEqDiff, reduceIte, qn, qd, q0, q5, q6, q5] <;> rfl))); done) | (apply Y6; (try simp only [evs, qn, qd, q0, q5, q6, q5]); first | rfl)))))
    ((first | apply g_run | apply g_run0) <;> (first | ((repeat' (first | exact Y0 | apply Y1 | exact Y2 | apply Y3 | ((first | apply Y4 | apply Y5); simp only [evs, Nat.reduceEqDiff, reduceIte, qn, qd, q0, q5, q6, q5] <;> rfl))); done) | exact Rn.mk ((by simp only [evs]; exact hS2)) | apply Cn.mk))
    rintro v m7 ⟨rfl, rfl, hs7⟩
    (repeat (first | (apply G.h; constructor <;> (first | exact Zc | apply gI | ((repeat' (first | exact Y0 | apply Y1 | ((first | apply Y4 | apply Y5); simp only [evs, Nat.reduceEqDiff, reduceIte, qn, qd, q0, q5, q6, q5] <;> rfl))); done) | (apply Y6; (try simp only [evs, qn, qd, q0, q5, q6, q5]); first | rfl)))))
    rw [List.drop_drop] at hf'
    refine ih (nx + skipL false (bs.drop nx)) _ ⟨(by refine ⟨?_, ?_, ?_, ?_⟩ <;> (simp only [evs, Nat.reduceEqDiff, reduceIte, qn, qd, q0, q5, q6, q5] <;> first | rfl | (congr 1; omega) | omega)), hs7, by simp only [evs]; exact K6, f, L ++ [tk], rest', hf', by rw [htk]; simp, by rw [List.length_append]; show L.length + 1 ≤ _; omega, ?_⟩ (by omega)
    have he : encT (L ++ [tk]) = encT L ++ tk.val := by unfold encT; rw [List.flatMap_append]; simp
    rw [he]
    simp only [evs, Nat.reduceEqDiff, reduceIte]
    exact s6
 ·obtain rfl : p = bs.length := by omega
  rw [List.drop_length] at hf
  have hrest : rest = [] := by
   rw [lexF_nil] at hf; cases hf; rfl
  subst hrest
  rw [List.append_nil] at htk
  have s5 := sL.grow ((Grow.refl a.m).new (rowObj [I 0, encS [], I 0, I bs.length] 73 0))
  have hX5 : ∀ c, c < m.next → c < (a.m.new (rowObj [I 0, encS [], I 0, I bs.length] 73 0)).next := fun c hc => Nat.lt_succ_of_lt (Nat.lt_of_lt_of_le hc kk.1)
  have hin5 : effect.cellsIn (a.m.new (rowObj [I 0, encS [], I 0, I bs.length] 73 0)) 4 (.slice (some ⟨a.m.next, 0, none⟩) 1 1) = some (1, [I 0, encS [], I 0, I bs.length]) := cellsIn_row (kc := 1) (new := [I 0, encS [], I 0, I bs.length]) (row_new a.m [I 0, encS [], I 0, I bs.length] 73 0) (Nat.le_refl 4) rfl
  have hlen5 : (encT L).length ≤ 100000 := by rw [encT_len]; omega
  (repeat (first | (apply G.h; constructor <;> (first | exact Zc | apply gI | ((repeat' (first | exact Y0 | apply Y1 | ((first | apply Y4 | apply Y5); simp only [evs, Nat.reduceEqDiff, reduceIte, qn, qd, q0, q5, q6, q5] <;> rfl))); done) | (apply Y6; (try simp only [evs, qn, qd, q0, q5, q6, q5]); first | rfl)))))
  (apply g_app <;> (first | exact Zc | apply gI | ((repeat' (first | exact Y0 | apply Y1 | exact Y2 | apply Y3 | ((first | apply Y4 | apply Y5); simp only [evs, Nat.reduceEqDiff, reduceIte, qn, qd, q0, q5, q6, q5] <;> rfl))); done) | (apply Hy.mk; (try simp only [evs, qn, qd, q0, q5, q6, q5]); first | exact hin5 | exact s5 | exact hX5 | assumption) | (apply Om.mk; first | exact hin5 | exact s5 | exact hX5) | (apply Y6; (try simp only [evs, qn, qd, q0, q5, q6, q5]); first | rfl) | apply Cn.mk))
  intro v' m6 s6 k6 o6 b6 f6
  simp only [evs, qn, qd, q0, q5, q6] at k6
  (repeat (first | (apply G.h; constructor <;> (first | exact Zc | apply gI | ((repeat' (first | exact Y0 | apply Y1 | ((first | apply Y4 | apply Y5); simp only [evs, Nat.reduceEqDiff, reduceIte, qn, qd, q0, q5, q6, q5] <;> rfl))); done) | (apply Y6; (try simp only [evs, qn, qd, q0, q5, q6, q5]); first | rfl)))))
  (refine g_fin (by repeat' first | exact Rs.nil | apply Rs.cons | (apply Y4; simp only [evs, Nat.reduceEqDiff, reduceIte, qn, qd, q0, q5, q6, q5] <;> rfl)) (by (simp only [evs, Nat.reduceEqDiff, reduceIte, qn, qd, q0, q5, q6, q5] <;> first | rfl | (congr 1; omega) | omega)) ?_)
  refine ⟨by simp only [evs]; exact (kk.trans (Keep.new _)).trans k6, v', rfl, ?_⟩
  simp only [evs]
  rw [htk]
  have : encT (L ++ [⟨0, [], 0, bs.length⟩]) = encT L ++ [I 0, encS [], I 0, I bs.length] := by unfold encT; rw [List.flatMap_append]; rfl
  rw [this]
  exact s6
end Go.Proofs.YtihokakelnfdgaaDoor
