/- Part of a verified evaluator of the model's programs and of runs by it: PA PB PE. -/
import Derived.Test.YtihokakelnfdgaaDoorSE
import Derived.Test.YtihokakelnfdgaaDoorSN
import Derived.Test.YtihokakelnfdgaaDoorSP
namespace Go.Proofs.YtihokakelnfdgaaDoor
open Go Go.Ev
set_option linter.unusedVariables false
set_option linter.unusedSimpArgs false
set_option maxRecDepth 10000

/-! The programs of as many slots as may be: their nodes, and what Resolve makes of them. -/
def zqa (i : Nat) : UInt8 := UInt8.ofNat (97 + i % 26)
def zqb (i : Nat) : UInt8 := UInt8.ofNat (97 + i / 26)
def zq (i : Nat) : Bs := [122, 113, zqa i, zqb i]
theorem zqa_n (i : Nat) : (zqa i).toNat = 97 + i % 26 := by
 have := Nat.mod_lt i (show 0 < 26 by decide)
 unfold zqa
 rw [UInt8.toNat_ofNat', Nat.mod_eq_of_lt (by omega)]
theorem zqb_n {i : Nat} (h : i < 600) : (zqb i).toNat = 97 + i / 26 := by
 unfold zqb
 rw [UInt8.toNat_ofNat', Nat.mod_eq_of_lt (by omega)]
theorem zq_inj {i j : Nat} (hi : i < 600) (hj : j < 600) (h : zq i = zq j) : i = j := by
 unfold zq at h
 injection h with _ h
 injection h with _ h
 injection h with h1 h
 injection h with h2 _
 have e1 := zqa_n i
 have e2 := zqa_n j
 have e3 := zqb_n hi
 have e4 := zqb_n hj
 rw [h1] at e1
 rw [h2] at e3
 omega
theorem zq_prim (i : Nat) : primI (zq i) = none := by
 unfold primI primNames zq
 simp [idx]

def varN (i : Nat) : Nd := ⟨3, 1, zq i, 0, (9 + 14 * i : Nat)⟩
def intN (i : Nat) : Nd := ⟨14, 0, [], 1, (20 + 14 * i : Nat)⟩
/-- so many declarations, from one on. -/
def decls : Nat → Nat → List Nd
 | _, 0 => []
 | i, k + 1 => varN i :: intN i :: decls (i + 1) k
def progN (n : Nat) : List Nd := ⟨1, 1, [], 0, 0⟩ :: ⟨12, 1, [102], 0, 0⟩ :: ⟨2, n, [], 0, 7⟩ :: decls 0 n
theorem decls_len : ∀ i k : Nat, (decls i k).length = 2 * k
 | _, 0 => rfl
 | i, k + 1 => by rw [decls, List.length_cons, List.length_cons, decls_len]; omega
theorem progN_len (n : Nat) : (progN n).length = 3 + 2 * n := by
 unfold progN
 simp only [List.length_cons, decls_len]; omega
theorem decls_var : ∀ (k i j : Nat), j < k → (decls i k)[2 * j]? = some (varN (i + j))
 | 0, i, j, h => by omega
 | k + 1, i, 0, h => rfl
 | k + 1, i, j + 1, h => by
  rw [decls, show 2 * (j + 1) = 2 * j + 1 + 1 by omega, List.getElem?_cons_succ, List.getElem?_cons_succ, decls_var k (i + 1) j (by omega), show i + 1 + j = i + (j + 1) by omega]
theorem decls_int : ∀ (k i j : Nat), j < k → (decls i k)[2 * j + 1]? = some (intN (i + j))
 | 0, i, j, h => by omega
 | k + 1, i, 0, h => rfl
 | k + 1, i, j + 1, h => by
  rw [decls, show 2 * (j + 1) + 1 = 2 * j + 1 + 1 + 1 by omega, List.getElem?_cons_succ, List.getElem?_cons_succ, decls_int k (i + 1) j (by omega), show i + 1 + j = i + (j + 1) by omega]
theorem progN_var {n i : Nat} (h : i < n) : (progN n)[3 + 2 * i]? = some (varN i) := by
 unfold progN
 rw [show 3 + 2 * i = 2 * i + 1 + 1 + 1 by omega]
 simp only [List.getElem?_cons_succ]
 rw [decls_var n 0 i h, Nat.zero_add]
theorem progN_int {n i : Nat} (h : i < n) : (progN n)[4 + 2 * i]? = some (intN i) := by
 unfold progN
 rw [show 4 + 2 * i = 2 * i + 1 + 1 + 1 + 1 by omega]
 simp only [List.getElem?_cons_succ]
 rw [decls_int n 0 i h, Nat.zero_add]

/-! They are programs. -/
theorem okN_zq {i : Nat} (h : i < 600) : nameB (zq i) = true := by
 have e1 := zqa_n i
 have e2 := zqb_n h
 have := Nat.mod_lt i (show 0 < 26 by decide)
 have hw : wordB (zq i) = false := by
  unfold wordB words zq
  simp
 have hall : (List.range (zq i).length).all (goodAt (zq i)) = true := by
  rw [List.all_eq_true]
  intro j hj
  have hj : j < 4 := List.mem_range.1 hj
  have g (c : UInt8) (hc : 97 ≤ c.toNat ∧ c.toNat ≤ 122) : letterN c.toNat = true := by unfold letterN; exact decide_eq_true (.inl hc)
  rcases (show j = 0 ∨ j = 1 ∨ j = 2 ∨ j = 3 by omega) with rfl | rfl | rfl | rfl
  ·rfl
  ·rfl
  ·show (letterN (zqa i).toNat || _) = true
   rw [g _ (by omega)]; rfl
  ·show (letterN (zqb i).toNat || _) = true
   rw [g _ (by omega)]; rfl
 unfold nameB
 rw [hw, hall]; rfl
theorem okR_var {i : Nat} (h : i < 600) : okR (varN i) = true := by
 have hf : fieldsB (varN i) = nameB (zq i) := rfl
 have hc : countB (varN i) = true := rfl
 unfold okR
 rw [hf, okN_zq h, hc]; rfl
theorem accept_decls {bl : Du} {st : List (Du × Nat)} (n : Nat) (hb : bl.n = n) (hp : ∀ c, bl.pl c = 1) (h600 : n < 600) : ∀ (k c : Nat), c + k = n → accept (decls c k) ((bl, c) :: st) = accept [] st
 | 0, c, h => accept_pop _ _ _ _ (by rw [hb]; omega)
 | k + 1, c, h => by
  rw [decls, accept_cons _ _ _ _ _ (by rw [hb]; omega), hp, okR_var (by omega)]
  have h1 : mayB (varN c).kind 1 = true := rfl
  rw [h1, Bool.true_and, Bool.true_and, accept_cons _ _ _ _ _ (by show ((0 : Nat) : Int) < 1; decide)]
  have h2 : mayB (intN c).kind ((varN c).du.pl 0) = true := rfl
  have h3 : okR (intN c) = true := rfl
  rw [h2, h3, Bool.true_and, Bool.true_and, accept_pop _ _ _ _ (by rfl), accept_pop _ _ _ _ (by rfl)]
  exact accept_decls n hb hp h600 k (c + 1) (by omega)
theorem progN_ok {n : Nat} (h : n < 600) : okProg (progN n) = true := by
 unfold okProg progN
 rw [accept_cons _ _ _ _ _ (by decide)]
 have a1 : mayB 1 (root.pl 0) = true := rfl
 have a2 : okR ⟨1, 1, [], 0, 0⟩ = true := rfl
 rw [a1, a2, Bool.true_and, Bool.true_and, accept_cons _ _ _ _ _ (by decide)]
 have b1 : mayB 12 ((⟨1, 1, [], 0, 0⟩ : Nd).du.pl 0) = true := rfl
 have b2 : okR ⟨12, 1, [102], 0, 0⟩ = true := by decide +kernel
 rw [b1, b2, Bool.true_and, Bool.true_and, accept_cons _ _ _ _ _ (by decide)]
 have c1 : mayB 2 ((⟨12, 1, [102], 0, 0⟩ : Nd).du.pl 0) = true := rfl
 have c2 : okR ⟨2, n, [], 0, 7⟩ = true := by
  have : countB ⟨2, n, [], 0, 7⟩ = true := by
   unfold countB
   simp
  have h2 : fieldsB ⟨2, n, [], 0, 7⟩ = true := rfl
  unfold okR
  rw [this, h2]; rfl
 rw [c1, c2, Bool.true_and, Bool.true_and, accept_decls n rfl (fun _ => rfl) h n 0 (by omega), accept_pop _ _ _ _ (by rfl), accept_pop _ _ _ _ (by rfl), accept_pop _ _ _ _ (by rfl)]
 rfl

/-! What Resolve makes of them. -/
section
variable {n : Nat} {g : List (Bs × Nat)}
/-- behind so many declarations. -/
structure At (i : Nat) (S : MS) : Prop where
 e : S.e = 0
 pc : S.pc = 3 + 2 * i
 funs : ∃ f0 nd pr cs, S.funs = [f0, ⟨nd, pr, i, cs⟩]
 frames : ∃ sc r l cs fs, S.frames = ⟨1, sc :: r, l, cs⟩ :: fs ∧ ∀ j, i ≤ j → j < 600 → look (zq j) sc = none
theorem zlook_lay {s t : Bs} {d : Nat} (h : s ≠ t) : ∀ l : List (Bs × Nat), look s l = none → look s (lay t d l) = none
 | [], _ => by rw [lay, look, if_neg h, look]
 | (u, x) :: l, hl => by
  rw [look] at hl
  split at hl
  ·cases hl
  ·rename_i hu
   rw [lay]
   split
   ·rename_i htu
    rw [look, if_neg h]; exact hl
   ·rw [look, if_neg hu]; exact zlook_lay h l hl
theorem node_int {S : MS} {f i : Nat} (he : S.e = 0) (hpc : S.pc = 4 + 2 * i) (hi : i < n) : nodeM (progN n) g (f + 1) S = { S with pc := S.pc + 1 } := by
 rw [nodeM, if_neg (by simpa using he), hpc, progN_int hi]
 show MS.step (progN n) g (nodeM (progN n) g f) (4 + 2 * i) (intN i) _ = _
 unfold MS.step
 simp only [intN, show ¬ (14 : Int) = 19 by decide, show ¬ (14 : Int) = 2 by decide, show ¬ (14 : Int) = 3 by decide, show ¬ (14 : Int) = 12 by decide, show ¬ (14 : Int) = 31 by decide, show ¬ (14 : Int) = 4 by decide, show ¬ (14 : Int) = 11 by decide, if_false]
 unfold MS.plain
 simp only [show ¬ (14 : Int) = 6 by decide, show ¬ ((14 : Int) = 7 ∨ (14 : Int) = 8) by decide, show ¬ (14 : Int) = 9 by decide, if_false]
 rfl
theorem node_var {S : MS} {f i : Nat} (he : S.e = 0) (hpc : S.pc = 3 + 2 * i) (hi : i < n) (ht : S.topFn = 1) :
  nodeM (progN n) g (f + 1) S = (nodeM (progN n) g f (({ S with pc := S.pc + 1 } : MS).declare (zq i) (3 + 2 * i) (9 + 14 * i : Nat))).bind (zq i) S.decls.length := by
 rw [nodeM, if_neg (by simpa using he), hpc, progN_var hi]
 show MS.step (progN n) g (nodeM (progN n) g f) (3 + 2 * i) (varN i) _ = _
 unfold MS.step
 simp only [varN, show ¬ (3 : Int) = 19 by decide, show ¬ (3 : Int) = 2 by decide, if_false, if_true]
 unfold MS.variable
 rw [if_neg]
 unfold isTop
 show ¬ (decide (S.topFn = 0) && _) = true
 rw [ht]
 simp
theorem at_step {S : MS} {i : Nat} (f : Nat) (h : At i S) (hi : i < n) (hn : n < 600) (h256 : i < 256) : At (i + 1) (nodeM (progN n) g (f + 2) S) := by
 obtain ⟨he, hpc, ⟨f0, nd, pr, cs, hf⟩, sc, r, l, cs', fs, hfr, hlk⟩ := h
 have ht : S.topFn = 1 := by unfold MS.topFn; rw [hfr]
 have hs : S.topScopes = sc :: r := by unfold MS.topScopes; rw [hfr]
 have hsl : slotsOf S.funs 1 = i := by unfold slotsOf; rw [hf]; rfl
 rw [node_var he hpc hi ht]
 have hdec : ({ S with pc := S.pc + 1 } : MS).declare (zq i) (3 + 2 * i) (9 + 14 * i : Nat) = { S with pc := S.pc + 1, decls := S.decls ++ [⟨1, i, false⟩], funs := [f0, ⟨nd, pr, i + 1, cs⟩], means := S.means.set (3 + 2 * i) (some S.decls.length) } := by
  unfold MS.declare
  have h1 : MS.topFn ({ S with pc := S.pc + 1 } : MS) = 1 := ht
  have h2 : MS.topScopes ({ S with pc := S.pc + 1 } : MS) = sc :: r := hs
  simp only [h1, h2, zq_prim, headSc, hlk i (Nat.le_refl _) (by omega), hsl, Option.isSome_none, show ¬ i = 256 by omega, decide_false, MS.failIf, Bool.false_eq_true, if_false]
  simp only [hf]
  rfl
 rw [hdec, node_int (i := i) (by exact he) (by show S.pc + 1 = _; omega) hi]
 refine ⟨he, by show S.pc + 1 + 1 = _; omega, ⟨f0, nd, pr, cs, rfl⟩, ⟨lay (zq i) S.decls.length sc, r, l, cs', fs, ?_, fun j hj hj6 => zlook_lay (fun hh => by have := zq_inj hj6 (by omega) hh; omega) _ (hlk j (by omega) hj6)⟩⟩
 unfold MS.bind MS.top
 simp only [hfr]
 rfl
theorem node_bad {S : MS} {f : Nat} (h : S.e ≠ 0) : nodeM (progN n) g (f + 1) S = { S with pc := S.pc + width (progN n) S.pc } := by
 rw [nodeM, if_pos h]
theorem at_many {S : MS} (f : Nat) (h : At 256 S) (hi : 256 < n) (hn : n < 600) : (nodeM (progN n) g (f + 2) S).e = 3 ∧ (nodeM (progN n) g (f + 2) S).place = (9 + 14 * 256 : Nat) := by
 obtain ⟨he, hpc, ⟨f0, nd, pr, cs, hf⟩, sc, r, l, cs', fs, hfr, hlk⟩ := h
 have ht : S.topFn = 1 := by unfold MS.topFn; rw [hfr]
 have hs : S.topScopes = sc :: r := by unfold MS.topScopes; rw [hfr]
 have hsl : slotsOf S.funs 1 = 256 := by unfold slotsOf; rw [hf]; rfl
 rw [node_var he hpc hi ht]
 obtain ⟨q1, q2⟩ : (({ S with pc := S.pc + 1 } : MS).declare (zq 256) (3 + 2 * 256) (9 + 14 * 256 : Nat)).e = 3 ∧ (({ S with pc := S.pc + 1 } : MS).declare (zq 256) (3 + 2 * 256) (9 + 14 * 256 : Nat)).place = (9 + 14 * 256 : Nat) := by
  unfold MS.declare
  have h1 : MS.topFn ({ S with pc := S.pc + 1 } : MS) = 1 := ht
  have h2 : MS.topScopes ({ S with pc := S.pc + 1 } : MS) = sc :: r := hs
  simp only [h1, h2, zq_prim, headSc, hlk 256 (Nat.le_refl _) (by omega), hsl, Option.isSome_none, decide_true, MS.failIf, Bool.false_eq_true, if_false, if_true]
  simp only [MS.fail, he, if_true]
  exact ⟨trivial, trivial⟩
 rw [node_bad (by rw [q1]; decide)]
 exact ⟨q1, q2⟩
theorem times_bad (f : Nat) : ∀ (k : Nat) (S : MS), S.e ≠ 0 → (times (nodeM (progN n) g (f + 1)) k S).e = S.e ∧ (times (nodeM (progN n) g (f + 1)) k S).place = S.place
 | 0, S, h => ⟨rfl, rfl⟩
 | k + 1, S, h => by
  rw [times, node_bad h]
  exact times_bad f k _ h
theorem times_at (f : Nat) (hn : n < 600) (k : Nat) : ∀ (i : Nat) (S : MS), i + k ≤ n → i + k ≤ 256 → At i S → At (i + k) (times (nodeM (progN n) g (f + 2)) k S) := by
 induction k with
 | zero => intro i S _ _ h; exact h
 | succ k ih =>
  intro i S h1 h2 h
  rw [times, show i + (k + 1) = i + 1 + k by omega]
  exact ih (i + 1) _ (by omega) (by omega) (at_step f h (by omega) hn (by omega))
theorem times_split (nd : MS → MS) : ∀ (a b : Nat) (S : MS), times nd (a + b) S = times nd b (times nd a S)
 | 0, b, S => by rw [Nat.zero_add]; rfl
 | a + 1, b, S => by rw [show a + 1 + b = (a + b) + 1 by omega, times, times_split nd a b]; rfl
end
/-- the state at the first declaration. -/
def firstS (n : Nat) : MS := ⟨3, [⟨0, 0, 0, []⟩, ⟨1, 0, 0, []⟩], (List.replicate (progN n).length (0, 0)).set 1 (4, 0), [[102]], [⟨1, [[], []], 0, []⟩, ⟨0, [], 0, []⟩], List.replicate (progN n).length none, 0, 0, []⟩
def lastS (S : MS) : MS := { S.leave.leave with frames := S.leave.leave.frames.tail }
theorem walked_first (n : Nat) : walked (progN n) = lastS (times (nodeM (progN n) [([102], 1)] ((decls 0 n).length + 1)) n (firstS n)) := rfl
theorem first_at (n : Nat) : At 0 (firstS n) := ⟨rfl, rfl, ⟨_, _, _, _, rfl⟩, ⟨_, _, _, _, _, rfl, fun _ _ _ => rfl⟩⟩
theorem walked_progN {n : Nat} (h0 : 0 < n) (hn : n < 600) :
  (n ≤ 256 → (walked (progN n)).e = 0 ∧ ∃ f0 f1, (walked (progN n)).funs = [f0, f1] ∧ f1.slots = n) ∧
  (256 < n → (walked (progN n)).e = 3 ∧ (walked (progN n)).place = (9 + 14 * 256 : Nat)) := by
 have hL : ∀ S : MS, (lastS S).e = S.e ∧ (lastS S).place = S.place ∧ (lastS S).funs = S.funs := fun S => ⟨rfl, rfl, rfl⟩
 have hd : (decls 0 n).length + 1 = (2 * n - 1) + 2 := by rw [decls_len]; omega
 rw [walked_first, hd]
 obtain ⟨l1, l2, l3⟩ := hL (times (nodeM (progN n) [([102], 1)] (2 * n - 1 + 2)) n (firstS n))
 rw [l1, l2, l3]
 refine ⟨fun h => ?_, fun h => ?_⟩
 ·have hA := times_at (g := [([102], 1)]) (n := n) (2 * n - 1) hn n 0 (firstS n) (by omega) (by omega) (first_at n)
  rw [Nat.zero_add] at hA
  obtain ⟨he, -, ⟨f0, nd, pr, cs, hf⟩, -⟩ := hA
  exact ⟨he, f0, _, hf, rfl⟩
 ·have hA := times_at (g := [([102], 1)]) (n := n) (2 * n - 1) hn 256 0 (firstS n) (by omega) (by omega) (first_at n)
  rw [Nat.zero_add] at hA
  have hx : times (nodeM (progN n) [([102], 1)] (2 * n - 1 + 2)) n (firstS n) = times (nodeM (progN n) [([102], 1)] (2 * n - 1 + 2)) (n - 257) (nodeM (progN n) [([102], 1)] (2 * n - 1 + 2) (times (nodeM (progN n) [([102], 1)] (2 * n - 1 + 2)) 256 (firstS n))) := by
   have e1 : n = 256 + (1 + (n - 257)) := by omega
   generalize nodeM (progN n) [([102], 1)] (2 * n - 1 + 2) = nd
   have e2 : times nd n (firstS n) = times nd (256 + (1 + (n - 257))) (firstS n) := congrArg (fun k => times nd k (firstS n)) e1
   rw [e2, times_split, times_split]
   rfl
  rw [hx]
  obtain ⟨q1, q2⟩ := at_many (g := [([102], 1)]) (2 * n - 1) hA h hn
  obtain ⟨w1, w2⟩ := times_bad (n := n) (g := [([102], 1)]) (2 * n - 1 + 1) (n - 257) _ (by rw [q1]; decide)
  exact ⟨w1.trans q1, w2.trans q2⟩
end Go.Proofs.YtihokakelnfdgaaDoor

namespace Go.Proofs.YtihokakelnfdgaaDoor
open Go Go.Ev
set_option linter.unusedVariables false
set_option linter.unusedSimpArgs false
set_option maxRecDepth 10000

/-! The texts of these programs, and their tokens. -/
def declT (i : Nat) : Bs := [118, 97, 114, 32, 122, 113, zqa i, zqb i, 32, 61, 32, 49, 59, 32]
def tailT : Nat → Nat → Bs
 | _, 0 => [125]
 | i, k + 1 => declT i ++ tailT (i + 1) k
def srcT (n : Nat) : Bs := [102, 110, 32, 102, 40, 41, 32, 123, 32] ++ tailT 0 n
def declK (i : Nat) : List Tn := [⟨2, [118, 97, 114], 0, 9 + 14 * i⟩, ⟨1, zq i, 0, 13 + 14 * i⟩, ⟨5, [61], 0, 18 + 14 * i⟩, ⟨3, [], 1, 20 + 14 * i⟩, ⟨5, [59], 0, 21 + 14 * i⟩]
def tailK : Nat → Nat → List Tn
 | i, 0 => [⟨5, [125], 0, 9 + 14 * i⟩]
 | i, k + 1 => declK i ++ tailK (i + 1) k
def headK : List Tn := [⟨2, [102, 110], 0, 0⟩, ⟨1, [102], 0, 3⟩, ⟨5, [40], 0, 4⟩, ⟨5, [41], 0, 5⟩, ⟨5, [123], 0, 7⟩]
def toksK (n : Nat) : List Tn := headK ++ tailK 0 n ++ [⟨0, [], 0, 10 + 14 * n⟩]
theorem tailT_len : ∀ i k : Nat, (tailT i k).length = 1 + 14 * k
 | _, 0 => rfl
 | i, k + 1 => by rw [tailT, List.length_append, tailT_len]; show 14 + _ = _; omega
theorem srcT_len (n : Nat) : (srcT n).length = 10 + 14 * n := by
 unfold srcT
 rw [List.length_append, tailT_len]; show 9 + _ = _; omega
theorem lex_var (f p : Nat) (r : Bs) : lexF (f + 1) (118 :: 97 :: 114 :: 32 :: 122 :: r) p = (lexF f (122 :: r) (p + 4)).map (⟨2, [118, 97, 114], 0, p⟩ :: ·) := (lexF_word rfl).trans rfl
theorem lex_zq (f p i : Nat) (hi : i < 600) (r : Bs) : lexF (f + 1) (122 :: 113 :: zqa i :: zqb i :: 32 :: 61 :: r) p = (lexF f (61 :: r) (p + 5)).map (⟨1, zq i, 0, p⟩ :: ·) := by
 have e1 := zqa_n i
 have e2 := zqb_n hi
 have := Nat.mod_lt i (show 0 < 26 by decide)
 have g (c : UInt8) (hc : 97 ≤ c.toNat ∧ c.toNat ≤ 122) : wordC c = true := by unfold wordC letterN; rw [decide_eq_true (.inl hc)]; rfl
 have hw : wordLen (122 :: 113 :: zqa i :: zqb i :: 32 :: 61 :: r) = 4 := by
  rw [wordLen, if_pos (show wordC 122 = true from rfl), wordLen, if_pos (show wordC 113 = true from rfl), wordLen, if_pos (g _ (by omega)), wordLen, if_pos (g _ (by omega)), wordLen, if_neg (by decide)]
 have hB : wordB ([122, 113, zqa i, zqb i] : Bs) = false := by
  unfold wordB words
  simp
 rw [lexF_word rfl, hw]
 show (lexF f (61 :: r) (p + 5)).map ((⟨if wordB ([122, 113, zqa i, zqb i] : Bs) then 2 else 1, zq i, 0, p⟩ : Tn) :: ·) = _
 rw [hB]; rfl
theorem lex_eq (f p : Nat) (r : Bs) : lexF (f + 1) (61 :: 32 :: 49 :: r) p = (lexF f (49 :: r) (p + 2)).map (⟨5, [61], 0, p⟩ :: ·) := rfl
theorem lex_one (f p : Nat) (r : Bs) : lexF (f + 1) (49 :: 59 :: r) p = (lexF f (59 :: r) (p + 1)).map (⟨3, [], 1, p⟩ :: ·) := rfl
theorem skip_tail (i k : Nat) : skipL false (32 :: tailT i k) = 1 := by
 cases k <;> rfl
theorem lex_semi (f p i k : Nat) : lexF (f + 1) (59 :: 32 :: tailT i k) p = (lexF f (tailT i k) (p + 2)).map (⟨5, [59], 0, p⟩ :: ·) := by
 have : lexF (f + 1) (59 :: 32 :: tailT i k) p = (lexF f ((32 :: tailT i k).drop (skipL false (32 :: tailT i k))) (p + 1 + skipL false (32 :: tailT i k))).map (⟨5, [59], 0, p⟩ :: ·) := rfl
 rw [this, skip_tail]; rfl
theorem lex_decl (f i k : Nat) (hi : i < 600) : lexF (f + 5) (tailT i (k + 1)) (9 + 14 * i) = (lexF f (tailT (i + 1) k) (9 + 14 * (i + 1))).map (declK i ++ ·) := by
 show lexF (f + 4 + 1) (118 :: 97 :: 114 :: 32 :: 122 :: 113 :: zqa i :: zqb i :: 32 :: 61 :: 32 :: 49 :: 59 :: 32 :: tailT (i + 1) k) (9 + 14 * i) = _
 rw [lex_var, lex_zq _ _ _ hi, lex_eq, lex_one, lex_semi]
 rw [show 9 + 14 * i + 4 + 5 + 2 + 1 + 2 = 9 + 14 * (i + 1) by omega]
 cases lexF f (tailT (i + 1) k) (9 + 14 * (i + 1)) with
 | none => rfl
 | some t =>
  simp only [Option.map_some]
  rw [show 9 + 14 * i + 4 + 5 + 2 + 1 = 21 + 14 * i by omega, show 9 + 14 * i + 4 + 5 + 2 = 20 + 14 * i by omega, show 9 + 14 * i + 4 + 5 = 18 + 14 * i by omega, show 9 + 14 * i + 4 = 13 + 14 * i by omega]
  rfl
theorem lex_tail : ∀ (k i f : Nat), i + k ≤ 600 → 5 * k + 1 ≤ f → lexF f (tailT i k) (9 + 14 * i) = some (tailK i k)
 | 0, i, f, h, hf => by
  obtain ⟨f, rfl⟩ : ∃ g, f = g + 1 := ⟨f - 1, by omega⟩
  have : lexF (f + 1) (tailT i 0) (9 + 14 * i) = (lexF f [] (9 + 14 * i + 1)).map (⟨5, [125], 0, 9 + 14 * i⟩ :: ·) := rfl
  rw [this, lexF_nil]; rfl
 | k + 1, i, f, h, hf => by
  obtain ⟨f, rfl⟩ : ∃ g, f = g + 5 := ⟨f - 5, by omega⟩
  rw [lex_decl _ _ _ (by omega), lex_tail k (i + 1) f (by omega) (by omega)]
  rfl
theorem lex_src {n : Nat} (h : n ≤ 500) : lexM (srcT n) = some (toksK n) := by
 unfold lexM
 rw [srcT_len]
 have hs : skipL false (srcT n) = 0 := rfl
 rw [hs, List.drop_zero]
 obtain ⟨f, hf⟩ : ∃ f, 10 + 14 * n = f + 5 := ⟨5 + 14 * n, by omega⟩
 have e1 : ∀ (f : Nat), lexF (f + 1) (srcT n) 0 = (lexF f (102 :: 40 :: 41 :: 32 :: 123 :: 32 :: tailT 0 n) 3).map (⟨2, [102, 110], 0, 0⟩ :: ·) := fun f => (lexF_word rfl).trans rfl
 have e2 : ∀ (f : Nat), lexF (f + 1) (102 :: 40 :: 41 :: 32 :: 123 :: 32 :: tailT 0 n) 3 = (lexF f (40 :: 41 :: 32 :: 123 :: 32 :: tailT 0 n) 4).map (⟨1, [102], 0, 3⟩ :: ·) := fun f => (lexF_word rfl).trans rfl
 have e3 : ∀ (f : Nat), lexF (f + 1) (40 :: 41 :: 32 :: 123 :: 32 :: tailT 0 n) 4 = (lexF f (41 :: 32 :: 123 :: 32 :: tailT 0 n) 5).map (⟨5, [40], 0, 4⟩ :: ·) := fun f => rfl
 have e4 : ∀ (f : Nat), lexF (f + 1) (41 :: 32 :: 123 :: 32 :: tailT 0 n) 5 = (lexF f (123 :: 32 :: tailT 0 n) 7).map (⟨5, [41], 0, 5⟩ :: ·) := fun f => rfl
 have e5 : ∀ (f : Nat), lexF (f + 1) (123 :: 32 :: tailT 0 n) 7 = (lexF f (tailT 0 n) 9).map (⟨5, [123], 0, 7⟩ :: ·) := fun f => by
  have : lexF (f + 1) (123 :: 32 :: tailT 0 n) 7 = (lexF f ((32 :: tailT 0 n).drop (skipL false (32 :: tailT 0 n))) (7 + 1 + skipL false (32 :: tailT 0 n))).map (⟨5, [123], 0, 7⟩ :: ·) := rfl
  rw [this, skip_tail]; rfl
 have e6 := lex_tail n 0 f (by omega) (by omega)
 rw [hf, show f + 5 = f + 4 + 1 from rfl, e1, e2, e3, e4, e5]
 rw [show 9 + 14 * 0 = 9 from rfl] at e6
 rw [e6, ← hf]
 rfl
end Go.Proofs.YtihokakelnfdgaaDoor

namespace Go.Proofs.YtihokakelnfdgaaDoor
open Go Go.Ev
set_option maxRecDepth 100000
set_option linter.unusedVariables false
set_option linter.unusedSimpArgs false
set_option pp.maxSteps 1500

/-! These texts' tokens, one by one. -/
theorem tailK_get : ∀ (k i j q : Nat), j < k → q < 5 → (tailK i k)[5 * j + q]? = (declK (i + j))[q]?
 | 0, i, j, q, h, _ => by omega
 | k + 1, i, 0, q, h, hq => by
  rw [tailK, List.getElem?_append_left (by show 5 * 0 + q < 5; omega), Nat.mul_zero, Nat.zero_add]; rfl
 | k + 1, i, j + 1, q, h, hq => by
  rw [tailK, List.getElem?_append_right (by show 5 ≤ _; omega), show 5 * (j + 1) + q - (declK i).length = 5 * j + q by show 5 * (j + 1) + q - 5 = _; omega, tailK_get k (i + 1) j q (by omega) hq, show i + 1 + j = i + (j + 1) by omega]
theorem tailK_end : ∀ (k i : Nat), (tailK i k)[5 * k]? = some ⟨5, [125], 0, 9 + 14 * (i + k)⟩
 | 0, i => rfl
 | k + 1, i => by
  rw [tailK, List.getElem?_append_right (by show 5 ≤ _; omega), show 5 * (k + 1) - (declK i).length = 5 * k by show 5 * (k + 1) - 5 = _; omega, tailK_end k (i + 1), show i + 1 + k = i + (k + 1) by omega]
theorem tailK_len : ∀ (k i : Nat), (tailK i k).length = 5 * k + 1
 | 0, i => rfl
 | k + 1, i => by rw [tailK, List.length_append, tailK_len]; show 5 + _ = _; omega
theorem toksK_len (n : Nat) : (toksK n).length = 5 * n + 7 := by
 unfold toksK
 rw [List.length_append, List.length_append, tailK_len]
 show 5 + _ + 1 = _; omega
theorem toksK_d {n j q : Nat} (h : j < n) (hq : q < 5) : (toksK n)[5 + 5 * j + q]? = (declK j)[q]? := by
 unfold toksK
 rw [List.append_assoc, List.getElem?_append_right (by show 5 ≤ _; omega), show 5 + 5 * j + q - headK.length = 5 * j + q by show 5 + 5 * j + q - 5 = _; omega, List.getElem?_append_left (by rw [tailK_len]; omega), tailK_get n 0 j q h hq, Nat.zero_add]
theorem toksK_e (n : Nat) : (toksK n)[5 + 5 * n]? = some ⟨5, [125], 0, 9 + 14 * n⟩ := by
 unfold toksK
 rw [List.append_assoc, List.getElem?_append_right (by show 5 ≤ _; omega), show 5 + 5 * n - headK.length = 5 * n by show 5 + 5 * n - 5 = _; omega, List.getElem?_append_left (by rw [tailK_len]; omega), tailK_end n 0, Nat.zero_add]
theorem toksK_z (n : Nat) : (toksK n)[6 + 5 * n]? = some ⟨0, [], 0, 10 + 14 * n⟩ := by
 unfold toksK
 rw [List.append_assoc, List.getElem?_append_right (by show 5 ≤ _; omega), show 6 + 5 * n - headK.length = 5 * n + 1 by show 6 + 5 * n - 5 = _; omega, List.getElem?_append_right (by rw [tailK_len]; omega), tailK_len, show 5 * n + 1 - (5 * n + 1) = 0 by omega]; rfl
theorem decls_snoc : ∀ (k i : Nat), decls i (k + 1) = decls i k ++ [varN (i + k), intN (i + k)]
 | 0, i => rfl
 | k + 1, i => by rw [decls, decls_snoc k (i + 1), show i + 1 + k = i + (k + 1) by omega]; rfl
attribute [local irreducible] quiet allocs effect wp ret wpO Runs Act.tmp Act.eval fin results Tree.set binOp loadAt storeAt target wanted cellsFrom

set_option maxHeartbeats 4000000 in
/-- a declaration. -/
theorem stat25v {m : Mem} {rb tb tc i o p0 p1 p2 p3 p4 nm : Nat} {s : Bs} {K : List Tn} (hR : Rd m rb tb tc K i o) (t0 : K[i]? = some ⟨2, [118, 97, 114], 0, p0⟩) (t1 : K[i + 1]? = some ⟨1, s, 0, p1⟩) (t2 : K[i + 2]? = some ⟨5, [61], 0, p2⟩) (t3 : K[i + 3]? = some ⟨3, [], nm, p3⟩) (t4 : K[i + 4]? = some ⟨5, [59], 0, p4⟩) (hk : K.length ≤ 100000) :
  Runs evEnv 25 [ptr rb] m fun v m' => KL m.next rb m m' ∧ Rd m' rb tb tc K (i + 5) o ∧ Sl (fun c => c < m.next) m' v 43 5 (nflat [⟨3, 1, s, 0, p0⟩, ⟨14, 0, [], nm, p3⟩]) := by
 have hrb := hR.ne
 have z1 := row_new m [I 0, I 0, encS [], I 0, I 0] 43 0
 refine runs_start rfl rfl rfl rfl ?_
 (repeat (first | apply wpN_cons | apply g_next | (apply G.h; constructor <;> (first | exact Zc | apply gI | ((repeat' (first | exact Y0 | apply Y1 | ((first | apply Y4 | apply Y5); simp only [evs, Nat.reduceEqDiff, reduceIte] <;> rfl))); done) | (apply Y6; (try simp only [evs]); first | rfl)))))
 ((first | apply g_run | apply g_run0) <;> (first | ((repeat' (first | exact Y0 | apply Y1 | exact Y2 | apply Y3 | ((first | apply Y4 | apply Y5); simp only [evs, Nat.reduceEqDiff, reduceIte] <;> rfl))); done) | exact Rn.mk ((by simp only [evs]; exact at43 hR t0)) | apply Cn.mk))
 rintro v m0 ⟨rfl, e0⟩
 try simp only [evs] at e0
 replace e0 := e0.symm
 subst e0
 (repeat (first | apply wpN_cons | apply g_next | (apply G.h; constructor <;> (first | exact Zc | apply gI | ((repeat' (first | exact Y0 | apply Y1 | ((first | apply Y4 | apply Y5); simp only [evs, Nat.reduceEqDiff, reduceIte] <;> rfl))); done) | (apply Y6; (try simp only [evs]); first | rfl)))))
 (apply g_stR <;> (first | exact Zc | apply gI | ((repeat' (first | exact Y0 | apply Y1 | exact Y2 | apply Y3 | ((first | apply Y4 | apply Y5); simp only [evs, Nat.reduceEqDiff, reduceIte] <;> rfl))); done) | (apply Hy.mk; (try simp only [evs]); first | exact z1 | assumption) | (apply Om.mk; first | exact z1) | (apply Y6; (try simp only [evs]); first | rfl) | apply Cn.mk))
 intro m1 r1 o1 n1; simp only [evs] at r1 o1 n1
 replace r1 : Row m1 m.next [I 0, I 0, encS [], I 0, I p0] 43 0 := r1
 have g1 : Grow m m1 := ((Grow.refl m).new _).wrote (Nat.le_refl _) o1 n1
 have h1 := hR.grow g1
 (repeat (first | apply wpN_cons | apply g_next | (apply G.h; constructor <;> (first | exact Zc | apply gI | ((repeat' (first | exact Y0 | apply Y1 | ((first | apply Y4 | apply Y5); simp only [evs, Nat.reduceEqDiff, reduceIte] <;> rfl))); done) | (apply Y6; (try simp only [evs]); first | rfl)))))
 ((first | apply g_run | apply g_run0) <;> (first | ((repeat' (first | exact Y0 | apply Y1 | exact Y2 | apply Y3 | ((first | apply Y4 | apply Y5); simp only [evs, Nat.reduceEqDiff, reduceIte] <;> rfl))); done) | exact Rn.mk ((by simp only [evs]; exact is44 h1 t0 [123])) | apply Cn.mk))
 rintro v m2 ⟨rfl, g2⟩
 try simp only [evs] at g2
 have h2 := h1.grow g2
 rw [show isT ⟨2, [118, 97, 114], 0, p0⟩ [123] = false from rfl]
 (repeat (first | apply wpN_cons | apply g_next | (apply G.h; constructor <;> (first | exact Zc | apply gI | ((repeat' (first | exact Y0 | apply Y1 | ((first | apply Y4 | apply Y5); simp only [evs, Nat.reduceEqDiff, reduceIte] <;> rfl))); done) | (apply Y6; (try simp only [evs]); first | rfl)))))
 ((first | apply g_run | apply g_run0) <;> (first | ((repeat' (first | exact Y0 | apply Y1 | exact Y2 | apply Y3 | ((first | apply Y4 | apply Y5); simp only [evs, Nat.reduceEqDiff, reduceIte] <;> rfl))); done) | exact Rn.mk ((by simp only [evs]; exact is44 h2 t0 [105, 102])) | apply Cn.mk))
 rintro v m3 ⟨rfl, g3⟩
 try simp only [evs] at g3
 have h3 := h2.grow g3
 rw [show isT ⟨2, [118, 97, 114], 0, p0⟩ [105, 102] = false from rfl]
 (repeat (first | apply wpN_cons | apply g_next | (apply G.h; constructor <;> (first | exact Zc | apply gI | ((repeat' (first | exact Y0 | apply Y1 | ((first | apply Y4 | apply Y5); simp only [evs, Nat.reduceEqDiff, reduceIte] <;> rfl))); done) | (apply Y6; (try simp only [evs]); first | rfl)))))
 ((first | apply g_run | apply g_run0) <;> (first | ((repeat' (first | exact Y0 | apply Y1 | exact Y2 | apply Y3 | ((first | apply Y4 | apply Y5); simp only [evs, Nat.reduceEqDiff, reduceIte] <;> rfl))); done) | exact Rn.mk ((by simp only [evs]; exact is44 h3 t0 [102, 110])) | apply Cn.mk))
 rintro v m4 ⟨rfl, g4⟩
 try simp only [evs] at g4
 have h4 := h3.grow g4
 rw [show isT ⟨2, [118, 97, 114], 0, p0⟩ [102, 110] = false from rfl]
 (repeat (first | apply wpN_cons | apply g_next | (apply G.h; constructor <;> (first | exact Zc | apply gI | ((repeat' (first | exact Y0 | apply Y1 | ((first | apply Y4 | apply Y5); simp only [evs, Nat.reduceEqDiff, reduceIte] <;> rfl))); done) | (apply Y6; (try simp only [evs]); first | rfl)))))
 ((first | apply g_run | apply g_run0) <;> (first | ((repeat' (first | exact Y0 | apply Y1 | exact Y2 | apply Y3 | ((first | apply Y4 | apply Y5); simp only [evs, Nat.reduceEqDiff, reduceIte] <;> rfl))); done) | exact Rn.mk ((by simp only [evs]; exact eatT h4 t0 hk [118, 97, 114] rfl)) | apply Cn.mk))
 rintro v m5 ⟨rfl, k5, h5⟩
 try simp only [evs] at k5
 (repeat (first | apply wpN_cons | apply g_next | (apply G.h; constructor <;> (first | exact Zc | apply gI | ((repeat' (first | exact Y0 | apply Y1 | ((first | apply Y4 | apply Y5); simp only [evs, Nat.reduceEqDiff, reduceIte] <;> rfl))); done) | (apply Y6; (try simp only [evs]); first | rfl)))))
 ((first | apply g_run | apply g_run0) <;> (first | ((repeat' (first | exact Y0 | apply Y1 | exact Y2 | apply Y3 | ((first | apply Y4 | apply Y5); simp only [evs, Nat.reduceEqDiff, reduceIte] <;> rfl))); done) | exact Rn.mk ((by simp only [evs]; exact name47 h5 t1 hk rfl)) | apply Cn.mk))
 rintro v m6 ⟨rfl, k6, h6⟩
 try simp only [evs] at k6
 have g14 : Grow m1 m4 := g2.trans (g3.trans g4)
 have k16 : KR rb m1 m6 := (Keep.grow g14).trans (k5.trans k6)
 have r6 := r1.stay k16 (.inr (by decide))
 (repeat (first | apply wpN_cons | apply g_next | (apply G.h; constructor <;> (first | exact Zc | apply gI | ((repeat' (first | exact Y0 | apply Y1 | ((first | apply Y4 | apply Y5); simp only [evs, Nat.reduceEqDiff, reduceIte] <;> rfl))); done) | (apply Y6; (try simp only [evs]); first | rfl)))))
 (apply g_stR <;> (first | exact Zc | apply gI | ((repeat' (first | exact Y0 | apply Y1 | exact Y2 | apply Y3 | ((first | apply Y4 | apply Y5); simp only [evs, Nat.reduceEqDiff, reduceIte] <;> rfl))); done) | (apply Hy.mk; (try simp only [evs]); first | exact r6 | assumption) | (apply Om.mk; first | exact r6) | (apply Y6; (try simp only [evs]); first | rfl) | apply Cn.mk))
 intro m7 r7 o7 n7; simp only [evs] at r7 o7 n7
 replace r7 : Row m7 m.next [I 3, I 0, encS [], I 0, I p0] 43 0 := r7
 (repeat (first | apply wpN_cons | apply g_next | (apply G.h; constructor <;> (first | exact Zc | apply gI | ((repeat' (first | exact Y0 | apply Y1 | ((first | apply Y4 | apply Y5); simp only [evs, Nat.reduceEqDiff, reduceIte] <;> rfl))); done) | (apply Y6; (try simp only [evs]); first | rfl)))))
 (apply g_stR <;> (first | exact Zc | apply gI | ((repeat' (first | exact Y0 | apply Y1 | exact Y2 | apply Y3 | ((first | apply Y4 | apply Y5); simp only [evs, Nat.reduceEqDiff, reduceIte] <;> rfl))); done) | (apply Hy.mk; (try simp only [evs]); first | exact r7 | assumption) | (apply Om.mk; first | exact r7) | (apply Y6; (try simp only [evs]); first | rfl) | apply Cn.mk))
 intro m8 r8 o8 n8; simp only [evs] at r8 o8 n8
 replace r8 : Row m8 m.next [I 3, I 0, encS s, I 0, I p0] 43 0 := r8
 have k78 : KL m.next rb m6 m8 := (Keep.row r6 (fun hh => Nat.lt_irrefl _ hh.1) (by decide) o7 n7).trans (Keep.row r7 (fun hh => Nat.lt_irrefl _ hh.1) (by decide) o8 n8)
 have k8 : KL m.next rb m m8 := (Keep.grow g1).trans (k16.kl.trans k78)
 have h8 : Rd m8 rb tb tc K (i + 1 + 1) o := by
  have w := h6.row
  have w7 : Row m7 rb _ 71 0 := w.keep (Nat.le_of_eq n7.symm) (o7 _ (by omega))
  exact ⟨w7.keep (Nat.le_of_eq n8.symm) (o8 _ (by omega)), h6.tk.any k78 (by decide)⟩
 (repeat (first | apply wpN_cons | apply g_next | (apply G.h; constructor <;> (first | exact Zc | apply gI | ((repeat' (first | exact Y0 | apply Y1 | ((first | apply Y4 | apply Y5); simp only [evs, Nat.reduceEqDiff, reduceIte] <;> rfl))); done) | (apply Y6; (try simp only [evs]); first | rfl)))))
 ((first | apply g_run | apply g_run0) <;> (first | ((repeat' (first | exact Y0 | apply Y1 | exact Y2 | apply Y3 | ((first | apply Y4 | apply Y5); simp only [evs, Nat.reduceEqDiff, reduceIte] <;> rfl))); done) | exact Rn.mk ((by simp only [evs]; exact want50 h8 t2 hk [61] rfl)) | apply Cn.mk))
 rintro v m9 ⟨k9, h9⟩
 try simp only [evs] at k9
 have r9 := r8.stay k9 (.inr (by decide))
 (repeat (first | apply wpN_cons | apply g_next | (apply G.h; constructor <;> (first | exact Zc | apply gI | ((repeat' (first | exact Y0 | apply Y1 | ((first | apply Y4 | apply Y5); simp only [evs, Nat.reduceEqDiff, reduceIte] <;> rfl))); done) | (apply Y6; (try simp only [evs]); first | rfl)))))
 ((first | apply g_run | apply g_run0) <;> (first | ((repeat' (first | exact Y0 | apply Y1 | exact Y2 | apply Y3 | ((first | apply Y4 | apply Y5); simp only [evs, Nat.reduceEqDiff, reduceIte] <;> rfl))); done) | exact Rn.mk ((by simp only [evs]; exact expr51 h9 t3 t4 hk rfl)) | apply Cn.mk))
 rintro v m10 ⟨k10, h10, s10⟩
 try simp only [evs] at k10 s10
 have r10 := r9.over k10 h9.row (by decide)
 (repeat (first | apply wpN_cons | apply g_next | (apply G.h; constructor <;> (first | exact Zc | apply gI | ((repeat' (first | exact Y0 | apply Y1 | ((first | apply Y4 | apply Y5); simp only [evs, Nat.reduceEqDiff, reduceIte] <;> rfl))); done) | (apply Y6; (try simp only [evs]); first | rfl)))))
 ((first | apply g_run | apply g_run0) <;> (first | ((repeat' (first | exact Y0 | apply Y1 | exact Y2 | apply Y3 | ((first | apply Y4 | apply Y5); simp only [evs, Nat.reduceEqDiff, reduceIte] <;> rfl))); done) | exact Rn.mk ((by simp only [evs]; exact want50 h10 t4 hk [59] rfl)) | apply Cn.mk))
 rintro v2 m11 ⟨k11, h11⟩
 try simp only [evs] at k11
 have r11 := r10.stay k11 (.inr (by decide))
 have s11 := s10.any k11 (by decide)
 (repeat (first | apply wpN_cons | apply g_next | (apply G.h; constructor <;> (first | exact Zc | apply gI | ((repeat' (first | exact Y0 | apply Y1 | ((first | apply Y4 | apply Y5); simp only [evs, Nat.reduceEqDiff, reduceIte] <;> rfl))); done) | (apply Y6; (try simp only [evs]); first | exact r11.loadA (k := 5) rfl rfl rfl (Nat.le_refl 5) rfl)))))
 ((first | apply g_run | apply g_run0) <;> (first | ((repeat' (first | exact Y0 | apply Y1 | exact Y2 | apply Y3 | ((first | apply Y4 | apply Y5); simp only [evs, Nat.reduceEqDiff, reduceIte] <;> rfl))); done) | exact Rn.mk ((by simp only [evs]; exact join26 ⟨3, 0, s, 0, p0⟩ 1 [⟨14, 0, [], nm, p3⟩] (Nat.le_refl 1) (Nat.le_of_ble_eq_true rfl) s11)) | apply Cn.mk))
 rintro v3 m12 ⟨k12, s12⟩
 try simp only [evs] at k12 s12
 (repeat (first | apply wpN_cons | apply g_next | (apply G.h; constructor <;> (first | exact Zc | apply gI | ((repeat' (first | exact Y0 | apply Y1 | ((first | apply Y4 | apply Y5); simp only [evs, Nat.reduceEqDiff, reduceIte] <;> rfl))); done) | (apply Y6; (try simp only [evs]); first | rfl)))))
 (refine g_fin (by repeat' first | exact Rs.nil | apply Rs.cons | (apply Y4; simp only [evs, Nat.reduceEqDiff, reduceIte] <;> rfl)) (by (simp only [evs, Nat.reduceEqDiff, reduceIte] <;> first | rfl | (congr 1; omega) | omega)) ?_)
 have n8' := k8.1
 have n9' := k9.1
 have n10' := k10.1
 have n11' := k11.1
 have k8b : KL m.next rb m m11 := k8.trans (k9.kl.trans ((k10.up (Nat.le_trans n8' n9')).trans k11.kl))
 refine ⟨by simp only [evs]; exact k8b.trans k12.all, ?_, ?_⟩
 ·simp only [evs]
  exact ⟨h11.row.stay (k12.all (X' := fun _ => True) (T' := [])) (.inl trivial), h11.tk.any (k12.all (X' := fun _ => True) (T' := [])) (by decide)⟩
 ·simp only [evs]
  exact s12.sub fun b _ hn hb => hn (Nat.lt_of_lt_of_le hb (by omega))

set_option maxHeartbeats 4000000 in
/-- the block of the declarations. -/
theorem block45 {m : Mem} {rb tb tc o n : Nat} (hn0 : 0 < n) (hn : n ≤ 500) (ho : o ≤ 60) (hR : Rd m rb tb tc (toksK n) 4 o) :
  Runs evEnv 45 [ptr rb] m fun v m' => KL m.next rb m m' ∧ Rd m' rb tb tc (toksK n) (6 + 5 * n) o ∧ Sl (fun c => c < m.next) m' v 43 5 (nflat (⟨2, n, [], 0, 7⟩ :: decls 0 n)) := by
 have hk : (toksK n).length ≤ 100000 := by rw [toksK_len]; omega
 have t0 : (toksK n)[4]? = some ⟨5, [123], 0, 7⟩ := rfl
 have te := toksK_e n
 have hrb := hR.ne
 have z1 := row_new m [I 0, I 0, encS [], I 0, I 0] 43 0
 refine runs_start rfl rfl rfl rfl ?_
 (repeat (first | apply wpN_cons | apply g_next | (apply G.h; constructor <;> (first | exact Zc | apply gI | ((repeat' (first | exact Y0 | apply Y1 | ((first | apply Y4 | apply Y5); simp only [evs, Nat.reduceEqDiff, reduceIte] <;> rfl))); done) | (apply Y6; (try simp only [evs]); first | rfl)))))
 ((first | apply g_run | apply g_run0) <;> (first | ((repeat' (first | exact Y0 | apply Y1 | exact Y2 | apply Y3 | ((first | apply Y4 | apply Y5); simp only [evs, Nat.reduceEqDiff, reduceIte] <;> rfl))); done) | exact Rn.mk ((by simp only [evs]; exact at43 hR t0)) | apply Cn.mk))
 rintro v m0 ⟨rfl, e0⟩
 try simp only [evs] at e0
 replace e0 := e0.symm
 subst e0
 (repeat (first | apply wpN_cons | apply g_next | (apply G.h; constructor <;> (first | exact Zc | apply gI | ((repeat' (first | exact Y0 | apply Y1 | ((first | apply Y4 | apply Y5); simp only [evs, Nat.reduceEqDiff, reduceIte] <;> rfl))); done) | (apply Y6; (try simp only [evs]); first | rfl)))))
 (apply g_stR <;> (first | exact Zc | apply gI | ((repeat' (first | exact Y0 | apply Y1 | exact Y2 | apply Y3 | ((first | apply Y4 | apply Y5); simp only [evs, Nat.reduceEqDiff, reduceIte] <;> rfl))); done) | (apply Hy.mk; (try simp only [evs]); first | exact z1 | assumption) | (apply Om.mk; first | exact z1) | (apply Y6; (try simp only [evs]); first | rfl) | apply Cn.mk))
 intro m1 r1 o1 n1; simp only [evs] at r1 o1 n1
 replace r1 : Row m1 m.next [I 2, I 0, encS [], I 0, I 7] 43 0 := r1
 have g1 : Grow m m1 := ((Grow.refl m).new _).wrote (Nat.le_refl _) o1 n1
 have h1 := hR.grow g1
 (repeat (first | apply wpN_cons | apply g_next | (apply G.h; constructor <;> (first | exact Zc | apply gI | ((repeat' (first | exact Y0 | apply Y1 | ((first | apply Y4 | apply Y5); simp only [evs, Nat.reduceEqDiff, reduceIte] <;> rfl))); done) | (apply Y6; (try simp only [evs]); first | rfl)))))
 ((first | apply g_run | apply g_run0) <;> (first | ((repeat' (first | exact Y0 | apply Y1 | exact Y2 | apply Y3 | ((first | apply Y4 | apply Y5); simp only [evs, Nat.reduceEqDiff, reduceIte] <;> rfl))); done) | exact Rn.mk ((by simp only [evs]; exact enter68 h1 t0 hk ho [123] rfl)) | apply Cn.mk))
 rintro v m2 ⟨k2, h2⟩
 try simp only [evs] at k2
 have r2 := r1.stay k2 (.inr (by decide))
 (repeat (first | apply wpN_cons | apply g_next | (apply G.h; constructor <;> (first | exact Zc | apply gI | ((repeat' (first | exact Y0 | apply Y1 | ((first | apply Y4 | apply Y5); simp only [evs, Nat.reduceEqDiff, reduceIte] <;> rfl))); done) | (apply Y6; (try simp only [evs]); first | rfl)))))
 refine ewp_loop (ι := Nat) (fun j a => (a.n = 40 ∧ a.defers = [] ∧ a.tmp 0 = ptr rb ∧ a.tmp 3 = ptr m.next ∧ a.tmp 5 = I j) ∧ j ≤ n ∧ KL m.next rb m a.m ∧ m.next < a.m.next ∧ Rd a.m rb tb tc (toksK n) (5 + 5 * j) (o + 1) ∧ Row a.m m.next [I 2, I 0, encS [], I 0, I 7] 43 0 ∧ ∃ lv, a.tmp 4 = lv ∧ Sl (fun c => c < m.next + 1) a.m lv 43 5 (nflat (decls 0 j))) (fun j => n - j) 0 ?_ ?_
 ·refine ⟨(by refine ⟨?_, ?_, ?_, ?_, ?_⟩ <;> (simp only [evs, Nat.reduceEqDiff, reduceIte] <;> first | rfl | (congr 1; omega) | omega)), Nat.zero_le _, by simp only [evs]; exact (Keep.grow g1).trans k2.kl, by simp only [evs]; exact r2.1, by simp only [evs]; exact h2, by simp only [evs]; exact r2, .slice none 0 0, by (simp only [evs, Nat.reduceEqDiff, reduceIte] <;> first | rfl | (congr 1; omega) | omega), .inl ⟨rfl, rfl⟩⟩
 clear k2 h2 r2 r1 g1 h1 o1 n1 z1
 rintro j a ⟨⟨qn, qd, q0, q3, q5⟩, hj, qk, qx, hr, rr, lv, q4, sl⟩ ih
 have hw := hr.row
 rcases Nat.lt_or_ge j n with hlt | hge
 ·have d0 := toksK_d hlt (q := 0) (by decide)
  have d1 := toksK_d hlt (q := 1) (by decide)
  have d2 := toksK_d hlt (q := 2) (by decide)
  have d3 := toksK_d hlt (q := 3) (by decide)
  have d4 := toksK_d hlt (q := 4) (by decide)
  (repeat (first | apply wpN_cons | apply g_next | (apply G.h; constructor <;> (first | exact Zc | apply gI | ((repeat' (first | exact Y0 | apply Y1 | ((first | apply Y4 | apply Y5); simp only [evs, Nat.reduceEqDiff, reduceIte, qn, qd, q0, q3, q4, q5] <;> rfl))); done) | (apply Y6; (try simp only [evs, qn, qd, q0, q3, q4, q5]); first | exact hw.load1 rfl rfl rfl)))))
  ((first | apply g_run | apply g_run0) <;> (first | ((repeat' (first | exact Y0 | apply Y1 | exact Y2 | apply Y3 | ((first | apply Y4 | apply Y5); simp only [evs, Nat.reduceEqDiff, reduceIte, qn, qd, q0, q3, q4, q5] <;> rfl))); done) | exact Rn.mk ((by simp only [evs, qn, qd, q0, q3, q4, q5]; exact is44 hr d0 [125])) | apply Cn.mk))
  rintro v m3 ⟨rfl, g3⟩
  try simp only [evs] at g3
  have h3 := hr.grow g3
  rw [show isT ⟨2, [118, 97, 114], 0, 9 + 14 * j⟩ [125] = false from rfl]
  (repeat (first | apply wpN_cons | apply g_next | (apply G.h; constructor <;> (first | exact Zc | apply gI | ((repeat' (first | exact Y0 | apply Y1 | ((first | apply Y4 | apply Y5); simp only [evs, Nat.reduceEqDiff, reduceIte, qn, qd, q0, q3, q4, q5] <;> rfl))); done) | (apply Y6; (try simp only [evs, qn, qd, q0, q3, q4, q5]); first | rfl)))))
  ((first | apply g_run | apply g_run0) <;> (first | ((repeat' (first | exact Y0 | apply Y1 | exact Y2 | apply Y3 | ((first | apply Y4 | apply Y5); simp only [evs, Nat.reduceEqDiff, reduceIte, qn, qd, q0, q3, q4, q5] <;> rfl))); done) | exact Rn.mk ((by simp only [evs, qn, qd, q0, q3, q4, q5]; exact stat25v h3 d0 d1 d2 d3 d4 hk)) | apply Cn.mk))
  rintro sv m4 ⟨k4, h4, s4⟩
  try simp only [evs] at k4 s4
  have sl4 := (sl.grow g3).over k4 h3.row (by decide)
  have rr4 := (rr.grow g3).over k4 h3.row (by decide)
  have hin := s4.cells (by decide) (n := 2) rfl
  have hn4 : a.m.next ≤ m4.next := Nat.le_trans g3.1 k4.1
  have hX : ∀ c, c < m.next + 1 → c < m4.next := fun c hc => by omega
  have hll : (nflat (decls 0 j)).length = 2 * j * 5 := by rw [nflat_len, decls_len]
  apply g_app (X := fun c => c < m.next + 1) (l0 := nflat (decls 0 j)) (new := nflat [⟨3, 1, zq j, 0, (9 + 14 * j : Nat)⟩, ⟨14, 0, [], 1, (20 + 14 * j : Nat)⟩]) (kk := 2)
  focus exact Rf.mk
  focus exact Rf.mk
  focus exact Rf.mk
  focus exact Rf.mk
  focus exact Rf.mk
  focus exact Rf.mk
  focus (apply Ev.mk; (simp only [evs, Nat.reduceEqDiff, reduceIte, qn, qd, q0, q3, q4, q5] <;> rfl))
  focus (apply Ev.mk; (simp only [evs, Nat.reduceEqDiff, reduceIte, qn, qd, q0, q3, q4, q5] <;> rfl))
  focus (apply Dn.mk; (simp only [evs, Nat.reduceEqDiff, reduceIte, qn, qd, q0, q3, q4, q5] <;> rfl))
  focus exact Hy.mk (by simp only [evs]; exact hin)
  focus exact Hy.mk (by simp only [evs]; exact sl4)
  focus exact Hy.mk (by simp only [evs]; exact hX)
  focus exact Rf.mk
  focus exact Rf.mk
  focus exact Rf.mk
  focus exact Rf.mk
  focus exact Om.mk (by rw [hll]; omega)
  focus exact Rf.mk
  focus exact Rf.mk
  refine Cn.mk ?_
  intro lv' m5 s5 k5 o5 b5 f5
  simp only [evs] at s5 k5
  (repeat (first | apply wpN_cons | apply g_next | (apply G.h; constructor <;> (first | exact Zc | apply gI | ((repeat' (first | exact Y0 | apply Y1 | ((first | apply Y4 | apply Y5); simp only [evs, Nat.reduceEqDiff, reduceIte, qn, qd, q0, q3, q4, q5] <;> rfl))); done) | (apply Y6; (try simp only [evs, qn, qd, q0, q3, q4, q5]); first | rfl)))))
  have k5' : KL m.next rb m4 m5 := (Keep.sub k5 fun c hc => Nat.lt_succ_of_lt hc.1).mono (by simp)
  have h5 : Rd m5 rb tb tc (toksK n) (5 + 5 * j + 5) (o + 1) := ⟨h4.row.stay k5 (.inr (by decide)), h4.tk.any k5 (by decide)⟩
  refine ih (j + 1) _ ⟨(by refine ⟨?_, ?_, ?_, ?_, ?_⟩ <;> (simp only [evs, Nat.reduceEqDiff, reduceIte, qn, qd, q0, q3, q4, q5] <;> first | rfl | (congr 1; omega) | omega)), hlt, ?_, ?_, ?_, ?_, lv', by (simp only [evs, Nat.reduceEqDiff, reduceIte, qn, qd, q0, q3, q4, q5] <;> first | rfl | (congr 1; omega) | omega), ?_⟩ (by omega)
  ·simp only [evs]
   exact qk.trans ((Keep.grow g3).trans ((k4.up (by have := g3.1; omega)).trans k5'))
  ·simp only [evs]; have := k5.1; omega
  ·simp only [evs]; rw [show 5 + 5 * (j + 1) = 5 + 5 * j + 5 by omega]; exact h5
  ·simp only [evs]; exact rr4.stay k5 (.inl (Nat.lt_succ_self _))
  ·simp only [evs]; rw [decls_snoc, nflat_app, Nat.zero_add]; exact s5
 ·obtain rfl : j = n := by omega
  have hlv : (decls 0 j).length = 2 * j := decls_len 0 j
  (repeat (first | apply wpN_cons | apply g_next | (apply G.h; constructor <;> (first | exact Zc | apply gI | ((repeat' (first | exact Y0 | apply Y1 | ((first | apply Y4 | apply Y5); simp only [evs, Nat.reduceEqDiff, reduceIte, qn, qd, q0, q3, q4, q5] <;> rfl))); done) | (apply Y6; (try simp only [evs, qn, qd, q0, q3, q4, q5]); first | exact hw.load1 rfl rfl rfl)))))
  ((first | apply g_run | apply g_run0) <;> (first | ((repeat' (first | exact Y0 | apply Y1 | exact Y2 | apply Y3 | ((first | apply Y4 | apply Y5); simp only [evs, Nat.reduceEqDiff, reduceIte, qn, qd, q0, q3, q4, q5] <;> rfl))); done) | exact Rn.mk ((by simp only [evs, qn, qd, q0, q3, q4, q5]; exact is44 hr te [125])) | apply Cn.mk))
  rintro v m3 ⟨rfl, g3⟩
  try simp only [evs] at g3
  have h3 := hr.grow g3
  rw [show isT ⟨5, [125], 0, 9 + 14 * j⟩ [125] = true from rfl]
  (repeat (first | apply wpN_cons | apply g_next | (apply G.h; constructor <;> (first | exact Zc | apply gI | ((repeat' (first | exact Y0 | apply Y1 | ((first | apply Y4 | apply Y5); simp only [evs, Nat.reduceEqDiff, reduceIte, qn, qd, q0, q3, q4, q5] <;> rfl))); done) | (apply Y6; (try simp only [evs, qn, qd, q0, q3, q4, q5]); first | rfl)))))
  ((first | apply g_run | apply g_run0) <;> (first | ((repeat' (first | exact Y0 | apply Y1 | exact Y2 | apply Y3 | ((first | apply Y4 | apply Y5); simp only [evs, Nat.reduceEqDiff, reduceIte, qn, qd, q0, q3, q4, q5] <;> rfl))); done) | exact Rn.mk ((by simp only [evs, qn, qd, q0, q3, q4, q5]; exact want50 h3 te hk [125] rfl)) | apply Cn.mk))
  rintro v m4 ⟨k4, h4⟩
  try simp only [evs] at k4
  have h4w := h4.row
  (repeat (first | apply wpN_cons | apply g_next | (apply G.h; constructor <;> (first | exact Zc | apply gI | ((repeat' (first | exact Y0 | apply Y1 | ((first | apply Y4 | apply Y5); simp only [evs, Nat.reduceEqDiff, reduceIte, qn, qd, q0, q3, q4, q5] <;> rfl))); done) | (apply Y6; (try simp only [evs, qn, qd, q0, q3, q4, q5]); first | exact h4w.load1 rfl rfl rfl)))))
  (apply g_stR <;> (first | exact Zc | apply gI | ((repeat' (first | exact Y0 | apply Y1 | exact Y2 | apply Y3 | ((first | apply Y4 | apply Y5); simp only [evs, Nat.reduceEqDiff, reduceIte, qn, qd, q0, q3, q4, q5] <;> rfl))); done) | (apply Hy.mk; (try simp only [evs, qn, qd, q0, q3, q4, q5]); first | exact h4w | assumption) | (apply Om.mk; first | exact h4w) | (apply Y6; (try simp only [evs, qn, qd, q0, q3, q4, q5]); first | rfl) | apply Cn.mk))
  intro m5 r5 o5 n5; simp only [evs, qn, qd, q0, q3, q4, q5] at r5 o5 n5
  have k35 : KR rb m3 m5 := k4.trans (Keep.row h4w (fun hh => hh rfl) (by decide) o5 n5)
  obtain ⟨h5, -⟩ := h4.next (i' := 6 + 5 * j) (o' := o) (by rw [show 6 + 5 * j = 5 + 5 * j + 1 by omega]; exact r5) o5 n5
  have rr5 := (rr.grow g3).stay k35 (.inr (by decide))
  have sl5 := (sl.grow g3).any k35 (by decide)
  (repeat (first | apply wpN_cons | apply g_next | (apply G.h; constructor <;> (first | exact Zc | apply gI | ((repeat' (first | exact Y0 | apply Y1 | ((first | apply Y4 | apply Y5); simp only [evs, Nat.reduceEqDiff, reduceIte, qn, qd, q0, q3, q4, q5] <;> rfl))); done) | (apply Y6; (try simp only [evs, qn, qd, q0, q3, q4, q5]); first | exact rr5.loadA (k := 5) rfl rfl rfl (Nat.le_refl 5) rfl)))))
  ((first | apply g_run | apply g_run0) <;> (first | ((repeat' (first | exact Y0 | apply Y1 | exact Y2 | apply Y3 | ((first | apply Y4 | apply Y5); simp only [evs, Nat.reduceEqDiff, reduceIte, qn, qd, q0, q3, q4, q5] <;> rfl))); done) | exact Rn.mk ((by simp only [evs, qn, qd, q0, q3, q4, q5]; exact join26 ⟨2, 0, [], 0, 7⟩ j (decls 0 j) (by omega) (by omega) sl5)) | apply Cn.mk))
  rintro v3 m6 ⟨k6, s6⟩
  try simp only [evs] at k6 s6
  (repeat (first | apply wpN_cons | apply g_next | (apply G.h; constructor <;> (first | exact Zc | apply gI | ((repeat' (first | exact Y0 | apply Y1 | ((first | apply Y4 | apply Y5); simp only [evs, Nat.reduceEqDiff, reduceIte, qn, qd, q0, q3, q4, q5] <;> rfl))); done) | (apply Y6; (try simp only [evs, qn, qd, q0, q3, q4, q5]); first | rfl)))))
  (refine g_fin (by repeat' first | exact Rs.nil | apply Rs.cons | (apply Y4; simp only [evs, Nat.reduceEqDiff, reduceIte, qn, qd, q0, q3, q4, q5] <;> rfl)) (by (simp only [evs, Nat.reduceEqDiff, reduceIte, qn, qd, q0, q3, q4, q5] <;> first | rfl | (congr 1; omega) | omega)) ?_)
  have n3' := g3.1
  have n35' := k35.1
  refine ⟨?_, ?_, ?_⟩
  ·simp only [evs]
   exact qk.trans ((Keep.grow g3).trans (k35.kl.trans k6.all))
  ·simp only [evs]
   exact ⟨h5.row.stay (k6.all (X' := fun _ => True) (T' := [])) (.inl trivial), h5.tk.any (k6.all (X' := fun _ => True) (T' := [])) (by decide)⟩
  ·simp only [evs]
   exact s6.sub fun b _ hn hb => hn (by omega)

set_option maxHeartbeats 4000000 in
/-- the function: no parameters, its block. -/
theorem func48 {m : Mem} {rb tb tc o n : Nat} (hn0 : 0 < n) (hn : n ≤ 500) (ho : o ≤ 50) (hR : Rd m rb tb tc (toksK n) 2 o) :
  Runs evEnv 48 [ptr rb, .agg ⟨[I 12, I 0, encS [102], I 0, I 0]⟩] m fun v m' => KL m.next rb m m' ∧ Rd m' rb tb tc (toksK n) (6 + 5 * n) o ∧ Sl (fun c => c < m.next) m' v 43 5 (nflat (⟨12, 1, [102], 0, 0⟩ :: ⟨2, n, [], 0, 7⟩ :: decls 0 n)) := by
 have hk : (toksK n).length ≤ 100000 := by rw [toksK_len]; omega
 have t0 : (toksK n)[2]? = some ⟨5, [40], 0, 4⟩ := rfl
 have t1 : (toksK n)[3]? = some ⟨5, [41], 0, 5⟩ := rfl
 have hrb := hR.ne
 have z1 := row_new m [I 12, I 0, encS [102], I 0, I 0] 43 0
 have g1 : Grow m (m.new (rowObj [I 12, I 0, encS [102], I 0, I 0] 43 0)) := (Grow.refl m).new _
 have h1 := hR.grow g1
 refine runs_start rfl rfl rfl rfl ?_
 (repeat (first | apply wpN_cons | apply g_next | (apply G.h; constructor <;> (first | exact Zc | apply gI | ((repeat' (first | exact Y0 | apply Y1 | ((first | apply Y4 | apply Y5); simp only [evs, Nat.reduceEqDiff, reduceIte] <;> rfl))); done) | (apply Y6; (try simp only [evs]); first | rfl)))))
 ((first | apply g_run | apply g_run0) <;> (first | ((repeat' (first | exact Y0 | apply Y1 | exact Y2 | apply Y3 | ((first | apply Y4 | apply Y5); simp only [evs, Nat.reduceEqDiff, reduceIte] <;> rfl))); done) | exact Rn.mk ((by simp only [evs]; exact enter68 h1 t0 hk (by omega) [40] rfl)) | apply Cn.mk))
 rintro v m2 ⟨k2, h2⟩
 try simp only [evs] at k2
 have r2 := z1.stay k2 (.inr (by decide))
 have k02 : KL m.next rb m m2 := (Keep.grow g1).trans k2.kl
 (repeat (first | apply wpN_cons | apply g_next | (apply G.h; constructor <;> (first | exact Zc | apply gI | ((repeat' (first | exact Y0 | apply Y1 | ((first | apply Y4 | apply Y5); simp only [evs, Nat.reduceEqDiff, reduceIte] <;> rfl))); done) | (apply Y6; (try simp only [evs]); first | rfl)))))
 refine ewp_loop (ι := Unit) (fun _ a => (a.n = 79 ∧ a.defers = [] ∧ a.tmp 0 = ptr rb ∧ a.tmp 3 = ptr m.next ∧ a.tmp 5 = .slice none 0 0 ∧ a.tmp 6 = I 0) ∧ a.m = m2) (fun _ => 0) () ?_ ?_
 ·exact ⟨(by refine ⟨?_, ?_, ?_, ?_, ?_, ?_⟩ <;> (simp only [evs, Nat.reduceEqDiff, reduceIte] <;> first | rfl | (congr 1; omega) | omega)), by (simp only [evs, Nat.reduceEqDiff, reduceIte] <;> first | rfl | (congr 1; omega) | omega)⟩
 rintro - a ⟨⟨qn, qd, q0, q3, q4, q5⟩, qm⟩ -
 have hw := h2.row
 (repeat (first | apply wpN_cons | apply g_next | (apply G.h; constructor <;> (first | exact Zc | apply gI | ((repeat' (first | exact Y0 | apply Y1 | ((first | apply Y4 | apply Y5); simp only [evs, Nat.reduceEqDiff, reduceIte, qn, qd, q0, q3, q4, q5, qm] <;> rfl))); done) | (apply Y6; (try simp only [evs, qn, qd, q0, q3, q4, q5, qm]); first | exact hw.load1 rfl rfl rfl)))))
 ((first | apply g_run | apply g_run0) <;> (first | ((repeat' (first | exact Y0 | apply Y1 | exact Y2 | apply Y3 | ((first | apply Y4 | apply Y5); simp only [evs, Nat.reduceEqDiff, reduceIte, qn, qd, q0, q3, q4, q5, qm] <;> rfl))); done) | exact Rn.mk ((by simp only [evs, qn, qd, q0, q3, q4, q5, qm]; exact is44 h2 t1 [41])) | apply Cn.mk))
 rintro v m3 ⟨rfl, g3⟩
 try simp only [evs, qm] at g3
 have h3 := h2.grow g3
 rw [show isT ⟨5, [41], 0, 5⟩ [41] = true from rfl]
 (repeat (first | apply wpN_cons | apply g_next | (apply G.h; constructor <;> (first | exact Zc | apply gI | ((repeat' (first | exact Y0 | apply Y1 | ((first | apply Y4 | apply Y5); simp only [evs, Nat.reduceEqDiff, reduceIte, qn, qd, q0, q3, q4, q5] <;> rfl))); done) | (apply Y6; (try simp only [evs, qn, qd, q0, q3, q4, q5]); first | rfl)))))
 ((first | apply g_run | apply g_run0) <;> (first | ((repeat' (first | exact Y0 | apply Y1 | exact Y2 | apply Y3 | ((first | apply Y4 | apply Y5); simp only [evs, Nat.reduceEqDiff, reduceIte, qn, qd, q0, q3, q4, q5] <;> rfl))); done) | exact Rn.mk ((by simp only [evs, qn, qd, q0, q3, q4, q5]; exact want50 h3 t1 hk [41] rfl)) | apply Cn.mk))
 rintro v m4 ⟨k4, h4⟩
 try simp only [evs] at k4
 have h4w := h4.row
 (repeat (first | apply wpN_cons | apply g_next | (apply G.h; constructor <;> (first | exact Zc | apply gI | ((repeat' (first | exact Y0 | apply Y1 | ((first | apply Y4 | apply Y5); simp only [evs, Nat.reduceEqDiff, reduceIte, qn, qd, q0, q3, q4, q5] <;> rfl))); done) | (apply Y6; (try simp only [evs, qn, qd, q0, q3, q4, q5]); first | exact h4w.load1 rfl rfl rfl)))))
 (apply g_stR <;> (first | exact Zc | apply gI | ((repeat' (first | exact Y0 | apply Y1 | exact Y2 | apply Y3 | ((first | apply Y4 | apply Y5); simp only [evs, Nat.reduceEqDiff, reduceIte, qn, qd, q0, q3, q4, q5] <;> rfl))); done) | (apply Hy.mk; (try simp only [evs, qn, qd, q0, q3, q4, q5]); first | exact h4w | assumption) | (apply Om.mk; first | exact h4w) | (apply Y6; (try simp only [evs, qn, qd, q0, q3, q4, q5]); first | rfl) | apply Cn.mk))
 intro m5 r5 o5 n5; simp only [evs, qn, qd, q0, q3, q4, q5] at r5 o5 n5
 have k35 : KR rb m3 m5 := k4.trans (Keep.row h4w (fun hh => hh rfl) (by decide) o5 n5)
 obtain ⟨h5, -⟩ := h4.next (i' := 4) (o' := o) r5 o5 n5
 have rr5 := (r2.grow g3).stay k35 (.inr (by decide))
 (repeat (first | apply wpN_cons | apply g_next | (apply G.h; constructor <;> (first | exact Zc | apply gI | ((repeat' (first | exact Y0 | apply Y1 | ((first | apply Y4 | apply Y5); simp only [evs, Nat.reduceEqDiff, reduceIte, qn, qd, q0, q3, q4, q5] <;> rfl))); done) | (apply Y6; (try simp only [evs, qn, qd, q0, q3, q4, q5]); first | rfl)))))
 (apply g_stR <;> (first | exact Zc | apply gI | ((repeat' (first | exact Y0 | apply Y1 | exact Y2 | apply Y3 | ((first | apply Y4 | apply Y5); simp only [evs, Nat.reduceEqDiff, reduceIte, qn, qd, q0, q3, q4, q5] <;> rfl))); done) | (apply Hy.mk; (try simp only [evs, qn, qd, q0, q3, q4, q5]); first | exact rr5 | assumption) | (apply Om.mk; first | exact rr5) | (apply Y6; (try simp only [evs, qn, qd, q0, q3, q4, q5]); first | rfl) | apply Cn.mk))
 intro m6 r6 o6 n6; simp only [evs, qn, qd, q0, q3, q4, q5] at r6 o6 n6
 replace r6 : Row m6 m.next [I 12, I 0, encS [102], I 0, I 0] 43 0 := r6
 have k56 : KL m.next rb m5 m6 := Keep.row rr5 (fun hh => Nat.lt_irrefl _ hh.1) (by decide) o6 n6
 have h6 : Rd m6 rb tb tc (toksK n) 4 o := ⟨h5.row.keep (Nat.le_of_eq n6.symm) (o6 _ (by omega)), h5.tk.any k56 (by decide)⟩
 have k06 : KL m.next rb m m6 := k02.trans ((Keep.grow g3).trans (k35.kl.trans k56))
 have n06 := k06.1
 have r6l := r6.1
 (repeat (first | apply wpN_cons | apply g_next | (apply G.h; constructor <;> (first | exact Zc | apply gI | ((repeat' (first | exact Y0 | apply Y1 | ((first | apply Y4 | apply Y5); simp only [evs, Nat.reduceEqDiff, reduceIte, qn, qd, q0, q3, q4, q5] <;> rfl))); done) | (apply Y6; (try simp only [evs, qn, qd, q0, q3, q4, q5]); first | rfl)))))
 (apply g_regionN [0, 1, 2, 3, 4, 5, 6, 7, 8] [(0, 6), (0, 7), (1, 6), (1, 7), (2, 6), (2, 7), (3, 6)]; (focus exact Kr.mk (by kernel_rfl)); (focus exact Rf.mk))
 (repeat (first | apply wpN_cons | apply g_next | (apply G.h; constructor <;> (first | exact Zc | apply gI | ((repeat' (first | exact Y0 | apply Y1 | ((first | apply Y4 | apply Y5); simp only [evs, Nat.reduceEqDiff, reduceIte, qn, qd, q0, q3, q4, q5] <;> rfl))); done) | (apply Y6; (try simp only [evs, qn, qd, q0, q3, q4, q5]); first | exact r6.loadA (k := 5) rfl rfl rfl (Nat.le_refl 5) rfl)))))
 ((first | apply g_run | apply g_run0) <;> (first | ((repeat' (first | exact Y0 | apply Y1 | exact Y2 | apply Y3 | ((first | apply Y4 | apply Y5); simp only [evs, Nat.reduceEqDiff, reduceIte, qn, qd, q0, q3, q4, q5] <;> rfl))); done) | exact Rn.mk ((by simp only [evs, qn, qd, q0, q3, q4, q5]; exact block45 hn0 hn (by omega) h6)) | apply Cn.mk))
 rintro bv m7 ⟨k7, h7, s7⟩
 try simp only [evs] at k7 s7
 have r7 := r6.over k7 h6.row (by decide)
 (repeat (first | apply wpN_cons | apply g_next | (apply G.h; constructor <;> (first | exact Zc | apply gI | ((repeat' (first | exact Y0 | apply Y1 | ((first | apply Y4 | apply Y5); simp only [evs, Nat.reduceEqDiff, reduceIte, qn, qd, q0, q3, q4, q5] <;> rfl))); done) | (apply Y6; (try simp only [evs, qn, qd, q0, q3, q4, q5]); first | rfl)))))
 ((first | apply g_run | apply g_run0) <;> (first | ((repeat' (first | exact Y0 | apply Y1 | exact Y2 | apply Y3 | ((first | apply Y4 | apply Y5); simp only [evs, Nat.reduceEqDiff, reduceIte, qn, qd, q0, q3, q4, q5] <;> rfl))); done) | exact Rn.mk ((by simp only [evs, qn, qd, q0, q3, q4, q5]; exact both52 (⟨2, n, [], 0, 7⟩ :: decls 0 n) (by simp) (by rw [List.length_cons, decls_len]; omega) s7)) | apply Cn.mk))
 rintro cv m8 ⟨k8, s8⟩
 try simp only [evs] at k8 s8
 have r8 := r7.stay (k8.all (X' := fun _ => True) (T' := [])) (.inl trivial)
 (repeat (first | apply wpN_cons | apply g_next | (apply G.h; constructor <;> (first | exact Zc | apply gI | ((repeat' (first | exact Y0 | apply Y1 | ((first | apply Y4 | apply Y5); simp only [evs, Nat.reduceEqDiff, reduceIte, qn, qd, q0, q3, q4, q5] <;> rfl))); done) | (apply Y6; (try simp only [evs, qn, qd, q0, q3, q4, q5]); first | rfl)))))
 ((first | apply g_run | apply g_run0) <;> (first | ((repeat' (first | exact Y0 | apply Y1 | exact Y2 | apply Y3 | ((first | apply Y4 | apply Y5); simp only [evs, Nat.reduceEqDiff, reduceIte, qn, qd, q0, q3, q4, q5] <;> rfl))); done) | exact Rn.mk ((by simp only [evs, qn, qd, q0, q3, q4, q5]; exact join26 ⟨12, 0, [102], 0, 0⟩ 1 (⟨2, n, [], 0, 7⟩ :: decls 0 n) (by simp) (by rw [List.length_cons, decls_len]; omega) s8)) | apply Cn.mk))
 rintro dv m9 ⟨k9, s9⟩
 try simp only [evs] at k9 s9
 (repeat (first | apply wpN_cons | apply g_next | (apply G.h; constructor <;> (first | exact Zc | apply gI | ((repeat' (first | exact Y0 | apply Y1 | ((first | apply Y4 | apply Y5); simp only [evs, Nat.reduceEqDiff, reduceIte, qn, qd, q0, q3, q4, q5] <;> rfl))); done) | (apply Y6; (try simp only [evs, qn, qd, q0, q3, q4, q5]); first | rfl)))))
 refine g_last (.mk ⟨.mk ?_, .mk ?_, .mk ?_, .mk ?_, .mk ?_, .mk ?_, .mk ?_, trivial⟩) ?_
 ·(apply again_of; exact Rf.mk; exact Rf.mk; (apply Ev.mk; (simp only [evs, Nat.reduceEqDiff, reduceIte, qn, qd, q0, q3, q4, q5] <;> rfl)); exact Rf.mk; (repeat (first | apply wpN_cons | apply g_next | (apply G.h; constructor <;> (first | exact Zc | apply gI | ((repeat' (first | exact Y0 | apply Y1 | ((first | apply Y4 | apply Y5); simp only [evs, Nat.reduceEqDiff, reduceIte, qn, qd, q0, q3, q4, q5] <;> rfl))); done) | (apply Y6; (try simp only [evs, qn, qd, q0, q3, q4, q5]); first | exact r7.loadA (k := 5) rfl rfl rfl (Nat.le_refl 5) rfl))))); refine eret_nil ?_; (simp only [evs, Nat.reduceEqDiff, reduceIte, qn, qd, q0, q3, q4, q5] <;> rfl))
 ·(apply again_of; exact Rf.mk; exact Rf.mk; (apply Ev.mk; (simp only [evs, Nat.reduceEqDiff, reduceIte, qn, qd, q0, q3, q4, q5] <;> rfl)); exact Rf.mk; (repeat (first | apply wpN_cons | apply g_next | (apply G.h; constructor <;> (first | exact Zc | apply gI | ((repeat' (first | exact Y0 | apply Y1 | ((first | apply Y4 | apply Y5); simp only [evs, Nat.reduceEqDiff, reduceIte, qn, qd, q0, q3, q4, q5] <;> rfl))); done) | (apply Y6; (try simp only [evs, qn, qd, q0, q3, q4, q5]); first | exact r8.loadA (k := 5) rfl rfl rfl (Nat.le_refl 5) rfl))))); refine eret_nil ?_; (simp only [evs, Nat.reduceEqDiff, reduceIte, qn, qd, q0, q3, q4, q5] <;> rfl))
 ·(apply again_of; exact Rf.mk; exact Rf.mk; (apply Ev.mk; (simp only [evs, Nat.reduceEqDiff, reduceIte, qn, qd, q0, q3, q4, q5] <;> rfl)); exact Rf.mk; (repeat (first | apply wpN_cons | apply g_next | (apply G.h; constructor <;> (first | exact Zc | apply gI | ((repeat' (first | exact Y0 | apply Y1 | ((first | apply Y4 | apply Y5); simp only [evs, Nat.reduceEqDiff, reduceIte, qn, qd, q0, q3, q4, q5] <;> rfl))); done) | (apply Y6; (try simp only [evs, qn, qd, q0, q3, q4, q5]); first | rfl))))); refine eret_nil ?_; (simp only [evs, Nat.reduceEqDiff, reduceIte, qn, qd, q0, q3, q4, q5] <;> rfl))
 ·(apply again_of; exact Rf.mk; exact Rf.mk; (apply Ev.mk; (simp only [evs, Nat.reduceEqDiff, reduceIte, qn, qd, q0, q3, q4, q5] <;> rfl)); exact Rf.mk; (repeat (first | apply wpN_cons | apply g_next | (apply G.h; constructor <;> (first | exact Zc | apply gI | ((repeat' (first | exact Y0 | apply Y1 | ((first | apply Y4 | apply Y5); simp only [evs, Nat.reduceEqDiff, reduceIte, qn, qd, q0, q3, q4, q5] <;> rfl))); done) | (apply Y6; (try simp only [evs, qn, qd, q0, q3, q4, q5]); first | rfl))))); refine eret_nil ?_; (simp only [evs, Nat.reduceEqDiff, reduceIte, qn, qd, q0, q3, q4, q5] <;> rfl))
 ·(apply again_of; exact Rf.mk; exact Rf.mk; (apply Ev.mk; (simp only [evs, Nat.reduceEqDiff, reduceIte, qn, qd, q0, q3, q4, q5] <;> rfl)); exact Rf.mk; (repeat (first | apply wpN_cons | apply g_next | (apply G.h; constructor <;> (first | exact Zc | apply gI | ((repeat' (first | exact Y0 | apply Y1 | ((first | apply Y4 | apply Y5); simp only [evs, Nat.reduceEqDiff, reduceIte, qn, qd, q0, q3, q4, q5] <;> rfl))); done) | (apply Y6; (try simp only [evs, qn, qd, q0, q3, q4, q5]); first | rfl))))); refine eret_nil ?_; (simp only [evs, Nat.reduceEqDiff, reduceIte, qn, qd, q0, q3, q4, q5] <;> rfl))
 ·(apply again_of; exact Rf.mk; exact Rf.mk; (apply Ev.mk; (simp only [evs, Nat.reduceEqDiff, reduceIte, qn, qd, q0, q3, q4, q5] <;> rfl)); exact Rf.mk; (repeat (first | apply wpN_cons | apply g_next | (apply G.h; constructor <;> (first | exact Zc | apply gI | ((repeat' (first | exact Y0 | apply Y1 | ((first | apply Y4 | apply Y5); simp only [evs, Nat.reduceEqDiff, reduceIte, qn, qd, q0, q3, q4, q5] <;> rfl))); done) | (apply Y6; (try simp only [evs, qn, qd, q0, q3, q4, q5]); first | rfl))))); refine eret_nil ?_; (simp only [evs, Nat.reduceEqDiff, reduceIte, qn, qd, q0, q3, q4, q5] <;> rfl))
 ·(apply again_of; exact Rf.mk; exact Rf.mk; (apply Ev.mk; (simp only [evs, Nat.reduceEqDiff, reduceIte, qn, qd, q0, q3, q4, q5] <;> rfl)); exact Rf.mk; (repeat (first | apply wpN_cons | apply g_next | (apply G.h; constructor <;> (first | exact Zc | apply gI | ((repeat' (first | exact Y0 | apply Y1 | ((first | apply Y4 | apply Y5); simp only [evs, Nat.reduceEqDiff, reduceIte, qn, qd, q0, q3, q4, q5] <;> rfl))); done) | (apply Y6; (try simp only [evs, qn, qd, q0, q3, q4, q5]); first | rfl))))); refine eret_nil ?_; (simp only [evs, Nat.reduceEqDiff, reduceIte, qn, qd, q0, q3, q4, q5] <;> rfl))
 (repeat (first | apply wpN_cons | apply g_next | (apply G.h; constructor <;> (first | exact Zc | apply gI | ((repeat' (first | exact Y0 | apply Y1 | ((first | apply Y4 | apply Y5); simp only [evs, Nat.reduceEqDiff, reduceIte, qn, qd, q0, q3, q4, q5] <;> rfl))); done) | (apply Y6; (try simp only [evs, qn, qd, q0, q3, q4, q5]); first | rfl)))))
 (refine g_fin (by repeat' first | exact Rs.nil | apply Rs.cons | (apply Y4; simp only [evs, Nat.reduceEqDiff, reduceIte, qn, qd, q0, q3, q4, q5] <;> rfl)) (by (simp only [evs, Nat.reduceEqDiff, reduceIte, qn, qd, q0, q3, q4, q5] <;> first | rfl | (congr 1; omega) | omega)) ?_)
 have n7' := k7.1
 have n8' := k8.1
 refine ⟨?_, ?_, ?_⟩
 ·simp only [evs]
  exact k06.trans ((k7.up n06).trans (k8.all.trans k9.all))
 ·simp only [evs]
  have w8 := h7.row.stay (k8.all (X' := fun _ => True) (T' := [])) (.inl trivial)
  have u8 := h7.tk.any (k8.all (X' := fun _ => True) (T' := [])) (by decide)
  exact ⟨w8.stay (k9.all (X' := fun _ => True) (T' := [])) (.inl trivial), u8.any (k9.all (X' := fun _ => True) (T' := [])) (by decide)⟩
 ·simp only [evs]
  exact s9.sub fun b _ hn hb => hn (by omega)

set_option maxHeartbeats 4000000 in
/-- the function's statement. -/
theorem stat25f {m : Mem} {rb tb tc o n : Nat} (hn0 : 0 < n) (hn : n ≤ 500) (ho : o ≤ 50) (hR : Rd m rb tb tc (toksK n) 0 o) :
  Runs evEnv 25 [ptr rb] m fun v m' => KL m.next rb m m' ∧ Rd m' rb tb tc (toksK n) (6 + 5 * n) o ∧ Sl (fun c => c < m.next) m' v 43 5 (nflat (⟨12, 1, [102], 0, 0⟩ :: ⟨2, n, [], 0, 7⟩ :: decls 0 n)) := by
 have hkl := toksK_len n
 have hk : (toksK n).length ≤ 100000 := by omega
 have t0 : (toksK n)[0]? = some ⟨2, [102, 110], 0, 0⟩ := rfl
 have t1 : (toksK n)[1]? = some ⟨1, [102], 0, 3⟩ := rfl
 have hrb := hR.ne
 have z1 := row_new m [I 0, I 0, encS [], I 0, I 0] 43 0
 refine runs_start rfl rfl rfl rfl ?_
 (repeat (first | apply wpN_cons | apply g_next | (apply G.h; constructor <;> (first | exact Zc | apply gI | ((repeat' (first | exact Y0 | apply Y1 | ((first | apply Y4 | apply Y5); simp only [evs, Nat.reduceEqDiff, reduceIte] <;> rfl))); done) | (apply Y6; (try simp only [evs]); first | rfl)))))
 ((first | apply g_run | apply g_run0) <;> (first | ((repeat' (first | exact Y0 | apply Y1 | exact Y2 | apply Y3 | ((first | apply Y4 | apply Y5); simp only [evs, Nat.reduceEqDiff, reduceIte] <;> rfl))); done) | exact Rn.mk ((by simp only [evs]; exact at43 hR t0)) | apply Cn.mk))
 rintro v m0 ⟨rfl, e0⟩
 try simp only [evs] at e0
 replace e0 := e0.symm
 subst e0
 (repeat (first | apply wpN_cons | apply g_next | (apply G.h; constructor <;> (first | exact Zc | apply gI | ((repeat' (first | exact Y0 | apply Y1 | ((first | apply Y4 | apply Y5); simp only [evs, Nat.reduceEqDiff, reduceIte] <;> rfl))); done) | (apply Y6; (try simp only [evs]); first | rfl)))))
 (apply g_stR <;> (first | exact Zc | apply gI | ((repeat' (first | exact Y0 | apply Y1 | exact Y2 | apply Y3 | ((first | apply Y4 | apply Y5); simp only [evs, Nat.reduceEqDiff, reduceIte] <;> rfl))); done) | (apply Hy.mk; (try simp only [evs]); first | exact z1 | assumption) | (apply Om.mk; first | exact z1) | (apply Y6; (try simp only [evs]); first | rfl) | apply Cn.mk))
 intro m1 r1 o1 n1; simp only [evs] at r1 o1 n1
 replace r1 : Row m1 m.next [I 0, I 0, encS [], I 0, I 0] 43 0 := r1
 have g1 : Grow m m1 := ((Grow.refl m).new _).wrote (Nat.le_refl _) o1 n1
 have h1 := hR.grow g1
 (repeat (first | apply wpN_cons | apply g_next | (apply G.h; constructor <;> (first | exact Zc | apply gI | ((repeat' (first | exact Y0 | apply Y1 | ((first | apply Y4 | apply Y5); simp only [evs, Nat.reduceEqDiff, reduceIte] <;> rfl))); done) | (apply Y6; (try simp only [evs]); first | rfl)))))
 ((first | apply g_run | apply g_run0) <;> (first | ((repeat' (first | exact Y0 | apply Y1 | exact Y2 | apply Y3 | ((first | apply Y4 | apply Y5); simp only [evs, Nat.reduceEqDiff, reduceIte] <;> rfl))); done) | exact Rn.mk ((by simp only [evs]; exact is44 h1 t0 [123])) | apply Cn.mk))
 rintro v m2 ⟨rfl, g2⟩
 try simp only [evs] at g2
 have h2 := h1.grow g2
 rw [show isT ⟨2, [102, 110], 0, 0⟩ [123] = false from rfl]
 (repeat (first | apply wpN_cons | apply g_next | (apply G.h; constructor <;> (first | exact Zc | apply gI | ((repeat' (first | exact Y0 | apply Y1 | ((first | apply Y4 | apply Y5); simp only [evs, Nat.reduceEqDiff, reduceIte] <;> rfl))); done) | (apply Y6; (try simp only [evs]); first | rfl)))))
 ((first | apply g_run | apply g_run0) <;> (first | ((repeat' (first | exact Y0 | apply Y1 | exact Y2 | apply Y3 | ((first | apply Y4 | apply Y5); simp only [evs, Nat.reduceEqDiff, reduceIte] <;> rfl))); done) | exact Rn.mk ((by simp only [evs]; exact is44 h2 t0 [105, 102])) | apply Cn.mk))
 rintro v m3 ⟨rfl, g3⟩
 try simp only [evs] at g3
 have h3 := h2.grow g3
 rw [show isT ⟨2, [102, 110], 0, 0⟩ [105, 102] = false from rfl]
 (repeat (first | apply wpN_cons | apply g_next | (apply G.h; constructor <;> (first | exact Zc | apply gI | ((repeat' (first | exact Y0 | apply Y1 | ((first | apply Y4 | apply Y5); simp only [evs, Nat.reduceEqDiff, reduceIte] <;> rfl))); done) | (apply Y6; (try simp only [evs]); first | rfl)))))
 ((first | apply g_run | apply g_run0) <;> (first | ((repeat' (first | exact Y0 | apply Y1 | exact Y2 | apply Y3 | ((first | apply Y4 | apply Y5); simp only [evs, Nat.reduceEqDiff, reduceIte] <;> rfl))); done) | exact Rn.mk ((by simp only [evs]; exact is44 h3 t0 [102, 110])) | apply Cn.mk))
 rintro v m4 ⟨rfl, g4⟩
 try simp only [evs] at g4
 have h4 := h3.grow g4
 have h4w := h4.row
 have hk1 := h4.kind t1
 rw [show isT ⟨2, [102, 110], 0, 0⟩ [102, 110] = true from rfl]
 (repeat (first | apply wpN_cons | apply g_next | (apply G.h; constructor <;> (first | exact Zc | apply gI | ((repeat' (first | exact Y0 | apply Y1 | ((first | apply Y4 | apply Y5); simp only [evs, Nat.reduceEqDiff, reduceIte] <;> rfl))); done) | (apply Y6; (try simp only [evs]); first | exact h4w.load1 rfl rfl rfl | exact hk1)))))
 (apply g_stR <;> (first | exact Zc | apply gI | ((repeat' (first | exact Y0 | apply Y1 | exact Y2 | apply Y3 | ((first | apply Y4 | apply Y5); simp only [evs, Nat.reduceEqDiff, reduceIte] <;> rfl))); done) | (apply Hy.mk; (try simp only [evs]); first | exact h4w | assumption) | (apply Om.mk; first | exact h4w) | (apply Y6; (try simp only [evs]); first | rfl) | apply Cn.mk))
 intro m5 r5 o5 n5; simp only [evs] at r5 o5 n5
 obtain ⟨h5, k5⟩ := h4.next (i' := 1) (o' := o) r5 o5 n5
 (repeat (first | apply wpN_cons | apply g_next | (apply G.h; constructor <;> (first | exact Zc | apply gI | ((repeat' (first | exact Y0 | apply Y1 | ((first | apply Y4 | apply Y5); simp only [evs, Nat.reduceEqDiff, reduceIte] <;> rfl))); done) | (apply Y6; (try simp only [evs]); first | rfl)))))
 ((first | apply g_run | apply g_run0) <;> (first | ((repeat' (first | exact Y0 | apply Y1 | exact Y2 | apply Y3 | ((first | apply Y4 | apply Y5); simp only [evs, Nat.reduceEqDiff, reduceIte] <;> rfl))); done) | exact Rn.mk ((by simp only [evs]; exact name47 h5 t1 hk rfl)) | apply Cn.mk))
 rintro v m6 ⟨rfl, k6, h6⟩
 try simp only [evs] at k6
 have g14 : Grow m1 m4 := g2.trans (g3.trans g4)
 have k16 : KR rb m1 m6 := (Keep.grow g14).trans (k5.trans k6)
 have r6 := r1.stay k16 (.inr (by decide))
 (repeat (first | apply wpN_cons | apply g_next | (apply G.h; constructor <;> (first | exact Zc | apply gI | ((repeat' (first | exact Y0 | apply Y1 | ((first | apply Y4 | apply Y5); simp only [evs, Nat.reduceEqDiff, reduceIte] <;> rfl))); done) | (apply Y6; (try simp only [evs]); first | rfl)))))
 (apply g_stR <;> (first | exact Zc | apply gI | ((repeat' (first | exact Y0 | apply Y1 | exact Y2 | apply Y3 | ((first | apply Y4 | apply Y5); simp only [evs, Nat.reduceEqDiff, reduceIte] <;> rfl))); done) | (apply Hy.mk; (try simp only [evs]); first | exact r6 | assumption) | (apply Om.mk; first | exact r6) | (apply Y6; (try simp only [evs]); first | rfl) | apply Cn.mk))
 intro m7 r7 o7 n7; simp only [evs] at r7 o7 n7
 replace r7 : Row m7 m.next [I 12, I 0, encS [], I 0, I 0] 43 0 := r7
 (repeat (first | apply wpN_cons | apply g_next | (apply G.h; constructor <;> (first | exact Zc | apply gI | ((repeat' (first | exact Y0 | apply Y1 | ((first | apply Y4 | apply Y5); simp only [evs, Nat.reduceEqDiff, reduceIte] <;> rfl))); done) | (apply Y6; (try simp only [evs]); first | rfl)))))
 (apply g_stR <;> (first | exact Zc | apply gI | ((repeat' (first | exact Y0 | apply Y1 | exact Y2 | apply Y3 | ((first | apply Y4 | apply Y5); simp only [evs, Nat.reduceEqDiff, reduceIte] <;> rfl))); done) | (apply Hy.mk; (try simp only [evs]); first | exact r7 | assumption) | (apply Om.mk; first | exact r7) | (apply Y6; (try simp only [evs]); first | rfl) | apply Cn.mk))
 intro m8 r8 o8 n8; simp only [evs] at r8 o8 n8
 replace r8 : Row m8 m.next [I 12, I 0, encS [102], I 0, I 0] 43 0 := r8
 have k78 : KL m.next rb m6 m8 := (Keep.row r6 (fun hh => Nat.lt_irrefl _ hh.1) (by decide) o7 n7).trans (Keep.row r7 (fun hh => Nat.lt_irrefl _ hh.1) (by decide) o8 n8)
 have k8 : KL m.next rb m m8 := (Keep.grow g1).trans (k16.kl.trans k78)
 have h8 : Rd m8 rb tb tc (toksK n) 2 o := by
  have w := h6.row
  have w7 : Row m7 rb _ 71 0 := w.keep (Nat.le_of_eq n7.symm) (o7 _ (by omega))
  exact ⟨w7.keep (Nat.le_of_eq n8.symm) (o8 _ (by omega)), h6.tk.any k78 (by decide)⟩
 (repeat (first | apply wpN_cons | apply g_next | (apply G.h; constructor <;> (first | exact Zc | apply gI | ((repeat' (first | exact Y0 | apply Y1 | ((first | apply Y4 | apply Y5); simp only [evs, Nat.reduceEqDiff, reduceIte] <;> rfl))); done) | (apply Y6; (try simp only [evs]); first | exact r8.loadA (k := 5) rfl rfl rfl (Nat.le_refl 5) rfl)))))
 ((first | apply g_run | apply g_run0) <;> (first | ((repeat' (first | exact Y0 | apply Y1 | exact Y2 | apply Y3 | ((first | apply Y4 | apply Y5); simp only [evs, Nat.reduceEqDiff, reduceIte] <;> rfl))); done) | exact Rn.mk ((by simp only [evs]; exact func48 hn0 hn ho h8)) | apply Cn.mk))
 rintro fv m9 ⟨k9, h9, s9⟩
 try simp only [evs] at k9 s9
 (repeat (first | apply wpN_cons | apply g_next | (apply G.h; constructor <;> (first | exact Zc | apply gI | ((repeat' (first | exact Y0 | apply Y1 | ((first | apply Y4 | apply Y5); simp only [evs, Nat.reduceEqDiff, reduceIte] <;> rfl))); done) | (apply Y6; (try simp only [evs]); first | rfl)))))
 (refine g_fin (by repeat' first | exact Rs.nil | apply Rs.cons | (apply Y4; simp only [evs, Nat.reduceEqDiff, reduceIte] <;> rfl)) (by (simp only [evs, Nat.reduceEqDiff, reduceIte] <;> first | rfl | (congr 1; omega) | omega)) ?_)
 have n8' := k8.1
 exact ⟨by simp only [evs]; exact k8.trans (k9.up n8'), by simp only [evs]; exact h9, by simp only [evs]; exact s9.sub fun b _ hn hb => hn (Nat.lt_of_lt_of_le hb n8')⟩

set_option maxHeartbeats 4000000 in
/-- the text's program. -/
theorem parse11 {m : Mem} {b off cap n : Nat} (hn0 : 0 < n) (hn : n ≤ 500) (hcap : (srcT n).length ≤ cap) (hB : Bts m b off (srcT n)) :
  Runs evEnv 11 [.slice (some ⟨b, off, none⟩) (srcT n).length cap] m fun v m' => Keep (fun c => c < m.next) [43] m m' ∧ ∃ lv, v = .tuple ⟨[lv, I 0, I (srcT n).length]⟩ ∧ Sl (fun c => c < m.next) m' lv 43 5 (nflat (progN n)) := by
 have hsl := srcT_len n
 have hkl := toksK_len n
 have hk : (toksK n).length ≤ 100000 := by omega
 have t0 : (toksK n)[0]? = some ⟨2, [102, 110], 0, 0⟩ := rfl
 have tz := toksK_z n
 refine runs_start rfl rfl rfl rfl ?_
 (repeat (first | apply wpN_cons | apply g_next | (apply G.h; constructor <;> (first | exact Zc | apply gI | ((repeat' (first | exact Y0 | apply Y1 | ((first | apply Y4 | apply Y5); simp only [evs, Nat.reduceEqDiff, reduceIte] <;> rfl))); done) | (apply Y6; (try simp only [evs]); first | rfl)))))
 ((first | apply g_run | apply g_run0) <;> (first | ((repeat' (first | exact Y0 | apply Y1 | exact Y2 | apply Y3 | ((first | apply Y4 | apply Y5); simp only [evs, Nat.reduceEqDiff, reduceIte] <;> rfl))); done) | exact Rn.mk ((by simp only [evs]; exact lex24 b off cap (srcT n) (by omega) hcap (toksK n) (lex_src hn) _ hB)) | apply Cn.mk))
 rintro v m1 ⟨k1, ov, rfl, s1⟩
 try simp only [evs] at k1 s1
 obtain ⟨tb, tcap, tr, tn, rfl, y2, y3, y4, y5, y6, -⟩ := s1.at (i := 0) (by rw [encT_len]; omega)
 have hN : tn = (toksK n).length := by
  have := congrArg List.length y6
  rw [List.length_take, encT_len] at this
  omega
 subst hN
 have r2 := row_new m1 [.slice (some ⟨tb, 0, none⟩) (toksK n).length tcap, I 0, I 0, I 0, I 0] 71 0
 have g2 : Grow m1 (m1.new (rowObj [.slice (some ⟨tb, 0, none⟩) (toksK n).length tcap, I 0, I 0, I 0, I 0] 71 0)) := (Grow.refl _).new _
 have h2 : Rd (m1.new (rowObj [.slice (some ⟨tb, 0, none⟩) (toksK n).length tcap, I 0, I 0, I 0, I 0] 71 0)) m1.next tb tcap (toksK n) 0 0 := ⟨r2, (s1.sub fun _ _ _ hb => hb).grow g2⟩
 have hmn : m.next ≤ m1.next := k1.1
 have k12 : Keep (fun c => c < m.next) [43] m (m1.new (rowObj [.slice (some ⟨tb, 0, none⟩) (toksK n).length tcap, I 0, I 0, I 0, I 0] 71 0)) := k1.all.trans (Keep.grow g2)
 (repeat (first | apply wpN_cons | apply g_next | (apply G.h; constructor <;> (first | exact Zc | apply gI | ((repeat' (first | exact Y0 | apply Y1 | ((first | apply Y4 | apply Y5); simp only [evs, Nat.reduceEqDiff, reduceIte] <;> rfl))); done) | (apply Y6; (try simp only [evs]); first | rfl)))))
 refine ewp_loop (ι := Bool) (fun s a => (a.n = 68 ∧ a.defers = [] ∧ a.tmp 0 = .slice (some ⟨b, off, none⟩) (srcT n).length cap ∧ a.tmp 8 = ptr m1.next ∧ a.tmp 10 = I (if s then 0 else 1 : Nat)) ∧ Keep (fun c => c < m.next) [43, 71] m a.m ∧ m.next ≤ a.m.next ∧ (if s then a.m = (m1.new (rowObj [.slice (some ⟨tb, 0, none⟩) (toksK n).length tcap, I 0, I 0, I 0, I 0] 71 0)) ∧ a.tmp 9 = .slice none 0 0 else Rd a.m m1.next tb tcap (toksK n) (6 + 5 * n) 0 ∧ ∃ lv, a.tmp 9 = lv ∧ Sl (fun c => c < m.next) a.m lv 43 5 (nflat (⟨12, 1, [102], 0, 0⟩ :: ⟨2, n, [], 0, 7⟩ :: decls 0 n)))) (fun s => if s then 1 else 0) true ?_ ?_
 ·refine ⟨(by refine ⟨?_, ?_, ?_, ?_, ?_⟩ <;> (simp only [evs, Nat.reduceEqDiff, reduceIte] <;> first | rfl | (congr 1; omega) | omega)), by simp only [evs]; exact k12.mono (by simp), by simp only [evs]; exact Nat.le_trans hmn (Nat.le_succ _), ?_⟩
  rw [if_pos rfl]
  exact (by refine ⟨?_, ?_⟩ <;> (simp only [evs, Nat.reduceEqDiff, reduceIte] <;> first | rfl | (congr 1; omega) | omega))
 rintro s a ⟨⟨wn, wd, w0, w8, w10⟩, wk, wx, hs⟩ ih
 cases s with
 | true =>
  rw [if_pos rfl] at hs w10
  obtain ⟨wm, w9⟩ := hs
  have h2w := h2.row
  have hk0 := h2.kind t0
  (repeat (first | apply wpN_cons | apply g_next | (apply G.h; constructor <;> (first | exact Zc | apply gI | ((repeat' (first | exact Y0 | apply Y1 | ((first | apply Y4 | apply Y5); simp only [evs, Nat.reduceEqDiff, reduceIte, wn, wd, w0, w8, w10, wm, w9] <;> rfl))); done) | (apply Y6; (try simp only [evs, wn, wd, w0, w8, w10, wm, w9]); first | exact h2w.load1 rfl rfl rfl | exact hk0)))))
  ((first | apply g_run | apply g_run0) <;> (first | ((repeat' (first | exact Y0 | apply Y1 | exact Y2 | apply Y3 | ((first | apply Y4 | apply Y5); simp only [evs, Nat.reduceEqDiff, reduceIte, wn, wd, w0, w8, w10, wm] <;> rfl))); done) | exact Rn.mk ((by simp only [evs, wn, wd, w0, w8, w10, wm]; exact stat25f hn0 hn (by decide) h2)) | apply Cn.mk))
  rintro sv m3 ⟨k3, h3, s3⟩
  try simp only [evs] at k3 s3
  generalize hL : (⟨12, 1, [102], 0, 0⟩ :: ⟨2, n, [], 0, 7⟩ :: decls 0 n : List Nd) = L at s3 ih
  have hLl : L.length = 2 + 2 * n := by rw [← hL, List.length_cons, List.length_cons, decls_len]; omega
  have hfl := nflat_len L
  have hf1 := nflat_one L
  have hblt : Nat.blt 0 L.length = true := by rw [Nat.blt_eq]; omega
  have hin := s3.cells (by decide) (n := L.length) hfl
  have hX : ∀ c, c < m.next → c < m3.next := fun c hc => by have := k3.1; have := k12.1; omega
  have s0 : Sl (fun c => c < m.next) m3 (.slice none 0 0) 43 5 [] := .inl ⟨rfl, rfl⟩
  (repeat (first | apply wpN_cons | apply g_next | (apply G.h; constructor <;> (first | exact Zc | apply gI | ((repeat' (first | exact Y0 | apply Y1 | ((first | apply Y4 | apply Y5); simp only [evs, Nat.reduceEqDiff, reduceIte, wn, wd, w0, w8, w10, w9] <;> rfl))); done) | (apply Y6; (try simp only [evs, wn, wd, w0, w8, w10, w9]); first | rfl)))))
  apply g_app (X := fun c => c < m.next) (l0 := []) (new := nflat L) (kk := L.length)
  focus exact Rf.mk
  focus exact Rf.mk
  focus exact Rf.mk
  focus exact Rf.mk
  focus exact Rf.mk
  focus exact Rf.mk
  focus (apply Ev.mk; (simp only [evs, Nat.reduceEqDiff, reduceIte, wn, wd, w0, w8, w10, w9] <;> rfl))
  focus (apply Ev.mk; (simp only [evs, Nat.reduceEqDiff, reduceIte, wn, wd, w0, w8, w10, w9] <;> rfl))
  focus (apply Dn.mk; (simp only [evs, Nat.reduceEqDiff, reduceIte, wn, wd, w0, w8, w10, w9] <;> rfl))
  focus exact Hy.mk (by simp only [evs]; exact hin)
  focus exact Hy.mk (by simp only [evs]; exact s0)
  focus exact Hy.mk (by simp only [evs]; exact hX)
  focus exact Rf.mk
  focus (rw [hblt]; exact Rf.mk)
  focus (rw [hfl]; exact Rf.mk)
  focus (rw [hf1]; exact Rf.mk)
  focus exact Om.mk (by show 0 + _ ≤ _; omega)
  focus exact Rf.mk
  focus exact Rf.mk
  refine Cn.mk ?_
  intro lv' m4 s4 k4 o4 b4 f4
  simp only [evs, List.nil_append] at s4 k4
  (repeat (first | apply wpN_cons | apply g_next | (apply G.h; constructor <;> (first | exact Zc | apply gI | ((repeat' (first | exact Y0 | apply Y1 | ((first | apply Y4 | apply Y5); simp only [evs, Nat.reduceEqDiff, reduceIte, wn, wd, w0, w8, w10] <;> rfl))); done) | (apply Y6; (try simp only [evs, wn, wd, w0, w8, w10]); first | rfl)))))
  have hm12 : m1.next < ((m1.new (rowObj [.slice (some ⟨tb, 0, none⟩) (toksK n).length tcap, I 0, I 0, I 0, I 0] 71 0))).next := r2.1
  have k24 : Keep (fun c => c < m.next) [43, 71] (m1.new (rowObj [.slice (some ⟨tb, 0, none⟩) (toksK n).length tcap, I 0, I 0, I 0, I 0] 71 0)) m4 := ((k3.mono (by simp)).sub fun c hc => ⟨Nat.lt_of_lt_of_le hc k12.1, by omega⟩).trans (k4.mono (by simp))
  have h4 : Rd m4 m1.next tb tcap (toksK n) (6 + 5 * n) 0 := ⟨h3.row.stay k4 (.inr (by decide)), h3.tk.any k4 (by decide)⟩
  refine ih false _ ⟨(by refine ⟨?_, ?_, ?_, ?_, ?_⟩ <;> (simp only [evs, Nat.reduceEqDiff, reduceIte, wn, wd, w0, w8, w10] <;> first | rfl | (congr 1; omega) | omega)), by simp only [evs]; exact (k12.mono (by simp)).trans k24, by simp only [evs]; exact Nat.le_trans k12.1 k24.1, ?_⟩ (by decide)
  rw [if_neg (by decide)]
  exact ⟨by simp only [evs]; exact h4, lv', by (simp only [evs, Nat.reduceEqDiff, reduceIte, wn, wd, w0, w8, w10] <;> first | rfl | (congr 1; omega) | omega), by simp only [evs]; exact s4⟩
 | false =>
  clear ih
  rw [if_neg (by decide)] at hs w10
  obtain ⟨h3, lv, w9, s3⟩ := hs
  have h3w := h3.row
  have hkz := h3.kind tz
  generalize hL : (⟨12, 1, [102], 0, 0⟩ :: ⟨2, n, [], 0, 7⟩ :: decls 0 n : List Nd) = L at s3
  have hLl : L.length = 2 + 2 * n := by rw [← hL, List.length_cons, List.length_cons, decls_len]; omega
  (repeat (first | apply wpN_cons | apply g_next | (apply G.h; constructor <;> (first | exact Zc | apply gI | ((repeat' (first | exact Y0 | apply Y1 | ((first | apply Y4 | apply Y5); simp only [evs, Nat.reduceEqDiff, reduceIte, wn, wd, w0, w8, w10, w9] <;> rfl))); done) | (apply Y6; (try simp only [evs, wn, wd, w0, w8, w10, w9]); first | exact h3w.load1 rfl rfl rfl | exact hkz)))))
  ((first | apply g_run | apply g_run0) <;> (first | ((repeat' (first | exact Y0 | apply Y1 | exact Y2 | apply Y3 | ((first | apply Y4 | apply Y5); simp only [evs, Nat.reduceEqDiff, reduceIte, wn, wd, w0, w8, w10, w9] <;> rfl))); done) | exact Rn.mk ((by simp only [evs, wn, wd, w0, w8, w10, w9]; exact join26 ⟨1, 0, [], 0, 0⟩ 1 L (by omega) (by omega) s3)) | apply Cn.mk))
  rintro v3 m6 ⟨k6, s6⟩
  try simp only [evs] at k6 s6
  (repeat (first | apply wpN_cons | apply g_next | (apply G.h; constructor <;> (first | exact Zc | apply gI | ((repeat' (first | exact Y0 | apply Y1 | ((first | apply Y4 | apply Y5); simp only [evs, Nat.reduceEqDiff, reduceIte, wn, wd, w0, w8, w10, w9] <;> rfl))); done) | (apply Y6; (try simp only [evs, wn, wd, w0, w8, w10, w9]); first | rfl)))))
  (refine g_fin (by repeat' first | exact Rs.nil | apply Rs.cons | (apply Y4; simp only [evs, Nat.reduceEqDiff, reduceIte, wn, wd, w0, w8, w10, w9] <;> rfl)) (by (simp only [evs, Nat.reduceEqDiff, reduceIte, wn, wd, w0, w8, w10, w9] <;> first | rfl | (congr 1; omega) | omega)) ?_)
  refine ⟨?_, v3, rfl, ?_⟩
  ·simp only [evs]
   exact (wk.trans k6.all).all
  ·simp only [evs]
   have s7 : Sl (fun c => c < m.next) m6 v3 43 5 (nflat (⟨1, 1, [], 0, 0⟩ :: L)) := s6.sub fun b _ hn hb => hn (Nat.lt_of_lt_of_le hb wx)
   rw [← hL] at s7
   exact s7
end Go.Proofs.YtihokakelnfdgaaDoor
