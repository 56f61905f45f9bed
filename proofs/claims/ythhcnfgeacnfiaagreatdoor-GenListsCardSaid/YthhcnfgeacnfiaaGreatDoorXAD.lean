/- Part of a verified evaluator of the model's programs and of runs by it: LE NA SXN MA SP. -/
import Derived.Test.YthhcnfgeacnfiaaGreatDoorXAC
import Derived.Test.YthhcnfgeacnfiaaGreatDoorXAB
import Derived.Test.YthhcnfgeacnfiaaGreatDoorEvG
namespace Go.Proofs.YthhcnfgeacnfiaaGreatDoor
open Go Go.Ev
set_option maxRecDepth 100000
set_option linter.unusedVariables false
set_option linter.unusedSimpArgs false
set_option pp.maxSteps 1500

/-- a token. -/
structure Tn where
 kind : Nat
 text : Bs
 num : Nat
 pos : Nat
def Tn.val (t : Tn) : List Value := [I t.kind, encS t.text, I t.num, I t.pos]
def encT (l : List Tn) : List Value := l.flatMap Tn.val
theorem encT_len (l : List Tn) : (encT l).length = l.length * 4 := by
 induction l with
 | nil => rfl
 | cons x l ih => unfold encT at ih ⊢; rw [List.flatMap_cons, List.length_append, ih, List.length_cons]; show 4 + _ = _; omega
def wordC (c : UInt8) : Bool := letterN c.toNat || digitN c.toNat
def wordLen : List UInt8 → Nat
 | [] => 0
 | c :: r => if wordC c then 1 + wordLen r else 0
def noEq : List UInt8 → Bool
 | x :: _ => decide (x.toNat ≠ 61)
 | [] => true
/-- the tokens of a text of names, words, single digits and single signs, from behind blanks on. -/
def lexStep (rec : List UInt8 → Nat → Option (List Tn)) (c : UInt8) (r : List UInt8) (p : Nat) : Option (List Tn) :=
  if letterN c.toNat then
   let n := wordLen (c :: r)
   let t := (c :: r).take n
   let s := (c :: r).drop n
   (rec (s.drop (skipL false s)) (p + n + skipL false s)).map ((⟨if wordB t then 2 else 1, t, 0, p⟩ : Tn) :: ·)
  else if digitN c.toNat then
   match r with
   | [] => none
   | x :: _ => if (c.toNat = 48 ∨ c.toNat = 49) ∧ digitN x.toNat = false ∧ letterN x.toNat = false then
     (rec (r.drop (skipL false r)) (p + 1 + skipL false r)).map ((⟨3, [], c.toNat - 48, p⟩ : Tn) :: ·)
    else none
  else if c.toNat = 34 then none
  else if signsL.contains c && noEq r then
   (rec (r.drop (skipL false r)) (p + 1 + skipL false r)).map ((⟨5, [c], 0, p⟩ : Tn) :: ·)
  else none
def lexF : Nat → List UInt8 → Nat → Option (List Tn)
 | 0, [], _ => some []
 | 0, _ :: _, _ => none
 | _ + 1, [], _ => some []
 | f + 1, c :: r, p => lexStep (lexF f) c r p
theorem lexF_succ (f : Nat) (c : UInt8) (r : List UInt8) (p : Nat) : lexF (f + 1) (c :: r) p = lexStep (lexF f) c r p := rfl
theorem lexF_nil (f p : Nat) : lexF f [] p = some [] := by cases f <;> rfl
theorem lexF_zero (c : UInt8) (r : List UInt8) (p : Nat) : lexF 0 (c :: r) p = none := rfl
theorem lexF_word {f : Nat} {c : UInt8} {r : List UInt8} {p : Nat} (h : letterN c.toNat = true) : lexF (f + 1) (c :: r) p = (lexF f (((c :: r).drop (wordLen (c :: r))).drop (skipL false ((c :: r).drop (wordLen (c :: r))))) (p + wordLen (c :: r) + skipL false ((c :: r).drop (wordLen (c :: r))))).map ((⟨if wordB ((c :: r).take (wordLen (c :: r))) then 2 else 1, (c :: r).take (wordLen (c :: r)), 0, p⟩ : Tn) :: ·) := by
 rw [lexF_succ]; unfold lexStep; rw [if_pos h]
theorem lexF_digit {f : Nat} {c : UInt8} {r : List UInt8} {p : Nat} {rest : List Tn} (h : letterN c.toNat = false) (h2 : digitN c.toNat = true) (hf : lexF (f + 1) (c :: r) p = some rest) :
  ∃ x r', r = x :: r' ∧ (c.toNat = 48 ∨ c.toNat = 49) ∧ digitN x.toNat = false ∧ letterN x.toNat = false ∧ ∃ rest', rest = (⟨3, [], c.toNat - 48, p⟩ : Tn) :: rest' ∧ lexF f (r.drop (skipL false r)) (p + 1 + skipL false r) = some rest' := by
 rw [lexF_succ] at hf
 unfold lexStep at hf
 rw [if_neg (by rw [h]; simp), if_pos h2] at hf
 cases r with
 | nil => cases hf
 | cons x r' =>
  simp only at hf
  split at hf
  ·rename_i hh
   obtain ⟨rest', e1, e2⟩ := Option.map_eq_some_iff.1 hf
   exact ⟨x, r', rfl, hh.1, hh.2.1, hh.2.2, rest', e2.symm, e1⟩
  ·cases hf
theorem lexF_sign {f : Nat} {c : UInt8} {r : List UInt8} {p : Nat} {rest : List Tn} (h : letterN c.toNat = false) (h2 : digitN c.toNat = false) (hf : lexF (f + 1) (c :: r) p = some rest) :
  c.toNat ≠ 34 ∧ c ∈ signsL ∧ (∀ x r', r = x :: r' → x.toNat ≠ 61) ∧ ∃ rest', rest = (⟨5, [c], 0, p⟩ : Tn) :: rest' ∧ lexF f (r.drop (skipL false r)) (p + 1 + skipL false r) = some rest' := by
 rw [lexF_succ] at hf
 unfold lexStep at hf
 rw [if_neg (by rw [h]; simp), if_neg (by rw [h2]; simp)] at hf
 by_cases h34 : c.toNat = 34
 ·simp [h34] at hf
 ·rw [if_neg h34] at hf
  by_cases hh : (signsL.contains c && noEq r) = true
  ·rw [if_pos hh] at hf
   simp only [Bool.and_eq_true] at hh
   obtain ⟨rest', e1, e2⟩ := Option.map_eq_some_iff.1 hf
   refine ⟨h34, by simpa using hh.1, fun x r' hr => ?_, rest', e2.symm, e1⟩
   subst hr
   exact of_decide_eq_true hh.2
  ·rw [if_neg hh] at hf; cases hf
def lexM (bs : List UInt8) : Option (List Tn) := (lexF bs.length (bs.drop (skipL false bs)) (skipL false bs)).map (· ++ [⟨0, [], 0, bs.length⟩])
example : lexM [102, 110, 32, 102, 40, 41, 32, 123, 32, 118, 97, 114, 32, 122, 113, 97, 97, 32, 61, 32, 49, 59, 32, 125] = some [⟨2, [102, 110], 0, 0⟩, ⟨1, [102], 0, 3⟩, ⟨5, [40], 0, 4⟩, ⟨5, [41], 0, 5⟩, ⟨5, [123], 0, 7⟩, ⟨2, [118, 97, 114], 0, 9⟩, ⟨1, [122, 113, 97, 97], 0, 13⟩, ⟨5, [61], 0, 18⟩, ⟨3, [], 1, 20⟩, ⟨5, [59], 0, 21⟩, ⟨5, [125], 0, 23⟩, ⟨0, [], 0, 24⟩] := by rfl
theorem Sl.form2' {X : Nat → Prop} {m : Mem} {v : Value} {l : List Value} (h : Sl X m v 87 4 l) {n : Nat} (hl : l.length = n * 4) : ∃ a c, v = .slice a n c := by
 obtain ⟨a, k, c, rfl, hk⟩ := Go.Ev.Sl.form h (by decide)
 have : k = n := by omega
 exact ⟨a, c, by rw [this]⟩
theorem wordLen_le : ∀ l : List UInt8, wordLen l ≤ l.length
 | [] => Nat.le_refl _
 | c :: r => by
  rw [wordLen]
  have := wordLen_le r
  split
  ·rw [List.length_cons]; omega
  ·exact Nat.zero_le _
theorem first_ix {α : Type} [DecidableEq α] (c : α) : ∀ (l : List α), c ∈ l → ∃ j : Nat, l[j]? = some c ∧ ∀ i, i < j → l[i]? ≠ some c
 | x :: l, h => by
  by_cases hx : x = c
  ·exact ⟨0, by rw [hx]; rfl, fun i hi => by omega⟩
  ·obtain ⟨j, h1, h2⟩ := first_ix c l ((List.mem_cons.1 h).resolve_left fun e => hx e.symm)
   refine ⟨j + 1, h1, fun i hi => ?_⟩
   cases i with
   | zero => intro e; cases e; exact hx rfl
   | succ i => exact h2 i (by omega)
attribute [local irreducible] quiet allocs effect wp ret wpO Runs Act.tmp Act.eval fin results Tree.set binOp loadAt storeAt target wanted cellsFrom

set_option maxHeartbeats 2000000 in
theorem lex24 (b off cap : Nat) (bs : List UInt8) (hl : bs.length ≤ 16000) (hcap : bs.length ≤ cap) (toks : List Tn) (hM : lexM bs = some toks) (m : Mem) (hB : Bts m b off bs) :
  Runs evEnv 25 [.slice (some ⟨b, off, none⟩) bs.length cap] m fun v m' => Keep (fun c => c < m.next) [87] m m' ∧ ∃ ov, v = .tuple ⟨[ov, I 0, I bs.length]⟩ ∧ Sl (fun c => c < m.next) m' ov 87 4 (encT toks) := by
 refine runs_start rfl rfl rfl rfl ?_
 (repeat (first | (apply G.h; constructor <;> (first | exact Zc | apply gI | ((repeat' (first | exact Y0 | apply Y1 | ((first | apply Y4 | apply Y5); simp only [evs, Nat.reduceEqDiff, reduceIte] <;> rfl))); done) | (apply Y6; (try simp only [evs]); first | rfl)))))
 ((first | apply g_run | apply g_run0) <;> (first | ((repeat' (first | exact Y0 | apply Y1 | exact Y2 | apply Y3 | ((first | apply Y4 | apply Y5); simp only [evs, Nat.reduceEqDiff, reduceIte] <;> rfl))); done) | exact Rn.mk (skip36 b off cap bs (by omega) 0 (Nat.zero_le _) _ (by simp only [evs]; exact hB)) | apply Cn.mk))
 rintro v m1 ⟨rfl, rfl, hs1⟩
 rw [List.drop_zero, Nat.zero_add] at hs1 ⊢
 (repeat (first | (apply G.h; constructor <;> (first | exact Zc | apply gI | ((repeat' (first | exact Y0 | apply Y1 | ((first | apply Y4 | apply Y5); simp only [evs, Nat.reduceEqDiff, reduceIte] <;> rfl))); done) | (apply Y6; (try simp only [evs]); first | rfl)))))
 unfold lexM at hM
 obtain ⟨rest0, hr0, ht0⟩ := Option.map_eq_some_iff.1 hM
 refine ewp_loop (ι := Nat) (fun p a => (a.n = 113 ∧ a.defers = [] ∧ a.tmp 0 = .slice (some ⟨b, off, none⟩) bs.length cap ∧ a.tmp 6 = I p) ∧ p ≤ bs.length ∧ Keep (fun c => c < m.next) [87] m a.m ∧ ∃ f L rest, lexF f (bs.drop p) p = some rest ∧ toks = L ++ rest ++ [⟨0, [], 0, bs.length⟩] ∧ L.length ≤ p ∧ Sl (fun c => c < m.next) a.m (a.tmp 5) 87 4 (encT L)) (fun p => bs.length - p) (skipL false bs) ?_ ?_
 ·refine ⟨(by refine ⟨?_, ?_, ?_, ?_⟩ <;> (simp only [evs, Nat.reduceEqDiff, reduceIte] <;> first | rfl | (congr 1; omega) | omega)), hs1, by simp only [evs]; exact Keep.refl, _, [], rest0, hr0, by rw [List.nil_append]; exact ht0.symm, Nat.zero_le _, .inl ⟨by (simp only [evs, Nat.reduceEqDiff, reduceIte] <;> first | rfl | (congr 1; omega) | omega), rfl⟩⟩
 rintro p a ⟨⟨qn, qd, q0, q6⟩, hp, kk, f, L, rest, hf, htk, hLp, sL⟩ ih
 obtain ⟨oa, oc, q5⟩ := Sl.form2' sL (encT_len L)
 rw [q5] at sL
 rcases Nat.lt_or_ge p bs.length with hlt | hge
 ·obtain ⟨c, hc⟩ : ∃ c, bs[p]? = some c := ⟨_, List.getElem?_eq_getElem hlt⟩
  have hdr := drop_at hc
  rw [hdr] at hf
  cases f with
  | zero => rw [lexF_zero] at hf; cases hf
  | succ f =>
  have hB1 : Bts a.m b off bs := by
   obtain ⟨h0, n, cc, el, kd, h1, h2⟩ := hB
   exact ⟨Nat.lt_of_lt_of_le h0 kk.1, n, cc, el, kd, kk.2 _ _ h0 h1 (.inl h0), h2⟩
  have gA : Grow a.m (a.m.new (rowObj [I 0, encS [], I 0, I 0] 87 0)) := (Grow.refl _).new _
  have hld := (hB1.grow gA).load hc
  have z7 := row_new a.m [I 0, encS [], I 0, I 0] 87 0
  (repeat (first | (apply G.h; constructor <;> (first | exact Zc | apply gI | ((repeat' (first | exact Y0 | apply Y1 | ((first | apply Y4 | apply Y5); simp only [evs, Nat.reduceEqDiff, reduceIte, qn, qd, q0, q5, q6] <;> rfl))); done) | (apply Y6; (try simp only [evs, qn, qd, q0, q5, q6]); first | exact hld)))))
  ((first | apply g_run | apply g_run0) <;> (first | ((repeat' (first | exact Y0 | apply Y1 | exact Y2 | apply Y3 | ((first | apply Y4 | apply Y5); simp only [evs, Nat.reduceEqDiff, reduceIte, qn, qd, q0, q5, q6] <;> rfl))); done) | exact Rn.mk (letter44 c.toNat _) | apply Cn.mk))
  rintro v m4 ⟨rfl, rfl⟩
  cases hlet : letterN c.toNat with
  | true =>
   rw [lexF_word hlet, ← hdr] at hf
   obtain ⟨rest', hf', hre⟩ := Option.map_eq_some_iff.1 hf
   subst hre
   have hle : p + wordLen (bs.drop p) ≤ bs.length := by
    have := wordLen_le (bs.drop p)
    rw [List.length_drop] at this; omega
   have hw1 : 1 ≤ wordLen (bs.drop p) := by
    rw [hdr, wordLen, if_pos (by unfold wordC; rw [hlet]; rfl)]; omega
   (repeat (first | (apply G.h; constructor <;> (first | exact Zc | apply gI | ((repeat' (first | exact Y0 | apply Y1 | ((first | apply Y4 | apply Y5); simp only [evs, Nat.reduceEqDiff, reduceIte, qn, qd, q0, q5, q6, q5] <;> rfl))); done) | (apply Y6; (try simp only [evs, qn, qd, q0, q5, q6, q5]); first | exact hld)))))
   refine ewp_loop (ι := Nat) (fun r a' => (a'.n = 113 ∧ a'.defers = [] ∧ a'.tmp 0 = .slice (some ⟨b, off, none⟩) bs.length cap ∧ a'.tmp 5 = .slice oa L.length oc ∧ a'.tmp 6 = I p ∧ a'.tmp 7 = ptr a.m.next ∧ a'.tmp 8 = I r ∧ a'.tmp 9 = I 0) ∧ a'.m = a.m.new (rowObj [I 0, encS [], I 0, I 0] 87 0) ∧ p ≤ r ∧ r ≤ bs.length ∧ r + wordLen (bs.drop r) = p + wordLen (bs.drop p)) (fun r => bs.length - r) p ?_ ?_
   ·exact ⟨(by refine ⟨?_, ?_, ?_, ?_, ?_, ?_, ?_, ?_⟩ <;> (simp only [evs, Nat.reduceEqDiff, reduceIte, qn, qd, q0, q5, q6, q5] <;> first | rfl | (congr 1; omega) | omega)), by (simp only [evs, Nat.reduceEqDiff, reduceIte] <;> first | rfl | (congr 1; omega) | omega), Nat.le_refl _, hp, rfl⟩
   clear qn qd q0 q6 q5
   rintro r a2 ⟨⟨vn, vd, v0, v5, v6, v7, v8, v9⟩, vm, hpr, hrl, hrw⟩ ihr
   have hend : r + wordLen (bs.drop r) = r ∨ ∃ x, bs[r]? = some x ∧ wordC x = true ∧ r + 1 + wordLen (bs.drop (r + 1)) = r + wordLen (bs.drop r) := by
    rcases Nat.lt_or_ge r bs.length with h | h
    ·have hx : bs[r]? = some bs[r] := List.getElem?_eq_getElem h
     rw [drop_at hx, wordLen]
     cases hwc : wordC bs[r] with
     | true => exact .inr ⟨_, hx, hwc, by rw [if_pos rfl]; omega⟩
     | false => exact .inl (by simp)
    ·left; rw [List.drop_eq_nil_of_le h]; rfl
   rcases hend with hend | ⟨x, hx, hxw, hxn⟩
   ·clear ihr
    have hwl : r - p = wordLen (bs.drop p) := by omega
    have hrp : p + wordLen (bs.drop p) = r := by omega
    have hpr1 : p < r := by omega
    obtain ⟨n, cc, el, kd, Lc, p1, p2, p3, p4⟩ := (hB1.grow gA).part (lo := p) (hi := r) hpr hrl
    rw [hrp, ← hwl] at hf'
    have hfd : (bs.drop p).drop (r - p) = bs.drop r := by rw [List.drop_drop]; congr 1; omega
    rw [hfd] at hf'
    rw [← hwl] at htk
    generalize (bs.drop p).take (r - p) = tx at p4 htk
    have hside : r = bs.length ∨ ∃ x, bs[r]? = some x ∧ letterN x.toNat = false ∧ digitN x.toNat = false := by
     rcases Nat.lt_or_ge r bs.length with h | h
     ·have hx : bs[r]? = some bs[r] := List.getElem?_eq_getElem h
      rw [drop_at hx, wordLen] at hend
      cases hwc : wordC bs[r] with
      | true => rw [hwc, if_pos rfl] at hend; omega
      | false =>
       unfold wordC at hwc
       simp only [Bool.or_eq_false_iff] at hwc
       exact .inr ⟨_, hx, hwc.1, hwc.2⟩
     ·exact .inl (by omega)
    rcases hside with hlen | ⟨x, hx, hxl, hxd⟩
    case' inl =>
     (repeat (first | (apply G.h; constructor <;> (first | exact Zc | apply gI | ((repeat' (first | exact Y0 | apply Y1 | ((first | apply Y4 | apply Y5); simp only [evs, Nat.reduceEqDiff, reduceIte, vn, vd, v0, v5, v6, v7, v8, v9, vm] <;> rfl))); done) | (apply Y6; (try simp only [evs, vn, vd, v0, v5, v6, v7, v8, v9, vm]); first | rfl)))))
    case' inr =>
     have hlx := (hB1.grow gA).load hx
     have hrlt := (List.getElem?_eq_some_iff.1 hx).1
     (repeat (first | (apply G.h; constructor <;> (first | exact Zc | apply gI | ((repeat' (first | exact Y0 | apply Y1 | ((first | apply Y4 | apply Y5); simp only [evs, Nat.reduceEqDiff, reduceIte, vn, vd, v0, v5, v6, v7, v8, v9, vm] <;> rfl))); done) | (apply Y6; (try simp only [evs, vn, vd, v0, v5, v6, v7, v8, v9, vm]); first | exact hlx)))))
     ((first | apply g_run | apply g_run0) <;> (first | ((repeat' (first | exact Y0 | apply Y1 | exact Y2 | apply Y3 | ((first | apply Y4 | apply Y5); simp only [evs, Nat.reduceEqDiff, reduceIte, vn, vd, v0, v5, v6, v7, v8, v9, vm] <;> rfl))); done) | exact Rn.mk (letter44 x.toNat _) | apply Cn.mk))
     rintro v m4 ⟨rfl, rfl⟩
     rw [hxl]
     (repeat (first | (apply G.h; constructor <;> (first | exact Zc | apply gI | ((repeat' (first | exact Y0 | apply Y1 | ((first | apply Y4 | apply Y5); simp only [evs, Nat.reduceEqDiff, reduceIte, vn, vd, v0, v5, v6, v7, v8, v9, vm] <;> rfl))); done) | (apply Y6; (try simp only [evs, vn, vd, v0, v5, v6, v7, v8, v9, vm]); first | exact hlx)))))
     ((first | apply g_run | apply g_run0) <;> (first | ((repeat' (first | exact Y0 | apply Y1 | exact Y2 | apply Y3 | ((first | apply Y4 | apply Y5); simp only [evs, Nat.reduceEqDiff, reduceIte, vn, vd, v0, v5, v6, v7, v8, v9, vm] <;> rfl))); done) | exact Rn.mk (digit45 x.toNat _) | apply Cn.mk))
     rintro v m4 ⟨rfl, rfl⟩
     rw [hxd]
     (repeat (first | (apply G.h; constructor <;> (first | exact Zc | apply gI | ((repeat' (first | exact Y0 | apply Y1 | ((first | apply Y4 | apply Y5); simp only [evs, Nat.reduceEqDiff, reduceIte, vn, vd, v0, v5, v6, v7, v8, v9, vm] <;> rfl))); done) | (apply Y6; (try simp only [evs, vn, vd, v0, v5, v6, v7, v8, v9, vm]); first | rfl)))))
    all_goals
     (apply g_slice2 <;> (first | exact Zc | apply gI | ((repeat' (first | exact Y0 | apply Y1 | exact Y2 | apply Y3 | ((first | apply Y4 | apply Y5); simp only [evs, Nat.reduceEqDiff, reduceIte, vn, vd, v0, v5, v6, v7, v8, v9] <;> rfl))); done) | (apply Hy.mk; (try simp only [evs, vn, vd, v0, v5, v6, v7, v8, v9]); first | fail | assumption) | (apply Om.mk; first | fail) | (apply Y6; (try simp only [evs, vn, vd, v0, v5, v6, v7, v8, v9]); first | rfl) | apply Cn.mk))
     (repeat (first | (apply G.h; constructor <;> (first | exact Zc | apply gI | ((repeat' (first | exact Y0 | apply Y1 | ((first | apply Y4 | apply Y5); simp only [evs, Nat.reduceEqDiff, reduceIte, vn, vd, v0, v5, v6, v7, v8, v9] <;> rfl))); done) | (apply Y6; (try simp only [evs, vn, vd, v0, v5, v6, v7, v8, v9]); first | rfl)))))
     (apply g_bytesStr <;> (first | exact Zc | apply gI | ((repeat' (first | exact Y0 | apply Y1 | exact Y2 | apply Y3 | ((first | apply Y4 | apply Y5); simp only [evs, Nat.reduceEqDiff, reduceIte, vn, vd, v0, v5, v6, v7, v8, v9, vm] <;> rfl))); done) | (apply Hy.mk; (try simp only [evs, vn, vd, v0, v5, v6, v7, v8, v9, vm]); first | exact p1 | exact p2 | exact p3 | exact p4 | assumption) | (apply Om.mk; first | exact p1 | exact p2 | exact p3 | exact p4) | (apply Y6; (try simp only [evs, vn, vd, v0, v5, v6, v7, v8, v9, vm]); first | rfl) | apply Cn.mk))
     (repeat (first | (apply G.h; constructor <;> (first | exact Zc | apply gI | ((repeat' (first | exact Y0 | apply Y1 | ((first | apply Y4 | apply Y5); simp only [evs, Nat.reduceEqDiff, reduceIte, vn, vd, v0, v5, v6, v7, v8, v9, vm] <;> rfl))); done) | (apply Y6; (try simp only [evs, vn, vd, v0, v5, v6, v7, v8, v9, vm]); first | rfl)))))
     (apply g_stR <;> (first | exact Zc | apply gI | ((repeat' (first | exact Y0 | apply Y1 | exact Y2 | apply Y3 | ((first | apply Y4 | apply Y5); simp only [evs, Nat.reduceEqDiff, reduceIte, vn, vd, v0, v5, v6, v7, v8, v9, vm] <;> rfl))); done) | (apply Hy.mk; (try simp only [evs, vn, vd, v0, v5, v6, v7, v8, v9, vm]); first | exact z7 | assumption) | (apply Om.mk; first | exact z7) | (apply Y6; (try simp only [evs, vn, vd, v0, v5, v6, v7, v8, v9, vm]); first | rfl) | apply Cn.mk))
     intro m5 r5 o5 n5; simp only [evs, vn, vd, v0, v5, v6, v7, v8, v9, vm] at r5 o5 n5
     replace r5 : Row m5 a.m.next [I 1, encS tx, I 0, I p] 87 0 := r5
     have g45 : Grow a.m m5 := gA.wrote (b := a.m.next) (Nat.le_refl _) o5 n5
     (repeat (first | (apply G.h; constructor <;> (first | exact Zc | apply gI | ((repeat' (first | exact Y0 | apply Y1 | ((first | apply Y4 | apply Y5); simp only [evs, Nat.reduceEqDiff, reduceIte, vn, vd, v0, v5, v6, v7, v8, v9] <;> rfl))); done) | (apply Y6; (try simp only [evs, vn, vd, v0, v5, v6, v7, v8, v9]); first | exact r5.load1 rfl rfl rfl)))))
     ((first | apply g_run | apply g_run0) <;> (first | ((repeat' (first | exact Y0 | apply Y1 | exact Y2 | apply Y3 | ((first | apply Y4 | apply Y5); simp only [evs, Nat.reduceEqDiff, reduceIte, vn, vd, v0, v5, v6, v7, v8, v9] <;> rfl))); done) | exact Rn.mk (word46 tx _) | apply Cn.mk))
     rintro v m6w ⟨rfl, gw⟩
     try simp only [evs] at gw
     have r6w := r5.grow gw
     cases hwd : wordB tx
     case' true =>
      (repeat (first | (apply G.h; constructor <;> (first | exact Zc | apply gI | ((repeat' (first | exact Y0 | apply Y1 | ((first | apply Y4 | apply Y5); simp only [evs, Nat.reduceEqDiff, reduceIte, vn, vd, v0, v5, v6, v7, v8, v9] <;> rfl))); done) | (apply Y6; (try simp only [evs, vn, vd, v0, v5, v6, v7, v8, v9]); first | rfl)))))
      (apply g_stR <;> (first | exact Zc | apply gI | ((repeat' (first | exact Y0 | apply Y1 | exact Y2 | apply Y3 | ((first | apply Y4 | apply Y5); simp only [evs, Nat.reduceEqDiff, reduceIte, vn, vd, v0, v5, v6, v7, v8, v9] <;> rfl))); done) | (apply Hy.mk; (try simp only [evs, vn, vd, v0, v5, v6, v7, v8, v9]); first | exact r6w | assumption) | (apply Om.mk; first | exact r6w) | (apply Y6; (try simp only [evs, vn, vd, v0, v5, v6, v7, v8, v9]); first | rfl) | apply Cn.mk))
      intro mT rT oT nT; simp only [evs, vn, vd, v0, v5, v6, v7, v8, v9] at rT oT nT
      obtain ⟨tk, htk1⟩ : ∃ tk : Tn, tk = ⟨2, tx, 0, p⟩ := ⟨_, rfl⟩
      replace rT : Row mT a.m.next (Tn.val tk) 87 0 := by rw [htk1]; exact rT
      have htk' : toks = L ++ (tk :: rest') ++ [⟨0, [], 0, bs.length⟩] := by rw [htk, hwd, htk1]; rfl
      have gT : Grow a.m mT := (g45.trans gw).wrote (b := a.m.next) (Nat.le_refl _) oT nT
      (repeat (first | (apply G.h; constructor <;> (first | exact Zc | apply gI | ((repeat' (first | exact Y0 | apply Y1 | ((first | apply Y4 | apply Y5); simp only [evs, Nat.reduceEqDiff, reduceIte, vn, vd, v0, v5, v6, v7, v8, v9] <;> rfl))); done) | (apply Y6; (try simp only [evs, vn, vd, v0, v5, v6, v7, v8, v9]); first | rfl)))))
     case' false =>
      obtain ⟨mT, rfl⟩ : ∃ x, x = m6w := ⟨_, rfl⟩
      obtain ⟨tk, htk1⟩ : ∃ tk : Tn, tk = ⟨1, tx, 0, p⟩ := ⟨_, rfl⟩
      have rT : Row mT a.m.next (Tn.val tk) 87 0 := by rw [htk1]; exact r6w
      have htk' : toks = L ++ (tk :: rest') ++ [⟨0, [], 0, bs.length⟩] := by rw [htk, hwd, htk1]; rfl
      have gT : Grow a.m mT := g45.trans gw
      (repeat (first | (apply G.h; constructor <;> (first | exact Zc | apply gI | ((repeat' (first | exact Y0 | apply Y1 | ((first | apply Y4 | apply Y5); simp only [evs, Nat.reduceEqDiff, reduceIte, vn, vd, v0, v5, v6, v7, v8, v9] <;> rfl))); done) | (apply Y6; (try simp only [evs, vn, vd, v0, v5, v6, v7, v8, v9]); first | rfl)))))
     all_goals
      have sT := sL.grow gT
      have s5 := sT.grow ((Grow.refl mT).new (rowObj tk.val 87 0))
      have hX5 : ∀ c, c < m.next → c < (mT.new (rowObj tk.val 87 0)).next := fun c hc => Nat.lt_succ_of_lt (Nat.lt_of_lt_of_le (Nat.lt_of_lt_of_le hc kk.1) gT.1)
      have hin5 : effect.cellsIn (mT.new (rowObj tk.val 87 0)) 4 (.slice (some ⟨mT.next, 0, none⟩) 1 1) = some (1, tk.val) := cellsIn_row (kc := 1) (new := tk.val) (row_new mT tk.val 87 0) (Nat.le_refl 4) rfl
      have hlen5 : (encT L).length ≤ 100000 := by rw [encT_len]; omega
      (repeat (first | (apply G.h; constructor <;> (first | exact Zc | apply gI | ((repeat' (first | exact Y0 | apply Y1 | ((first | apply Y4 | apply Y5); simp only [evs, Nat.reduceEqDiff, reduceIte, vn, vd, v0, v5, v6, v7, v8, v9] <;> rfl))); done) | (apply Y6; (try simp only [evs, vn, vd, v0, v5, v6, v7, v8, v9]); first | exact rT.loadA rfl rfl rfl (Nat.le_refl 4) rfl)))))
      (apply g_app <;> (first | exact Zc | apply gI | ((repeat' (first | exact Y0 | apply Y1 | exact Y2 | apply Y3 | ((first | apply Y4 | apply Y5); simp only [evs, Nat.reduceEqDiff, reduceIte, vn, vd, v0, v5, v6, v7, v8, v9] <;> rfl))); done) | (apply Hy.mk; (try simp only [evs, vn, vd, v0, v5, v6, v7, v8, v9]); first | exact hin5 | exact s5 | exact hX5 | assumption) | (apply Om.mk; first | exact hin5 | exact s5 | exact hX5) | (apply Y6; (try simp only [evs, vn, vd, v0, v5, v6, v7, v8, v9]); first | rfl) | apply Cn.mk))
      intro v' m6 s6 k6 o6 b6 f6
      simp only [evs, vn, vd, v0, v5, v6, v7, v8, v9] at k6
      have K6 : Keep (fun c => c < m.next) [87] m m6 := ((kk.trans (Keep.grow gT)).trans (Keep.new _)).trans k6
      have B6 : Bts m6 b off bs := by
       obtain ⟨h0, n, cc, el, kd, h1, h2⟩ := hB
       exact ⟨Nat.lt_of_lt_of_le h0 K6.1, n, cc, el, kd, K6.2 _ _ h0 h1 (.inl h0), h2⟩
      have hS2 := skip36 b off cap bs (by omega) r hrl m6 B6
      (repeat (first | (apply G.h; constructor <;> (first | exact Zc | apply gI | ((repeat' (first | exact Y0 | apply Y1 | ((first | apply Y4 | apply Y5); simp only [evs, Nat.reduceEqDiff, reduceIte, vn, vd, v0, v5, v6, v7, v8, v9] <;> rfl))); done) | (apply Y6; (try simp only [evs, vn, vd, v0, v5, v6, v7, v8, v9]); first | rfl)))))
      ((first | apply g_run | apply g_run0) <;> (first | ((repeat' (first | exact Y0 | apply Y1 | exact Y2 | apply Y3 | ((first | apply Y4 | apply Y5); simp only [evs, Nat.reduceEqDiff, reduceIte, vn, vd, v0, v5, v6, v7, v8, v9] <;> rfl))); done) | exact Rn.mk ((by simp only [evs]; exact hS2)) | apply Cn.mk))
      rintro v m7 ⟨rfl, rfl, hs7⟩
      (repeat (first | (apply G.h; constructor <;> (first | exact Zc | apply gI | ((repeat' (first | exact Y0 | apply Y1 | ((first | apply Y4 | apply Y5); simp only [evs, Nat.reduceEqDiff, reduceIte, vn, vd, v0, v5, v6, v7, v8, v9] <;> rfl))); done) | (apply Y6; (try simp only [evs, vn, vd, v0, v5, v6, v7, v8, v9]); first | rfl)))))
      rw [List.drop_drop] at hf'
      refine ih (r + skipL false (bs.drop r)) _ ⟨(by refine ⟨?_, ?_, ?_, ?_⟩ <;> (simp only [evs, Nat.reduceEqDiff, reduceIte, vn, vd, v0, v5, v6, v7, v8, v9] <;> first | rfl | (congr 1; omega) | omega)), hs7, by simp only [evs]; exact K6, f, L ++ [tk], rest', hf', by rw [htk']; simp, by rw [List.length_append]; show L.length + 1 ≤ _; omega, ?_⟩ (by omega)
      have he : encT (L ++ [tk]) = encT L ++ tk.val := by unfold encT; rw [List.flatMap_append]; simp
      rw [he]
      simp only [evs, Nat.reduceEqDiff, reduceIte]
      exact s6
   ·have hrlt := (List.getElem?_eq_some_iff.1 hx).1
    have hlx := (hB1.grow gA).load hx
    (repeat (first | (apply G.h; constructor <;> (first | exact Zc | apply gI | ((repeat' (first | exact Y0 | apply Y1 | ((first | apply Y4 | apply Y5); simp only [evs, Nat.reduceEqDiff, reduceIte, vn, vd, v0, v5, v6, v7, v8, v9, vm] <;> rfl))); done) | (apply Y6; (try simp only [evs, vn, vd, v0, v5, v6, v7, v8, v9, vm]); first | exact hlx)))))
    ((first | apply g_run | apply g_run0) <;> (first | ((repeat' (first | exact Y0 | apply Y1 | exact Y2 | apply Y3 | ((first | apply Y4 | apply Y5); simp only [evs, Nat.reduceEqDiff, reduceIte, vn, vd, v0, v5, v6, v7, v8, v9, vm] <;> rfl))); done) | exact Rn.mk (letter44 x.toNat _) | apply Cn.mk))
    rintro v m4 ⟨rfl, rfl⟩
    cases hxl : letterN x.toNat with
    | true =>
     (repeat (first | (apply G.h; constructor <;> (first | exact Zc | apply gI | ((repeat' (first | exact Y0 | apply Y1 | ((first | apply Y4 | apply Y5); simp only [evs, Nat.reduceEqDiff, reduceIte, vn, vd, v0, v5, v6, v7, v8, v9, vm] <;> rfl))); done) | (apply Y6; (try simp only [evs, vn, vd, v0, v5, v6, v7, v8, v9, vm]); first | rfl)))))
     exact ihr (r + 1) _ ⟨(by refine ⟨?_, ?_, ?_, ?_, ?_, ?_, ?_, ?_⟩ <;> (simp only [evs, Nat.reduceEqDiff, reduceIte, vn, vd, v0, v5, v6, v7, v8, v9] <;> first | rfl | (congr 1; omega) | omega)), by (simp only [evs, Nat.reduceEqDiff, reduceIte, vm] <;> first | rfl | (congr 1; omega) | omega), by omega, hrlt, by omega⟩ (by omega)
    | false =>
     have hxd : digitN x.toNat = true := by unfold wordC at hxw; rw [hxl] at hxw; simpa using hxw
     (repeat (first | (apply G.h; constructor <;> (first | exact Zc | apply gI | ((repeat' (first | exact Y0 | apply Y1 | ((first | apply Y4 | apply Y5); simp only [evs, Nat.reduceEqDiff, reduceIte, vn, vd, v0, v5, v6, v7, v8, v9, vm] <;> rfl))); done) | (apply Y6; (try simp only [evs, vn, vd, v0, v5, v6, v7, v8, v9, vm]); first | exact hlx)))))
     ((first | apply g_run | apply g_run0) <;> (first | ((repeat' (first | exact Y0 | apply Y1 | exact Y2 | apply Y3 | ((first | apply Y4 | apply Y5); simp only [evs, Nat.reduceEqDiff, reduceIte, vn, vd, v0, v5, v6, v7, v8, v9, vm] <;> rfl))); done) | exact Rn.mk (digit45 x.toNat _) | apply Cn.mk))
     rintro v m4 ⟨rfl, rfl⟩
     rw [hxd]
     (repeat (first | (apply G.h; constructor <;> (first | exact Zc | apply gI | ((repeat' (first | exact Y0 | apply Y1 | ((first | apply Y4 | apply Y5); simp only [evs, Nat.reduceEqDiff, reduceIte, vn, vd, v0, v5, v6, v7, v8, v9, vm] <;> rfl))); done) | (apply Y6; (try simp only [evs, vn, vd, v0, v5, v6, v7, v8, v9, vm]); first | rfl)))))
     exact ihr (r + 1) _ ⟨(by refine ⟨?_, ?_, ?_, ?_, ?_, ?_, ?_, ?_⟩ <;> (simp only [evs, Nat.reduceEqDiff, reduceIte, vn, vd, v0, v5, v6, v7, v8, v9] <;> first | rfl | (congr 1; omega) | omega)), by (simp only [evs, Nat.reduceEqDiff, reduceIte, vm] <;> first | rfl | (congr 1; omega) | omega), by omega, hrlt, by omega⟩ (by omega)
  | false =>
   (repeat (first | (apply G.h; constructor <;> (first | exact Zc | apply gI | ((repeat' (first | exact Y0 | apply Y1 | ((first | apply Y4 | apply Y5); simp only [evs, Nat.reduceEqDiff, reduceIte, qn, qd, q0, q5, q6] <;> rfl))); done) | (apply Y6; (try simp only [evs, qn, qd, q0, q5, q6]); first | exact hld)))))
   ((first | apply g_run | apply g_run0) <;> (first | ((repeat' (first | exact Y0 | apply Y1 | exact Y2 | apply Y3 | ((first | apply Y4 | apply Y5); simp only [evs, Nat.reduceEqDiff, reduceIte, qn, qd, q0, q5, q6] <;> rfl))); done) | exact Rn.mk (digit45 c.toNat _) | apply Cn.mk))
   rintro v m4 ⟨rfl, rfl⟩
   cases hdig : digitN c.toNat with
   | true =>
    obtain ⟨x, r', hr, hc01, hxd, hxl, rest', rfl, hf'⟩ := lexF_digit hlet hdig hf
    have hx : bs[p + 1]? = some x := by
     have := congrArg (fun l => l[0]?) hr
     simpa [List.getElem?_drop] using this
    rcases hc01 with hcv | hcv
    ·have hS := number40_48 b off cap bs (by omega) p c x hcv (a.m.new (rowObj [I 0, encS [], I 0, I 0] 87 0)) (hB1.grow gA) hc hx hxd hxl
     (repeat (first | (apply G.h; constructor <;> (first | exact Zc | apply gI | ((repeat' (first | exact Y0 | apply Y1 | ((first | apply Y4 | apply Y5); simp only [evs, Nat.reduceEqDiff, reduceIte, qn, qd, q0, q5, q6] <;> rfl))); done) | (apply Y6; (try simp only [evs, qn, qd, q0, q5, q6]); first | exact hld)))))
     ((first | apply g_run | apply g_run0) <;> (first | ((repeat' (first | exact Y0 | apply Y1 | exact Y2 | apply Y3 | ((first | apply Y4 | apply Y5); simp only [evs, Nat.reduceEqDiff, reduceIte, qn, qd, q0, q5, q6] <;> rfl))); done) | exact Rn.mk ((by simp only [evs]; exact hS)) | apply Cn.mk))
     rintro v m5 ⟨g5, rfl⟩
     have z75 := z7.grow g5
     (repeat (first | (apply G.h; constructor <;> (first | exact Zc | apply gI | ((repeat' (first | exact Y0 | apply Y1 | ((first | apply Y4 | apply Y5); simp only [evs, Nat.reduceEqDiff, reduceIte, qn, qd, q0, q5, q6] <;> rfl))); done) | (apply Y6; (try simp only [evs, qn, qd, q0, q5, q6]); first | rfl)))))
     (apply g_stR <;> (first | exact Zc | apply gI | ((repeat' (first | exact Y0 | apply Y1 | exact Y2 | apply Y3 | ((first | apply Y4 | apply Y5); simp only [evs, Nat.reduceEqDiff, reduceIte, qn, qd, q0, q5, q6] <;> rfl))); done) | (apply Hy.mk; (try simp only [evs, qn, qd, q0, q5, q6]); first | exact z75 | assumption) | (apply Om.mk; first | exact z75) | (apply Y6; (try simp only [evs, qn, qd, q0, q5, q6]); first | rfl) | apply Cn.mk))
     intro mT rT oT nT; simp only [evs, qn, qd, q0, q5, q6] at rT oT nT
     replace rT : Row mT a.m.next (Tn.val ⟨3, [], c.toNat - 48, p⟩) 87 0 := by rw [hcv]; exact rT
     (repeat (first | (apply G.h; constructor <;> (first | exact Zc | apply gI | ((repeat' (first | exact Y0 | apply Y1 | ((first | apply Y4 | apply Y5); simp only [evs, Nat.reduceEqDiff, reduceIte, qn, qd, q0, q5, q6] <;> rfl))); done) | (apply Y6; (try simp only [evs, qn, qd, q0, q5, q6]); first | rfl)))))
     have gT : Grow a.m mT := (gA.trans g5).wrote (b := a.m.next) (Nat.le_refl _) oT nT
     obtain ⟨tk, htk1⟩ : ∃ tk : Tn, tk = ⟨3, [], c.toNat - 48, p⟩ := ⟨_, rfl⟩
     rw [← htk1] at rT htk
     obtain ⟨nx, hnx1⟩ : ∃ nx, nx = p + 1 := ⟨_, rfl⟩
     have hnxl : nx ≤ bs.length := by omega
     have hpn : p < nx := by omega
     rw [← hnx1] at hf' ⊢
     have sT := sL.grow gT
     have s5 := sT.grow ((Grow.refl mT).new (rowObj tk.val 87 0))
     have hX5 : ∀ c, c < m.next → c < (mT.new (rowObj tk.val 87 0)).next := fun c hc => Nat.lt_succ_of_lt (Nat.lt_of_lt_of_le (Nat.lt_of_lt_of_le hc kk.1) gT.1)
     have hin5 : effect.cellsIn (mT.new (rowObj tk.val 87 0)) 4 (.slice (some ⟨mT.next, 0, none⟩) 1 1) = some (1, tk.val) := cellsIn_row (kc := 1) (new := tk.val) (row_new mT tk.val 87 0) (Nat.le_refl 4) rfl
     have hlen5 : (encT L).length ≤ 100000 := by rw [encT_len]; omega
     (repeat (first | (apply G.h; constructor <;> (first | exact Zc | apply gI | ((repeat' (first | exact Y0 | apply Y1 | ((first | apply Y4 | apply Y5); simp only [evs, Nat.reduceEqDiff, reduceIte, qn, qd, q0, q5, q6, q5] <;> rfl))); done) | (apply Y6; (try simp only [evs, qn, qd, q0, q5, q6, q5]); first | exact rT.loadA rfl rfl rfl (Nat.le_refl 4) rfl)))))
     (apply g_app <;> (first | exact Zc | apply gI | ((repeat' (first | exact Y0 | apply Y1 | exact Y2 | apply Y3 | ((first | apply Y4 | apply Y5); simp only [evs, Nat.reduceEqDiff, reduceIte, qn, qd, q0, q5, q6, q5] <;> rfl))); done) | (apply Hy.mk; (try simp only [evs, qn, qd, q0, q5, q6, q5]); first | exact hin5 | exact s5 | exact hX5 | assumption) | (apply Om.mk; first | exact hin5 | exact s5 | exact hX5) | (apply Y6; (try simp only [evs, qn, qd, q0, q5, q6, q5]); first | rfl) | apply Cn.mk))
     intro v' m6 s6 k6 o6 b6 f6
     simp only [evs, qn, qd, q0, q5, q6] at k6
     have K6 : Keep (fun c => c < m.next) [87] m m6 := ((kk.trans (Keep.grow gT)).trans (Keep.new _)).trans k6
     have B6 : Bts m6 b off bs := by
      obtain ⟨h0, n, cc, el, kd, h1, h2⟩ := hB
      exact ⟨Nat.lt_of_lt_of_le h0 K6.1, n, cc, el, kd, K6.2 _ _ h0 h1 (.inl h0), h2⟩
     have hS2 := skip36 b off cap bs (by omega) nx hnxl m6 B6
     (repeat (first | (apply G.h; constructor <;> (first | exact Zc | apply gI | ((repeat' (first | exact Y0 | apply Y1 | ((first | apply Y4 | apply Y5); simp only [evs, Nat.reduceEqDiff, reduceIte, qn, qd, q0, q5, q6, q5] <;> rfl))); done) | (apply Y6; (try simp only [evs, qn, qd, q0, q5, q6, q5]); first | rfl)))))
     ((first | apply g_run | apply g_run0) <;> (first | ((repeat' (first | exact Y0 | apply Y1 | exact Y2 | apply Y3 | ((first | apply Y4 | apply Y5); simp only [evs, Nat.reduceEqDiff, reduceIte, qn, qd, q0, q5, q6, q5] <;> rfl))); done) | exact Rn.mk ((by simp only [evs]; exact hS2)) | apply Cn.mk))
     rintro v m7 ⟨rfl, rfl, hs7⟩
     (repeat (first | (apply G.h; constructor <;> (first | exact Zc | apply gI | ((repeat' (first | exact Y0 | apply Y1 | ((first | apply Y4 | apply Y5); simp only [evs, Nat.reduceEqDiff, reduceIte, qn, qd, q0, q5, q6, q5] <;> rfl))); done) | (apply Y6; (try simp only [evs, qn, qd, q0, q5, q6, q5]); first | rfl)))))
     rw [List.drop_drop] at hf'
     refine ih (nx + skipL false (bs.drop nx)) _ ⟨(by refine ⟨?_, ?_, ?_, ?_⟩ <;> (simp only [evs, Nat.reduceEqDiff, reduceIte, qn, qd, q0, q5, q6, q5] <;> first | rfl | (congr 1; omega) | omega)), hs7, by simp only [evs]; exact K6, f, L ++ [tk], rest', hf', by rw [htk]; simp, by rw [List.length_append]; show L.length + 1 ≤ _; omega, ?_⟩ (by omega)
     have he : encT (L ++ [tk]) = encT L ++ tk.val := by unfold encT; rw [List.flatMap_append]; simp
     rw [he]
     simp only [evs, Nat.reduceEqDiff, reduceIte]
     exact s6
    ·have hS := number40_49 b off cap bs (by omega) p c x hcv (a.m.new (rowObj [I 0, encS [], I 0, I 0] 87 0)) (hB1.grow gA) hc hx hxd hxl
     (repeat (first | (apply G.h; constructor <;> (first | exact Zc | apply gI | ((repeat' (first | exact Y0 | apply Y1 | ((first | apply Y4 | apply Y5); simp only [evs, Nat.reduceEqDiff, reduceIte, qn, qd, q0, q5, q6] <;> rfl))); done) | (apply Y6; (try simp only [evs, qn, qd, q0, q5, q6]); first | exact hld)))))
     ((first | apply g_run | apply g_run0) <;> (first | ((repeat' (first | exact Y0 | apply Y1 | exact Y2 | apply Y3 | ((first | apply Y4 | apply Y5); simp only [evs, Nat.reduceEqDiff, reduceIte, qn, qd, q0, q5, q6] <;> rfl))); done) | exact Rn.mk ((by simp only [evs]; exact hS)) | apply Cn.mk))
     rintro v m5 ⟨g5, rfl⟩
     have z75 := z7.grow g5
     (repeat (first | (apply G.h; constructor <;> (first | exact Zc | apply gI | ((repeat' (first | exact Y0 | apply Y1 | ((first | apply Y4 | apply Y5); simp only [evs, Nat.reduceEqDiff, reduceIte, qn, qd, q0, q5, q6] <;> rfl))); done) | (apply Y6; (try simp only [evs, qn, qd, q0, q5, q6]); first | rfl)))))
     (apply g_stR <;> (first | exact Zc | apply gI | ((repeat' (first | exact Y0 | apply Y1 | exact Y2 | apply Y3 | ((first | apply Y4 | apply Y5); simp only [evs, Nat.reduceEqDiff, reduceIte, qn, qd, q0, q5, q6] <;> rfl))); done) | (apply Hy.mk; (try simp only [evs, qn, qd, q0, q5, q6]); first | exact z75 | assumption) | (apply Om.mk; first | exact z75) | (apply Y6; (try simp only [evs, qn, qd, q0, q5, q6]); first | rfl) | apply Cn.mk))
     intro mT rT oT nT; simp only [evs, qn, qd, q0, q5, q6] at rT oT nT
     replace rT : Row mT a.m.next (Tn.val ⟨3, [], c.toNat - 48, p⟩) 87 0 := by rw [hcv]; exact rT
     (repeat (first | (apply G.h; constructor <;> (first | exact Zc | apply gI | ((repeat' (first | exact Y0 | apply Y1 | ((first | apply Y4 | apply Y5); simp only [evs, Nat.reduceEqDiff, reduceIte, qn, qd, q0, q5, q6] <;> rfl))); done) | (apply Y6; (try simp only [evs, qn, qd, q0, q5, q6]); first | rfl)))))
     have gT : Grow a.m mT := (gA.trans g5).wrote (b := a.m.next) (Nat.le_refl _) oT nT
     obtain ⟨tk, htk1⟩ : ∃ tk : Tn, tk = ⟨3, [], c.toNat - 48, p⟩ := ⟨_, rfl⟩
     rw [← htk1] at rT htk
     obtain ⟨nx, hnx1⟩ : ∃ nx, nx = p + 1 := ⟨_, rfl⟩
     have hnxl : nx ≤ bs.length := by omega
     have hpn : p < nx := by omega
     rw [← hnx1] at hf' ⊢
     have sT := sL.grow gT
     have s5 := sT.grow ((Grow.refl mT).new (rowObj tk.val 87 0))
     have hX5 : ∀ c, c < m.next → c < (mT.new (rowObj tk.val 87 0)).next := fun c hc => Nat.lt_succ_of_lt (Nat.lt_of_lt_of_le (Nat.lt_of_lt_of_le hc kk.1) gT.1)
     have hin5 : effect.cellsIn (mT.new (rowObj tk.val 87 0)) 4 (.slice (some ⟨mT.next, 0, none⟩) 1 1) = some (1, tk.val) := cellsIn_row (kc := 1) (new := tk.val) (row_new mT tk.val 87 0) (Nat.le_refl 4) rfl
     have hlen5 : (encT L).length ≤ 100000 := by rw [encT_len]; omega
     (repeat (first | (apply G.h; constructor <;> (first | exact Zc | apply gI | ((repeat' (first | exact Y0 | apply Y1 | ((first | apply Y4 | apply Y5); simp only [evs, Nat.reduceEqDiff, reduceIte, qn, qd, q0, q5, q6, q5] <;> rfl))); done) | (apply Y6; (try simp only [evs, qn, qd, q0, q5, q6, q5]); first | exact rT.loadA rfl rfl rfl (Nat.le_refl 4) rfl)))))
     (apply g_app <;> (first | exact Zc | apply gI | ((repeat' (first | exact Y0 | apply Y1 | exact Y2 | apply Y3 | ((first | apply Y4 | apply Y5); simp only [evs, Nat.reduceEqDiff, reduceIte, qn, qd, q0, q5, q6, q5] <;> rfl))); done) | (apply Hy.mk; (try simp only [evs, qn, qd, q0, q5, q6, q5]); first | exact hin5 | exact s5 | exact hX5 | assumption) | (apply Om.mk; first | exact hin5 | exact s5 | exact hX5) | (apply Y6; (try simp only [evs, qn, qd, q0, q5, q6, q5]); first | rfl) | apply Cn.mk))
     intro v' m6 s6 k6 o6 b6 f6
     simp only [evs, qn, qd, q0, q5, q6] at k6
     have K6 : Keep (fun c => c < m.next) [87] m m6 := ((kk.trans (Keep.grow gT)).trans (Keep.new _)).trans k6
     have B6 : Bts m6 b off bs := by
      obtain ⟨h0, n, cc, el, kd, h1, h2⟩ := hB
      exact ⟨Nat.lt_of_lt_of_le h0 K6.1, n, cc, el, kd, K6.2 _ _ h0 h1 (.inl h0), h2⟩
     have hS2 := skip36 b off cap bs (by omega) nx hnxl m6 B6
     (repeat (first | (apply G.h; constructor <;> (first | exact Zc | apply gI | ((repeat' (first | exact Y0 | apply Y1 | ((first | apply Y4 | apply Y5); simp only [evs, Nat.reduceEqDiff, reduceIte, qn, qd, q0, q5, q6, q5] <;> rfl))); done) | (apply Y6; (try simp only [evs, qn, qd, q0, q5, q6, q5]); first | rfl)))))
     ((first | apply g_run | apply g_run0) <;> (first | ((repeat' (first | exact Y0 | apply Y1 | exact Y2 | apply Y3 | ((first | apply Y4 | apply Y5); simp only [evs, Nat.reduceEqDiff, reduceIte, qn, qd, q0, q5, q6, q5] <;> rfl))); done) | exact Rn.mk ((by simp only [evs]; exact hS2)) | apply Cn.mk))
     rintro v m7 ⟨rfl, rfl, hs7⟩
     (repeat (first | (apply G.h; constructor <;> (first | exact Zc | apply gI | ((repeat' (first | exact Y0 | apply Y1 | ((first | apply Y4 | apply Y5); simp only [evs, Nat.reduceEqDiff, reduceIte, qn, qd, q0, q5, q6, q5] <;> rfl))); done) | (apply Y6; (try simp only [evs, qn, qd, q0, q5, q6, q5]); first | rfl)))))
     rw [List.drop_drop] at hf'
     refine ih (nx + skipL false (bs.drop nx)) _ ⟨(by refine ⟨?_, ?_, ?_, ?_⟩ <;> (simp only [evs, Nat.reduceEqDiff, reduceIte, qn, qd, q0, q5, q6, q5] <;> first | rfl | (congr 1; omega) | omega)), hs7, by simp only [evs]; exact K6, f, L ++ [tk], rest', hf', by rw [htk]; simp, by rw [List.length_append]; show L.length + 1 ≤ _; omega, ?_⟩ (by omega)
     have he : encT (L ++ [tk]) = encT L ++ tk.val := by unfold encT; rw [List.flatMap_append]; simp
     rw [he]
     simp only [evs, Nat.reduceEqDiff, reduceIte]
     exact s6
   | false =>
    obtain ⟨h34, hsg, hne, rest', rfl, hf'⟩ := lexF_sign hlet hdig hf
    obtain ⟨j, hj, hjf⟩ := first_ix c signsL hsg
    have hnx : ∀ x, bs[p + 1]? = some x → x.toNat ≠ 61 := fun x hx => hne x (bs.drop (p + 1 + 1)) (drop_at hx)
    have hS := sign42 b off cap bs (by omega) hcap p c j (a.m.new (rowObj [I 0, encS [], I 0, I 0] 87 0)) (hB1.grow gA) hc hj hjf hnx
    (repeat (first | (apply G.h; constructor <;> (first | exact Zc | apply gI | ((repeat' (first | exact Y0 | apply Y1 | ((first | apply Y4 | apply Y5); simp only [evs, Nat.reduceEqDiff, reduceIte, qn, qd, q0, q5, q6] <;> rfl))); done) | (apply Y6; (try simp only [evs, qn, qd, q0, q5, q6]); first | exact hld)))))
    ((first | apply g_run | apply g_run0) <;> (first | ((repeat' (first | exact Y0 | apply Y1 | exact Y2 | apply Y3 | ((first | apply Y4 | apply Y5); simp only [evs, Nat.reduceEqDiff, reduceIte, qn, qd, q0, q5, q6] <;> rfl))); done) | exact Rn.mk ((by simp only [evs]; exact hS)) | apply Cn.mk))
    rintro v m5 ⟨g5, rfl⟩
    have z75 := z7.grow g5
    (repeat (first | (apply G.h; constructor <;> (first | exact Zc | apply gI | ((repeat' (first | exact Y0 | apply Y1 | ((first | apply Y4 | apply Y5); simp only [evs, Nat.reduceEqDiff, reduceIte, qn, qd, q0, q5, q6] <;> rfl))); done) | (apply Y6; (try simp only [evs, qn, qd, q0, q5, q6]); first | rfl)))))
    (apply g_stR <;> (first | exact Zc | apply gI | ((repeat' (first | exact Y0 | apply Y1 | exact Y2 | apply Y3 | ((first | apply Y4 | apply Y5); simp only [evs, Nat.reduceEqDiff, reduceIte, qn, qd, q0, q5, q6] <;> rfl))); done) | (apply Hy.mk; (try simp only [evs, qn, qd, q0, q5, q6]); first | exact z75 | assumption) | (apply Om.mk; first | exact z75) | (apply Y6; (try simp only [evs, qn, qd, q0, q5, q6]); first | rfl) | apply Cn.mk))
    intro mT rT oT nT; simp only [evs, qn, qd, q0, q5, q6] at rT oT nT
    replace rT : Row mT a.m.next (Tn.val ⟨5, [c], 0, p⟩) 87 0 := rT
    have gT : Grow a.m mT := (gA.trans g5).wrote (b := a.m.next) (Nat.le_refl _) oT nT
    obtain ⟨tk, htk1⟩ : ∃ tk : Tn, tk = ⟨5, [c], 0, p⟩ := ⟨_, rfl⟩
    rw [← htk1] at rT htk
    obtain ⟨nx, hnx1⟩ : ∃ nx, nx = p + 1 := ⟨_, rfl⟩
    have hnxl : nx ≤ bs.length := by omega
    have hpn : p < nx := by omega
    rw [← hnx1] at hf' ⊢
    have sT := sL.grow gT
    have s5 := sT.grow ((Grow.refl mT).new (rowObj tk.val 87 0))
    have hX5 : ∀ c, c < m.next → c < (mT.new (rowObj tk.val 87 0)).next := fun c hc => Nat.lt_succ_of_lt (Nat.lt_of_lt_of_le (Nat.lt_of_lt_of_le hc kk.1) gT.1)
    have hin5 : effect.cellsIn (mT.new (rowObj tk.val 87 0)) 4 (.slice (some ⟨mT.next, 0, none⟩) 1 1) = some (1, tk.val) := cellsIn_row (kc := 1) (new := tk.val) (row_new mT tk.val 87 0) (Nat.le_refl 4) rfl
    have hlen5 : (encT L).length ≤ 100000 := by rw [encT_len]; omega
    (repeat (first | (apply G.h; constructor <;> (first | exact Zc | apply gI | ((repeat' (first | exact Y0 | apply Y1 | ((first | apply Y4 | apply Y5); simp only [evs, Nat.reduceEqDiff, reduceIte, qn, qd, q0, q5, q6, q5] <;> rfl))); done) | (apply Y6; (try simp only [evs, qn, qd, q0, q5, q6, q5]); first | exact rT.loadA rfl rfl rfl (Nat.le_refl 4) rfl)))))
    (apply g_app <;> (first | exact Zc | apply gI | ((repeat' (first | exact Y0 | apply Y1 | exact Y2 | apply Y3 | ((first | apply Y4 | apply Y5); simp only [evs, Nat.reduceEqDiff, reduceIte, qn, qd, q0, q5, q6, q5] <;> rfl))); done) | (apply Hy.mk; (try simp only [evs, qn, qd, q0, q5, q6, q5]); first | exact hin5 | exact s5 | exact hX5 | assumption) | (apply Om.mk; first | exact hin5 | exact s5 | exact hX5) | (apply Y6; (try simp only [evs, qn, qd, q0, q5, q6, q5]); first | rfl) | apply Cn.mk))
    intro v' m6 s6 k6 o6 b6 f6
    simp only [evs, qn, qd, q0, q5, q6] at k6
    have K6 : Keep (fun c => c < m.next) [87] m m6 := ((kk.trans (Keep.grow gT)).trans (Keep.new _)).trans k6
    have B6 : Bts m6 b off bs := by
     obtain ⟨h0, n, cc, el, kd, h1, h2⟩ := hB
     exact ⟨Nat.lt_of_lt_of_le h0 K6.1, n, cc, el, kd, K6.2 _ _ h0 h1 (.inl h0), h2⟩
    have hS2 := skip36 b off cap bs (by omega) nx hnxl m6 B6
    (repeat (first | (apply G.h; constructor <;> (first | exact Zc | apply gI | ((repeat' (first | exact Y0 | apply Y1 | ((first | apply Y4 | apply Y5); simp only [evs, Nat.reduceEqDiff, reduceIte, qn, qd, q0, q5, q6, q5] <;> rfl))); done) | (apply Y6; (try simp only [evs, qn, qd, q0, q5, q6, q5]); first | rfl)))))
    ((first | apply g_run | apply g_run0) <;> (first | ((repeat' (first | exact Y0 | apply Y1 | exact Y2 | apply Y3 | ((first | apply Y4 | apply Y5); simp only [evs, Nat.reduceEqDiff, reduceIte, qn, qd, q0, q5, q6, q5] <;> rfl))); done) | exact Rn.mk ((by simp only [evs]; exact hS2)) | apply Cn.mk))
    rintro v m7 ⟨rfl, rfl, hs7⟩
    (repeat (first | (apply G.h; constructor <;> (first | exact Zc | apply gI | ((repeat' (first | exact Y0 | apply Y1 | ((first | apply Y4 | apply Y5); simp only [evs, Nat.reduceEqDiff, reduceIte, qn, qd, q0, q5, q6, q5] <;> rfl))); done) | (apply Y6; (try simp only [evs, qn, qd, q0, q5, q6, q5]); first | rfl)))))
    rw [List.drop_drop] at hf'
    refine ih (nx + skipL false (bs.drop nx)) _ ⟨(by refine ⟨?_, ?_, ?_, ?_⟩ <;> (simp only [evs, Nat.reduceEqDiff, reduceIte, qn, qd, q0, q5, q6, q5] <;> first | rfl | (congr 1; omega) | omega)), hs7, by simp only [evs]; exact K6, f, L ++ [tk], rest', hf', by rw [htk]; simp, by rw [List.length_append]; show L.length + 1 ≤ _; omega, ?_⟩ (by omega)
    have he : encT (L ++ [tk]) = encT L ++ tk.val := by unfold encT; rw [List.flatMap_append]; simp
    rw [he]
    simp only [evs, Nat.reduceEqDiff, reduceIte]
    exact s6
 ·obtain rfl : p = bs.length := by omega
  rw [List.drop_length] at hf
  have hrest : rest = [] := by
   rw [lexF_nil] at hf; cases hf; rfl
  subst hrest
  rw [List.append_nil] at htk
  have s5 := sL.grow ((Grow.refl a.m).new (rowObj [I 0, encS [], I 0, I bs.length] 87 0))
  have hX5 : ∀ c, c < m.next → c < (a.m.new (rowObj [I 0, encS [], I 0, I bs.length] 87 0)).next := fun c hc => Nat.lt_succ_of_lt (Nat.lt_of_lt_of_le hc kk.1)
  have hin5 : effect.cellsIn (a.m.new (rowObj [I 0, encS [], I 0, I bs.length] 87 0)) 4 (.slice (some ⟨a.m.next, 0, none⟩) 1 1) = some (1, [I 0, encS [], I 0, I bs.length]) := cellsIn_row (kc := 1) (new := [I 0, encS [], I 0, I bs.length]) (row_new a.m [I 0, encS [], I 0, I bs.length] 87 0) (Nat.le_refl 4) rfl
  have hlen5 : (encT L).length ≤ 100000 := by rw [encT_len]; omega
  (repeat (first | (apply G.h; constructor <;> (first | exact Zc | apply gI | ((repeat' (first | exact Y0 | apply Y1 | ((first | apply Y4 | apply Y5); simp only [evs, Nat.reduceEqDiff, reduceIte, qn, qd, q0, q5, q6, q5] <;> rfl))); done) | (apply Y6; (try simp only [evs, qn, qd, q0, q5, q6, q5]); first | rfl)))))
  (apply g_app <;> (first | exact Zc | apply gI | ((repeat' (first | exact Y0 | apply Y1 | exact Y2 | apply Y3 | ((first | apply Y4 | apply Y5); simp only [evs, Nat.reduceEqDiff, reduceIte, qn, qd, q0, q5, q6, q5] <;> rfl))); done) | (apply Hy.mk; (try simp only [evs, qn, qd, q0, q5, q6, q5]); first | exact hin5 | exact s5 | exact hX5 | assumption) | (apply Om.mk; first | exact hin5 | exact s5 | exact hX5) | (apply Y6; (try simp only [evs, qn, qd, q0, q5, q6, q5]); first | rfl) | apply Cn.mk))
  intro v' m6 s6 k6 o6 b6 f6
  simp only [evs, qn, qd, q0, q5, q6] at k6
  (repeat (first | (apply G.h; constructor <;> (first | exact Zc | apply gI | ((repeat' (first | exact Y0 | apply Y1 | ((first | apply Y4 | apply Y5); simp only [evs, Nat.reduceEqDiff, reduceIte, qn, qd, q0, q5, q6, q5] <;> rfl))); done) | (apply Y6; (try simp only [evs, qn, qd, q0, q5, q6, q5]); first | rfl)))))
  (refine g_fin (by repeat' first | exact Rs.nil | apply Rs.cons | (apply Y4; simp only [evs, Nat.reduceEqDiff, reduceIte, qn, qd, q0, q5, q6, q5] <;> rfl)) (by (simp only [evs, Nat.reduceEqDiff, reduceIte, qn, qd, q0, q5, q6, q5] <;> first | rfl | (congr 1; omega) | omega)) ?_)
  refine ⟨by simp only [evs]; exact (kk.trans (Keep.new _)).trans k6, v', rfl, ?_⟩
  simp only [evs]
  rw [htk]
  have : encT (L ++ [⟨0, [], 0, bs.length⟩]) = encT L ++ [I 0, encS [], I 0, I bs.length] := by unfold encT; rw [List.flatMap_append]; rfl
  rw [this]
  exact s6
end Go.Proofs.YthhcnfgeacnfiaaGreatDoor

namespace Go.Proofs.YthhcnfgeacnfiaaGreatDoor
open Go Go.Ev
set_option linter.unusedVariables false
set_option linter.unusedSimpArgs false
set_option maxRecDepth 10000

/-! A list with so many entries: its text, its tokens, its nodes. -/
def moreT : Nat → List UInt8
 | 0 => [93, 59]
 | k + 1 => 44 :: 32 :: 48 :: moreT k
def listT (n : Nat) : List UInt8 := [118, 97, 114, 32, 120, 32, 61, 32, 91, 48] ++ moreT (n - 1)
def moreK : Nat → Nat → List Tn
 | i, 0 => [⟨5, [93], 0, 10 + 3 * i⟩, ⟨5, [59], 0, 11 + 3 * i⟩]
 | i, k + 1 => ⟨5, [44], 0, 10 + 3 * i⟩ :: ⟨3, [], 0, 12 + 3 * i⟩ :: moreK (i + 1) k
def listK (n : Nat) : List Tn := [⟨2, [118, 97, 114], 0, 0⟩, ⟨1, [120], 0, 4⟩, ⟨5, [61], 0, 6⟩, ⟨5, [91], 0, 8⟩, ⟨3, [], 0, 9⟩] ++ moreK 0 (n - 1) ++ [⟨0, [], 0, 9 + 3 * n⟩]
theorem moreT_len : ∀ k : Nat, (moreT k).length = 2 + 3 * k
 | 0 => rfl
 | k + 1 => by rw [moreT, List.length_cons, List.length_cons, List.length_cons, moreT_len]; omega
theorem listT_len {n : Nat} (h : 0 < n) : (listT n).length = 9 + 3 * n := by
 unfold listT
 rw [List.length_append, moreT_len]; show 10 + _ = _; omega
theorem lexL_zero (f p k : Nat) : lexF (f + 1) (48 :: moreT k) p = (lexF f (moreT k) (p + 1)).map (⟨3, [], 0, p⟩ :: ·) := by
 cases k <;> rfl
theorem lexL_more : ∀ (k i f : Nat), 2 * k + 2 ≤ f → lexF f (moreT k) (10 + 3 * i) = some (moreK i k)
 | 0, i, f, hf => by
  obtain ⟨f, rfl⟩ : ∃ g, f = g + 2 := ⟨f - 2, by omega⟩
  have : lexF (f + 2) (moreT 0) (10 + 3 * i) = ((lexF f [] (10 + 3 * i + 1 + 1)).map (⟨5, [59], 0, 10 + 3 * i + 1⟩ :: ·)).map (⟨5, [93], 0, 10 + 3 * i⟩ :: ·) := rfl
  rw [this, lexF_nil, show 10 + 3 * i + 1 = 11 + 3 * i by omega]; rfl
 | k + 1, i, f, hf => by
  obtain ⟨f, rfl⟩ : ∃ g, f = g + 2 := ⟨f - 2, by omega⟩
  have : lexF (f + 1 + 1) (moreT (k + 1)) (10 + 3 * i) = (lexF (f + 1) (48 :: moreT k) (10 + 3 * i + 2)).map (⟨5, [44], 0, 10 + 3 * i⟩ :: ·) := rfl
  rw [this, lexL_zero, show 10 + 3 * i + 2 + 1 = 10 + 3 * (i + 1) by omega, lexL_more k (i + 1) f (by omega), show 10 + 3 * i + 2 = 12 + 3 * i by omega]; rfl
theorem lex_list {n : Nat} (h : 0 < n) : lexM (listT n) = some (listK n) := by
 unfold lexM
 rw [listT_len h]
 have hs : skipL false (listT n) = 0 := rfl
 rw [hs, List.drop_zero]
 obtain ⟨f, hf⟩ : ∃ f, 9 + 3 * n = f + 5 := ⟨4 + 3 * n, by omega⟩
 have e1 : ∀ (f : Nat), lexF (f + 1) (listT n) 0 = (lexF f (120 :: 32 :: 61 :: 32 :: 91 :: 48 :: moreT (n - 1)) 4).map (⟨2, [118, 97, 114], 0, 0⟩ :: ·) := fun f => (lexF_word rfl).trans rfl
 have e2 : ∀ (f : Nat), lexF (f + 1) (120 :: 32 :: 61 :: 32 :: 91 :: 48 :: moreT (n - 1)) 4 = (lexF f (61 :: 32 :: 91 :: 48 :: moreT (n - 1)) 6).map (⟨1, [120], 0, 4⟩ :: ·) := fun f => (lexF_word rfl).trans rfl
 have e3 : ∀ (f : Nat), lexF (f + 1) (61 :: 32 :: 91 :: 48 :: moreT (n - 1)) 6 = (lexF f (91 :: 48 :: moreT (n - 1)) 8).map (⟨5, [61], 0, 6⟩ :: ·) := fun f => rfl
 have e4 : ∀ (f : Nat), lexF (f + 1) (91 :: 48 :: moreT (n - 1)) 8 = (lexF f (48 :: moreT (n - 1)) 9).map (⟨5, [91], 0, 8⟩ :: ·) := fun f => rfl
 have e6 := lexL_more (n - 1) 0 f (by omega)
 rw [hf, show f + 5 = f + 4 + 1 from rfl, e1, e2, e3, e4, lexL_zero, show 9 + 1 = 10 + 3 * 0 from rfl, e6, ← hf]
 rfl
theorem moreK_len : ∀ k i : Nat, (moreK i k).length = 2 + 2 * k
 | 0, i => rfl
 | k + 1, i => by rw [moreK, List.length_cons, List.length_cons, moreK_len]; omega
theorem listK_len {n : Nat} (h : 0 < n) : (listK n).length = 6 + 2 * n := by
 unfold listK
 rw [List.length_append, List.length_append, moreK_len]; show 5 + _ + 1 = _; omega
theorem moreK_comma : ∀ (k i j : Nat), j < k → (moreK i k)[2 * j]? = some ⟨5, [44], 0, 10 + 3 * (i + j)⟩
 | 0, i, j, h => by omega
 | k + 1, i, 0, h => rfl
 | k + 1, i, j + 1, h => by
  rw [moreK, show 2 * (j + 1) = 2 * j + 1 + 1 by omega, List.getElem?_cons_succ, List.getElem?_cons_succ, moreK_comma k (i + 1) j (by omega), show i + 1 + j = i + (j + 1) by omega]
theorem moreK_int : ∀ (k i j : Nat), j < k → (moreK i k)[2 * j + 1]? = some ⟨3, [], 0, 12 + 3 * (i + j)⟩
 | 0, i, j, h => by omega
 | k + 1, i, 0, h => rfl
 | k + 1, i, j + 1, h => by
  rw [moreK, show 2 * (j + 1) + 1 = 2 * j + 1 + 1 + 1 by omega, List.getElem?_cons_succ, List.getElem?_cons_succ, moreK_int k (i + 1) j (by omega), show i + 1 + j = i + (j + 1) by omega]
theorem moreK_end : ∀ (k i : Nat), (moreK i k)[2 * k]? = some ⟨5, [93], 0, 10 + 3 * (i + k)⟩ ∧ (moreK i k)[2 * k + 1]? = some ⟨5, [59], 0, 11 + 3 * (i + k)⟩
 | 0, i => ⟨rfl, rfl⟩
 | k + 1, i => by
  obtain ⟨h1, h2⟩ := moreK_end k (i + 1)
  rw [moreK, show 2 * (k + 1) = 2 * k + 1 + 1 by omega]
  simp only [List.getElem?_cons_succ]
  rw [h1, h2, show i + 1 + k = i + (k + 1) by omega]
  exact ⟨rfl, rfl⟩
section
variable {n : Nat}
theorem listK_more {q : Nat} (h : q < 2 * n) (hn : 0 < n) : (listK n)[5 + q]? = (moreK 0 (n - 1))[q]? := by
 unfold listK
 rw [List.append_assoc, List.getElem?_append_right (by show 5 ≤ _; omega), show 5 + q - List.length [(⟨2, [118, 97, 114], 0, 0⟩ : Tn), ⟨1, [120], 0, 4⟩, ⟨5, [61], 0, 6⟩, ⟨5, [91], 0, 8⟩, ⟨3, [], 0, 9⟩] = q by show 5 + q - 5 = _; omega, List.getElem?_append_left (by rw [moreK_len]; omega)]
theorem listK_int {j : Nat} (h : j < n) : (listK n)[4 + 2 * j]? = some ⟨3, [], 0, 9 + 3 * j⟩ := by
 cases j with
 | zero => rfl
 | succ j =>
  rw [show 4 + 2 * (j + 1) = 5 + (2 * j + 1) by omega, listK_more (by omega) (by omega), moreK_int _ _ _ (by omega), show 12 + 3 * (0 + j) = 9 + 3 * (j + 1) by omega]
theorem listK_comma {j : Nat} (h : j + 1 < n) : (listK n)[5 + 2 * j]? = some ⟨5, [44], 0, 10 + 3 * j⟩ := by
 rw [listK_more (by omega) (by omega), moreK_comma _ _ _ (by omega), Nat.zero_add]
theorem listK_close (h : 0 < n) : (listK n)[3 + 2 * n]? = some ⟨5, [93], 0, 7 + 3 * n⟩ := by
 rw [show 3 + 2 * n = 5 + 2 * (n - 1) by omega, listK_more (by omega) h, (moreK_end (n - 1) 0).1, show 10 + 3 * (0 + (n - 1)) = 7 + 3 * n by omega]
theorem listK_semi (h : 0 < n) : (listK n)[4 + 2 * n]? = some ⟨5, [59], 0, 8 + 3 * n⟩ := by
 rw [show 4 + 2 * n = 5 + (2 * (n - 1) + 1) by omega, listK_more (by omega) h, (moreK_end (n - 1) 0).2, show 11 + 3 * (0 + (n - 1)) = 8 + 3 * n by omega]
theorem listK_eof (h : 0 < n) : (listK n)[5 + 2 * n]? = some ⟨0, [], 0, 9 + 3 * n⟩ := by
 unfold listK
 rw [List.getElem?_append_right (by rw [List.length_append, moreK_len]; show 5 + _ ≤ _; omega), List.length_append, moreK_len]
 show [_][5 + 2 * n - (5 + (2 + 2 * (n - 1)))]? = _
 rw [show 5 + 2 * n - (5 + (2 + 2 * (n - 1))) = 0 by omega]; rfl
end
/-- the entries' nodes, from one on. -/
def zeroN (i : Nat) : Nd := ⟨14, 0, [], 0, (9 + 3 * i : Nat)⟩
def zeros : Nat → Nat → List Nd
 | _, 0 => []
 | i, k + 1 => zeroN i :: zeros (i + 1) k
def listN (n : Nat) : List Nd := ⟨1, 1, [], 0, 0⟩ :: ⟨3, 1, [120], 0, 0⟩ :: ⟨20, n, [], 0, 8⟩ :: zeros 0 n
theorem zeros_len : ∀ k i : Nat, (zeros i k).length = k
 | 0, _ => rfl
 | k + 1, i => by rw [zeros, List.length_cons, zeros_len]
theorem zeros_snoc : ∀ (k i : Nat), zeros i (k + 1) = zeros i k ++ [zeroN (i + k)]
 | 0, i => rfl
 | k + 1, i => by rw [zeros, zeros_snoc k (i + 1), show i + 1 + k = i + (k + 1) by omega]; rfl
theorem listN_len (n : Nat) : (listN n).length = 3 + n := by
 unfold listN
 simp only [List.length_cons, zeros_len]; omega
theorem zeros_at : ∀ (k i j : Nat), j < k → (zeros i k)[j]? = some (zeroN (i + j))
 | 0, i, j, h => by omega
 | k + 1, i, 0, h => rfl
 | k + 1, i, j + 1, h => by rw [zeros, List.getElem?_cons_succ, zeros_at k (i + 1) j (by omega), show i + 1 + j = i + (j + 1) by omega]
theorem listN_at {n j : Nat} (h : j < n) : (listN n)[3 + j]? = some (zeroN j) := by
 unfold listN
 rw [show 3 + j = j + 1 + 1 + 1 by omega]
 simp only [List.getElem?_cons_succ]
 rw [zeros_at n 0 j h, Nat.zero_add]
end Go.Proofs.YthhcnfgeacnfiaaGreatDoor

namespace Go.Proofs.YthhcnfgeacnfiaaGreatDoor
open Go Go.Ev
set_option maxRecDepth 100000
set_option linter.unusedVariables false
set_option linter.unusedSimpArgs false

/-! Nodes in a slice's cells. -/
def nflat (l : List Nd) : List Value := l.flatMap Nd.val
theorem nflat_len : ∀ (l : List Nd), (nflat l).length = l.length * 5
 | [] => rfl
 | x :: l => by
  have := nflat_len l
  unfold nflat at this ⊢
  rw [List.flatMap_cons, List.length_append, this, List.length_cons, show x.val.length = 5 from rfl]; omega
theorem nflat_app (a b : List Nd) : nflat (a ++ b) = nflat a ++ nflat b := by unfold nflat; rw [List.flatMap_append]
theorem nflat_get : ∀ (l : List Nd) (i j : Nat) (hi : i < l.length), j < 5 → (nflat l)[i * 5 + j]? = l[i].val[j]?
 | x :: l, 0, j, hi, hj => by
  unfold nflat
  rw [List.flatMap_cons, List.getElem?_append_left (by rw [show x.val.length = 5 from rfl]; omega)]; simp
 | x :: l, i + 1, j, hi, hj => by
  have := nflat_get l i j (by simpa using hi) hj
  unfold nflat at this ⊢
  rw [List.flatMap_cons, List.getElem?_append_right (by rw [show x.val.length = 5 from rfl]; omega), show x.val.length = 5 from rfl, show (i + 1) * 5 + j - 5 = i * 5 + j by omega, this]; rfl
theorem nflat_set : ∀ (l : List Nd) (i : Nat) (t : Bs) (hi : i < l.length), nflat (l.set i { l[i] with text := t }) = (nflat l).set (i * 5 + 2) (encS t)
 | x :: l, 0, t, hi => rfl
 | x :: l, i + 1, t, hi => by
  have := nflat_set l i t (by simpa using hi)
  unfold nflat at this ⊢
  simp only [List.set_cons_succ, List.getElem_cons_succ, List.flatMap_cons]
  rw [this, List.set_append_right _ _ (by rw [show x.val.length = 5 from rfl]; omega), show x.val.length = 5 from rfl, show (i + 1) * 5 + 2 - 5 = i * 5 + 2 by omega]
theorem cellsFrom_all {c : Tree Value} : ∀ (k o : Nat) (L : List Value), L.length = k → (∀ i, i < k → c.get (o + i) = L[i]?) → cellsFrom c o k = some L
 | 0, o, L, hl, h => by rw [List.length_eq_zero_iff.1 hl]; rfl
 | k + 1, o, [], hl, h => by simp at hl
 | k + 1, o, x :: L, hl, h => by
  have h0 := h 0 (by omega)
  rw [Nat.add_zero, List.getElem?_cons_zero] at h0
  rw [cellsFrom, h0, cellsFrom_all k (o + 1) L (by simpa using hl) fun i hi => by
   have := h (i + 1) (by omega)
   rw [List.getElem?_cons_succ] at this
   rw [← this]; congr 1; omega]
theorem Nodes.cells {m : Mem} {b off : Nat} {l : List Nd} (h : Nodes m b off l) (cap : Nat) : effect.cellsIn m 5 (.slice (some ⟨b, off, none⟩) l.length cap) = some (l.length, nflat l) := by
 obtain ⟨n, c, ty, kd, h1, h2, h3⟩ := h
 have hc : cellsFrom c off (l.length * 5) = some (nflat l) := cellsFrom_all _ _ _ (nflat_len l) fun i hi => by
  have := h3 (i / 5) (i % 5) (by omega) (by omega)
  rw [show off + i / 5 * 5 + i % 5 = off + i by omega] at this
  rw [this, ← nflat_get l (i / 5) (i % 5) (by omega) (by omega)]
  congr 1; omega
 simp only [effect.cellsIn, h1, Nat.ble_eq_true_of_le h2, cond_true, hc]
theorem nflat_one (l : List Nd) : (nflat l).all oneCell = true := by
 unfold nflat
 rw [List.all_flatMap]
 exact List.all_eq_true.2 fun x _ => rfl
theorem sl_nodes {X : Nat → Prop} {m : Mem} {nb n cap : Nat} {l : List Nd} (h : Sl X m (.slice (some ⟨nb, 0, none⟩) n cap) 58 5 (nflat l)) : Nodes m nb 0 l := by
 rcases h with ⟨h, -⟩ | ⟨b, cap', r, n', h1, h2, ⟨h3, c, h4, h5⟩, h6, h7, h8⟩
 ·cases h
 ·cases h1
  have hl := congrArg List.length h8
  rw [nflat_len, List.length_take] at hl
  refine ⟨r.length, c, _, _, h4, by omega, fun i j hi hj => ?_⟩
  have := nflat_get l i j hi hj
  rw [h8, List.getElem?_take_of_lt (by omega)] at this
  rw [show 0 + i * 5 + j = i * 5 + j by omega, h5 _ (by omega), this]
theorem n_cat {m : Mem} (x y : List UInt8) (h : x.length + y.length ≤ 4611686018427387904) : Bn evEnv m .add 9 (.string ⟨⟨x⟩⟩) (.string ⟨⟨y⟩⟩) (.string ⟨⟨x ++ y⟩⟩) := by
 refine .mk ?_
 have h5 : evEnv.under 9 = some .string := by rfl
 simp [Go.Ev.binOp, Go.Ev.isTok, Go.Ev.binOp0, h5, Go.Ev.strOp, Nat.ble_eq_true_of_le h]
end Go.Proofs.YthhcnfgeacnfiaaGreatDoor

namespace Go.Proofs.YthhcnfgeacnfiaaGreatDoor
open Go Go.Ev
set_option maxRecDepth 100000
set_option linter.unusedVariables false
set_option linter.unusedSimpArgs false
set_option pp.maxSteps 1500

/-! What names mean in these programs: the walk through Resolve on this one family. -/
theorem Nodes.get {m : Mem} {b off i : Nat} {l : List Nd} {x : Nd} (h : Nodes m b off l) (hx : l[i]? = some x) : loadAt evEnv m 58 b (off + i * 5) = some (.agg ⟨x.val⟩) := by
 obtain ⟨hi, rfl⟩ := List.getElem?_eq_some_iff.1 hx
 exact h.all i hi
/-- where Resolve's parts lie. -/
structure WA where
 b : Nat
 off : Nat
 cap : Nat
 n : Nat
 wb : Nat
 ub : Nat
 uc : Nat
 gb : Nat
 tb : Nat
 fr : Nat
 fv : Value
 mv : Value
 cm : Value
structure Wk (m : Mem) (A : WA) (at_ : Nat) (gv : Value) : Prop where
 w : Row m A.wb [.slice (some ⟨A.b, A.off, none⟩) (3 + A.n) A.cap, I at_, A.fv, .slice (some ⟨A.ub, 0, none⟩) (3 + A.n) A.uc, gv, .map (some A.gb), .slice (some ⟨A.tb, 0, none⟩) 1 1, A.mv, I 0, I 0] 105 0
 t : Row m A.tb [ptr A.fr] 106 0
 f : Row m A.fr [I 0, .slice none 0 0, I 0, A.cm] 110 0
 nodes : Nodes m A.b A.off (listN A.n)
 nb : A.b < m.next
 ne : A.b ≠ A.wb ∧ A.b ≠ A.ub
section
variable {m m' : Mem} {A : WA} {at_ at' : Nat} {gv gv' : Value}
theorem Wk.grow (h : Wk m A at_ gv) (g : Grow m m') : Wk m' A at_ gv := ⟨h.w.grow g, h.t.grow g, h.f.grow g, h.nodes.grow h.nb g, Nat.lt_of_lt_of_le h.nb g.1, h.ne⟩
abbrev KA (A : WA) (m m' : Mem) : Prop := Keep (fun c => c ≠ A.wb) [105] m m'
abbrev KB (A : WA) (m m' : Mem) : Prop := Keep (fun c => c ≠ A.wb ∧ c ≠ A.ub) [105, 116, mapTag] m m'
theorem KA.kb (k : KA A m m') : KB A m m' := (Keep.sub k fun _ h => h.1).mono (by simp)
theorem Wk.keep (h : Wk m A at_ gv) (k : KB A m m') (hw : Row m' A.wb [.slice (some ⟨A.b, A.off, none⟩) (3 + A.n) A.cap, I at', A.fv, .slice (some ⟨A.ub, 0, none⟩) (3 + A.n) A.uc, gv', .map (some A.gb), .slice (some ⟨A.tb, 0, none⟩) 1 1, A.mv, I 0, I 0] 105 0) : Wk m' A at' gv' :=
 ⟨hw, h.t.stay k (.inr (by decide)), h.f.stay k (.inr (by decide)), h.nodes.stay h.ne h.nb k, Nat.lt_of_lt_of_le h.nb k.1, h.ne⟩
theorem Wk.kw (h : Wk m A at_ gv) {r : List Value} (ho : ∀ x, x ≠ A.wb → m'.get x = m.get x) (hn : m'.next = m.next) : KA A m m' := Keep.row h.w (fun hh => hh rfl) (by decide) ho hn
end
attribute [local irreducible] quiet allocs effect wp ret wpO Runs Act.tmp Act.eval fin results Tree.set binOp loadAt storeAt target wanted cellsFrom

section
variable {m : Mem} {A : WA} {at_ at' : Nat} {gv : Value}
theorem top74L (h : Wk m A at_ gv) : Runs evEnv 81 [ptr A.wb] m fun v m' => v = ptr A.fr ∧ m' = m := by
 have hw := h.w
 have ht := h.t
 refine runs_start rfl rfl rfl rfl ?_
 (repeat (first | (apply G.h; constructor <;> (first | exact Zc | apply gI | ((repeat' (first | exact Y0 | apply Y1 | ((first | apply Y4 | apply Y5); simp only [evs, Nat.reduceEqDiff, reduceIte] <;> rfl))); done) | (apply Y6; (try simp only [evs]); first | exact ht.load1 rfl rfl rfl | exact hw.load1 rfl rfl rfl)))))
 (refine g_fin (by repeat' first | exact Rs.nil | apply Rs.cons | (apply Y4; simp only [evs, Nat.reduceEqDiff, reduceIte] <;> rfl)) (by (simp only [evs, Nat.reduceEqDiff, reduceIte] <;> first | rfl | (congr 1; omega) | omega)) ?_)
 exact ⟨rfl, by (simp only [evs, Nat.reduceEqDiff, reduceIte] <;> first | rfl | (congr 1; omega) | omega)⟩
/-- so many nodes. -/
theorem kidsG {X : Nat → Prop} {T : List Nat} {wb k : Nat} (P : Nat → Mem → Prop) (hk : k ≤ 100000) (hs : ∀ j, j < k → ∀ m1, P j m1 → Runs evEnv 67 [ptr wb] m1 fun _ m' => Keep X T m1 m' ∧ P (j + 1) m') {m : Mem} (h : P 0 m) : Runs evEnv 36 [ptr wb, I k] m fun _ m' => Keep X T m m' ∧ P k m' := by
 refine runs_start rfl rfl rfl rfl ?_
 (repeat (first | (apply G.h; constructor <;> (first | exact Zc | apply gI | ((repeat' (first | exact Y0 | apply Y1 | ((first | apply Y4 | apply Y5); simp only [evs, Nat.reduceEqDiff, reduceIte] <;> rfl))); done) | (apply Y6; (try simp only [evs]); first | rfl)))))
 refine ewp_loop (ι := Nat) (fun j a => (a.n = 10 ∧ a.defers = [] ∧ a.tmp 0 = ptr wb ∧ a.tmp 4 = I k ∧ a.tmp 5 = I j) ∧ j ≤ k ∧ Keep X T m a.m ∧ P j a.m) (fun j => k - j) 0 ?_ ?_
 ·exact ⟨(by refine ⟨?_, ?_, ?_, ?_, ?_⟩ <;> (simp only [evs, Nat.reduceEqDiff, reduceIte] <;> first | rfl | (congr 1; omega) | omega)), Nat.zero_le _, by simp only [evs]; exact Keep.refl, by simp only [evs]; exact h⟩
 rintro j a ⟨⟨qn, qd, q0, q4, q5⟩, hj, qk, qp⟩ ih
 rcases Nat.lt_or_ge j k with hlt | hge
 ·(repeat (first | (apply G.h; constructor <;> (first | exact Zc | apply gI | ((repeat' (first | exact Y0 | apply Y1 | ((first | apply Y4 | apply Y5); simp only [evs, Nat.reduceEqDiff, reduceIte, qn, qd, q0, q4, q5] <;> rfl))); done) | (apply Y6; (try simp only [evs, qn, qd, q0, q4, q5]); first | rfl)))))
  ((first | apply g_run | apply g_run0) <;> (first | ((repeat' (first | exact Y0 | apply Y1 | exact Y2 | apply Y3 | ((first | apply Y4 | apply Y5); simp only [evs, Nat.reduceEqDiff, reduceIte, qn, qd, q0, q4, q5] <;> rfl))); done) | exact Rn.mk ((by simp only [evs, qn, qd, q0, q4, q5]; exact hs j hlt _ qp)) | apply Cn.mk))
  rintro v m' ⟨k', p'⟩
  try simp only [evs] at k'
  (repeat (first | (apply G.h; constructor <;> (first | exact Zc | apply gI | ((repeat' (first | exact Y0 | apply Y1 | ((first | apply Y4 | apply Y5); simp only [evs, Nat.reduceEqDiff, reduceIte, qn, qd, q0, q4, q5] <;> rfl))); done) | (apply Y6; (try simp only [evs, qn, qd, q0, q4, q5]); first | rfl)))))
  exact ih (j + 1) _ ⟨(by refine ⟨?_, ?_, ?_, ?_, ?_⟩ <;> (simp only [evs, Nat.reduceEqDiff, reduceIte, qn, qd, q0, q4, q5] <;> first | rfl | (congr 1; omega) | omega)), hlt, by simp only [evs]; exact qk.trans k', by simp only [evs]; exact p'⟩ (by omega)
 ·obtain rfl : j = k := by omega
  (repeat (first | (apply G.h; constructor <;> (first | exact Zc | apply gI | ((repeat' (first | exact Y0 | apply Y1 | ((first | apply Y4 | apply Y5); simp only [evs, Nat.reduceEqDiff, reduceIte, qn, qd, q0, q4, q5] <;> rfl))); done) | (apply Y6; (try simp only [evs, qn, qd, q0, q4, q5]); first | rfl)))))
  (refine g_finN (by first | exact Rs.nil | skip) (by (simp only [evs, Nat.reduceEqDiff, reduceIte, qn, qd, q0, q4, q5] <;> first | rfl | (congr 1; omega) | omega)) ?_)
  simp only [evs]
  exact ⟨qk, qp⟩
set_option maxHeartbeats 2000000 in
theorem plain82g {x : Nd} (hk : x.kind = 14 ∨ x.kind = 20) (h : Wk m A at_ gv) (hkids : ∀ m1, Wk m1 A at_ gv → Runs evEnv 36 [ptr A.wb, .int .i64 x.n] m1 fun _ m' => KA A m1 m' ∧ Wk m' A at' gv) : Runs evEnv 89 [ptr A.wb, .agg ⟨x.val⟩] m fun _ m' => KA A m m' ∧ Wk m' A at' gv := by
 have z := row_new m x.val 58 0
 have g1 : Grow m (m.new (rowObj x.val 58 0)) := (Grow.refl m).new _
 have h1 := h.grow g1
 refine runs_start rfl rfl rfl rfl ?_
 (repeat (first | (apply G.h; constructor <;> (first | exact Zc | apply gI | ((repeat' (first | exact Y0 | apply Y1 | ((first | apply Y4 | apply Y5); simp only [evs, Nat.reduceEqDiff, reduceIte] <;> rfl))); done) | (apply Y6; (try simp only [evs]); first | rfl)))))
 ((first | apply g_run | apply g_run0) <;> (first | ((repeat' (first | exact Y0 | apply Y1 | exact Y2 | apply Y3 | ((first | apply Y4 | apply Y5); simp only [evs, Nat.reduceEqDiff, reduceIte] <;> rfl))); done) | exact Rn.mk ((by simp only [evs]; exact top74L h1)) | apply Cn.mk))
 rintro v m2 ⟨rfl, e2⟩
 try simp only [evs] at e2
 subst e2
 obtain ⟨kd, nn, tx, nm, ps⟩ := x
 simp only at hk hkids
 rcases hk with rfl | rfl
 all_goals
  (repeat (first | (apply G.h; constructor <;> (first | exact Zc | apply gI | ((repeat' (first | exact Y0 | apply Y1 | ((first | apply Y4 | apply Y5); simp only [evs, Nat.reduceEqDiff, reduceIte] <;> rfl))); done) | (apply Y6; (try simp only [evs]); first | exact z.load1 rfl rfl rfl)))))
  ((first | apply g_run | apply g_run0) <;> (first | ((repeat' (first | exact Y0 | apply Y1 | exact Y2 | apply Y3 | ((first | apply Y4 | apply Y5); simp only [evs, Nat.reduceEqDiff, reduceIte] <;> rfl))); done) | exact Rn.mk ((by simp only [evs]; exact hkids _ h1)) | apply Cn.mk))
  rintro v m3 ⟨k3, h3⟩
  try simp only [evs] at k3
  (repeat (first | (apply G.h; constructor <;> (first | exact Zc | apply gI | ((repeat' (first | exact Y0 | apply Y1 | ((first | apply Y4 | apply Y5); simp only [evs, Nat.reduceEqDiff, reduceIte] <;> rfl))); done) | (apply Y6; (try simp only [evs]); first | rfl)))))
  (refine g_finN (by first | exact Rs.nil | skip) (by (simp only [evs, Nat.reduceEqDiff, reduceIte] <;> first | rfl | (congr 1; omega) | omega)) ?_)
  simp only [evs]
  exact ⟨(Keep.grow g1).trans k3, h3⟩
set_option maxHeartbeats 2000000 in
theorem node59g {x : Nd} (hn : A.n ≤ 1000) (hx : (listN A.n)[at_]? = some x) (hk : x.kind = 14 ∨ x.kind = 20) (hkids : ∀ m1, Wk m1 A (at_ + 1) gv → Runs evEnv 36 [ptr A.wb, .int .i64 x.n] m1 fun _ m' => KA A m1 m' ∧ Wk m' A at' gv) (h : Wk m A at_ gv) : Runs evEnv 67 [ptr A.wb] m fun _ m' => KA A m m' ∧ Wk m' A at' gv := by
 have hw := h.w
 have hat : at_ < 3 + A.n := by have := (List.getElem?_eq_some_iff.1 hx).1; rw [listN_len] at this; exact this
 have hld := h.nodes.get hx
 have z := row_new m [I 0, I 0, encS [], I 0, I 0] 58 0
 refine runs_start rfl rfl rfl rfl ?_
 (repeat (first | (apply G.h; constructor <;> (first | exact Zc | apply gI | ((repeat' (first | exact Y0 | apply Y1 | ((first | apply Y4 | apply Y5); simp only [evs, Nat.reduceEqDiff, reduceIte] <;> rfl))); done) | (apply Y6; (try simp only [evs]); first | exact hw.load1 rfl rfl rfl | exact hld)))))
 (apply g_stR <;> (first | exact Zc | apply gI | ((repeat' (first | exact Y0 | apply Y1 | exact Y2 | apply Y3 | ((first | apply Y4 | apply Y5); simp only [evs, Nat.reduceEqDiff, reduceIte] <;> rfl))); done) | (apply Hy.mk; (try simp only [evs]); first | exact z | assumption) | (apply Om.mk; first | exact z) | (apply Y6; (try simp only [evs]); first | rfl) | apply Cn.mk))
 intro m2 r2 o2 n2; simp only [evs] at r2 o2 n2
 replace r2 : Row m2 m.next x.val 58 0 := r2
 have g2 : Grow m m2 := ((Grow.refl m).new _).wrote (Nat.le_refl _) o2 n2
 have h2 := h.grow g2
 have h2w := h2.w
 (repeat (first | (apply G.h; constructor <;> (first | exact Zc | apply gI | ((repeat' (first | exact Y0 | apply Y1 | ((first | apply Y4 | apply Y5); simp only [evs, Nat.reduceEqDiff, reduceIte] <;> rfl))); done) | (apply Y6; (try simp only [evs]); first | rfl)))))
 ((first | apply g_run | apply g_run0) <;> (first | ((repeat' (first | exact Y0 | apply Y1 | exact Y2 | apply Y3 | ((first | apply Y4 | apply Y5); simp only [evs, Nat.reduceEqDiff, reduceIte] <;> rfl))); done) | exact Rn.mk ((by simp only [evs]; exact top74L h2)) | apply Cn.mk))
 rintro v m3 ⟨rfl, e3⟩
 try simp only [evs] at e3
 replace e3 := e3.symm
 subst e3
 have hkind : loadAt evEnv m2 58 m.next 0 = some (.agg ⟨x.val⟩) := r2.loadA (k := 5) rfl rfl rfl (Nat.le_refl 5) rfl
 have hplain := fun m1 (hm : Wk m1 A (at_ + 1) gv) => plain82g hk hm hkids
 obtain ⟨kd, nn, tx, nm, ps⟩ := x
 simp only at hk hkids
 rcases hk with rfl | rfl
 all_goals
  (repeat (first | (apply G.h; constructor <;> (first | exact Zc | apply gI | ((repeat' (first | exact Y0 | apply Y1 | ((first | apply Y4 | apply Y5); simp only [evs, Nat.reduceEqDiff, reduceIte] <;> rfl))); done) | (apply Y6; (try simp only [evs]); first | exact h2w.load1 rfl rfl rfl | exact r2.load1 rfl rfl rfl)))))
  (apply g_stR <;> (first | exact Zc | apply gI | ((repeat' (first | exact Y0 | apply Y1 | exact Y2 | apply Y3 | ((first | apply Y4 | apply Y5); simp only [evs, Nat.reduceEqDiff, reduceIte] <;> rfl))); done) | (apply Hy.mk; (try simp only [evs]); first | exact h2w | assumption) | (apply Om.mk; first | exact h2w) | (apply Y6; (try simp only [evs]); first | rfl) | apply Cn.mk))
  intro m4 r4 o4 n4; simp only [evs] at r4 o4 n4
  have k4 : KA A m2 m4 := Keep.row h2w (fun hh => hh rfl) (by decide) o4 n4
  have h4 : Wk m4 A (at_ + 1) gv := h2.keep k4.kb r4
  have r24 := r2.stay k4 (.inr (by decide))
  (repeat (first | (apply G.h; constructor <;> (first | exact Zc | apply gI | ((repeat' (first | exact Y0 | apply Y1 | ((first | apply Y4 | apply Y5); simp only [evs, Nat.reduceEqDiff, reduceIte] <;> rfl))); done) | (apply Y6; (try simp only [evs]); first | exact r24.load1 rfl rfl rfl | exact r24.loadA (k := 5) rfl rfl rfl (Nat.le_refl 5) rfl)))))
  ((first | apply g_run | apply g_run0) <;> (first | ((repeat' (first | exact Y0 | apply Y1 | exact Y2 | apply Y3 | ((first | apply Y4 | apply Y5); simp only [evs, Nat.reduceEqDiff, reduceIte] <;> rfl))); done) | exact Rn.mk ((by simp only [evs]; exact hplain _ h4)) | apply Cn.mk))
  rintro v m5 ⟨k5, h5⟩
  try simp only [evs] at k5
  (repeat (first | (apply G.h; constructor <;> (first | exact Zc | apply gI | ((repeat' (first | exact Y0 | apply Y1 | ((first | apply Y4 | apply Y5); simp only [evs, Nat.reduceEqDiff, reduceIte] <;> rfl))); done) | (apply Y6; (try simp only [evs]); first | rfl)))))
  (refine g_finN (by first | exact Rs.nil | skip) (by (simp only [evs, Nat.reduceEqDiff, reduceIte] <;> first | rfl | (congr 1; omega) | omega)) ?_)
  simp only [evs]
  exact ⟨(Keep.grow g2).trans (k4.trans k5), h5⟩
theorem kids0 (h : Wk m A at_ gv) : Runs evEnv 36 [ptr A.wb, .int .i64 0] m fun _ m' => KA A m m' ∧ Wk m' A at_ gv :=
 kidsG (k := 0) (fun _ m => Wk m A at_ gv) (by decide) (fun j hj => absurd hj (Nat.not_lt_zero _)) h
theorem kidsI (hn : A.n ≤ 1000) (h : Wk m A 3 gv) : Runs evEnv 36 [ptr A.wb, I A.n] m fun _ m' => KA A m m' ∧ Wk m' A (3 + A.n) gv :=
 kidsG (k := A.n) (fun j m => Wk m A (3 + j) gv) (by omega) (fun j hj m1 h1 => node59g hn (listN_at hj) (.inl rfl) (fun m2 h2 => kids0 h2) h1) h
theorem kidsL (hn : A.n ≤ 1000) (h : Wk m A 2 gv) : Runs evEnv 36 [ptr A.wb, .int .i64 1] m fun _ m' => KA A m m' ∧ Wk m' A (3 + A.n) gv :=
 kidsG (k := 1) (fun j m => if j = 0 then Wk m A 2 gv else Wk m A (3 + A.n) gv) (by decide) (fun j hj m1 h1 => by
  obtain rfl : j = 0 := by omega
  rw [if_pos rfl] at h1
  exact node59g (x := ⟨20, A.n, [], 0, 8⟩) hn rfl (.inr rfl) (fun m2 h2 => kidsI hn h2) h1) h
end
end Go.Proofs.YthhcnfgeacnfiaaGreatDoor

namespace Go.Proofs.YthhcnfgeacnfiaaGreatDoor
open Go Go.Ev
set_option maxRecDepth 100000
set_option linter.unusedVariables false
set_option linter.unusedSimpArgs false
set_option pp.maxSteps 1500
attribute [local irreducible] quiet allocs effect wp ret wpO Runs Act.tmp Act.eval fin results Tree.set binOp loadAt storeAt target wanted cellsFrom

theorem idx_some : ∀ (l : List Bs) (s : Bs) (i : Nat), l[i]? = some s → (∀ j, j < i → l[j]? ≠ some s) → idx s l = some i
 | [], s, i, h, _ => by simp at h
 | t :: l, s, 0, h, _ => by simp at h; simp [idx, h]
 | t :: l, s, i + 1, h, hj => by
  have h0 := hj 0 (by omega)
  simp only [List.getElem?_cons_zero, ne_eq, Option.some.injEq] at h0
  rw [idx, if_neg h0, idx_some l s i (by simpa using h) (fun j hji => by simpa using hj (j + 1) (by omega))]; rfl
theorem idx_none : ∀ (l : List Bs) (s : Bs), (∀ j, j < l.length → l[j]? ≠ some s) → idx s l = none
 | [], s, _ => rfl
 | t :: l, s, h => by
  have h0 := h 0 (by simp)
  simp only [List.getElem?_cons_zero, ne_eq, Option.some.injEq] at h0
  rw [idx, if_neg h0, idx_none l s (fun j hj => by simpa using h (j + 1) (by simpa using hj))]; rfl

theorem Names.load {m : Mem} (h : Names m) : loadAt evEnv m 180 0 0 = some (.agg ⟨primNames.map encS⟩) := by
 obtain ⟨c, e, h1, h2⟩ := h
 refine load_agg rfl rfl rfl h1 (Nat.le_refl 30) ?_
 exact cellsFrom_list 30 0 (primNames.map encS) (fun i hi => h2 i hi) (Nat.le_refl 30)

/-- what Prim answers. -/
def primV (s : Bs) : Value := .tuple ⟨[I ((primI s).getD 0), .bool (primI s).isSome]⟩
theorem prim21 (s : Bs) (m : Mem) (hN : Names m) : Runs evEnv 101 [encS s] m fun v m' => v = primV s ∧ m' = m := by
 refine runs_start rfl rfl rfl rfl ?_
 (repeat (first | (apply G.h; constructor <;> (first | exact Zc | apply gI | ((repeat' (first | exact Y0 | apply Y1 | ((first | apply Y4 | apply Y5); simp only [evs, Nat.reduceEqDiff, reduceIte] <;> rfl))); done) | (apply Y6; (try simp only [evs]); first | exact hN.load)))))
 refine ewp_loop (ι := Nat) (fun i a => a.n = 16 ∧ a.defers = [] ∧ a.m = m ∧ a.tmp 0 = encS s ∧ a.tmp 6 = .agg ⟨primNames.map encS⟩ ∧ a.tmp 7 = I i ∧ i ≤ 30 ∧ ∀ j, j < i → primNames[j]? ≠ some s) (fun i => 30 - i) 0 ?_ ?_
 ·exact ⟨by (simp only [evs, Nat.reduceEqDiff, reduceIte] <;> first | rfl | (congr 1; omega) | omega), by (simp only [evs, Nat.reduceEqDiff, reduceIte] <;> first | rfl | (congr 1; omega) | omega), by (simp only [evs, Nat.reduceEqDiff, reduceIte] <;> first | rfl | (congr 1; omega) | omega), by (simp only [evs, Nat.reduceEqDiff, reduceIte] <;> first | rfl | (congr 1; omega) | omega), by (simp only [evs, Nat.reduceEqDiff, reduceIte] <;> first | rfl | (congr 1; omega) | omega), by (simp only [evs, Nat.reduceEqDiff, reduceIte] <;> first | rfl | (congr 1; omega) | omega), by omega, fun j hj => by omega⟩
 rintro p a ⟨hn, hd, hm, h0, h6, h7, hp, hj⟩ ih
 rcases Nat.lt_or_ge p 30 with hlt | hge
 ·have hw : primNames[p]? = some primNames[p] := List.getElem?_eq_getElem hlt
  generalize primNames[p] = w at hw
  have hx : (primNames.map encS)[p]? = some (encS w) := by rw [List.getElem?_map, hw]; rfl
  (repeat (first | (apply G.h; constructor <;> (first | exact Zc | apply gI | ((repeat' (first | exact Y0 | apply Y1 | ((first | apply Y4 | apply Y5); simp only [evs, Nat.reduceEqDiff, reduceIte, hn, hd, hm, h0, h6, h7] <;> rfl))); done) | (apply Y6; (try simp only [evs, hn, hd, hm, h0, h6, h7]); first | rfl)))))
  apply g_indexV
  focus exact Rf.mk
  focus (apply Ev.mk; (simp only [evs, Nat.reduceEqDiff, reduceIte, hn, hd, hm, h0, h6, h7] <;> rfl))
  focus (apply Ev.mk; (simp only [evs, Nat.reduceEqDiff, reduceIte, hn, hd, hm, h0, h6, h7] <;> rfl))
  focus exact Om.mk hlt
  focus exact Rf.mk
  focus exact Rf.mk
  focus exact Rf.mk
  focus exact Hy.mk hx
  focus (apply Dn.mk; (simp only [evs, Nat.reduceEqDiff, reduceIte, hn, hd, hm, h0, h6, h7] <;> rfl))
  by_cases hws : w = s
  ·(repeat (first | (apply G.h; constructor <;> (first | exact Zc | apply gI | ((repeat' (first | exact Y0 | apply Y1 | ((first | apply Y4 | apply Y5); simp only [evs, Nat.reduceEqDiff, reduceIte, hn, hd, hm, h0, h6, h7] <;> rfl))); done) | (apply Y6; (try simp only [evs, hn, hd, hm, h0, h6, h7]); first | rfl)))))
   (refine g_fin (by repeat' first | exact Rs.nil | apply Rs.cons | (apply Y4; simp only [evs, Nat.reduceEqDiff, reduceIte, hn, hd, hm, h0, h6, h7] <;> rfl)) (by (simp only [evs, Nat.reduceEqDiff, reduceIte, hn, hd, hm, h0, h6, h7] <;> first | rfl | (congr 1; omega) | omega)) ?_)
   refine ⟨?_, by (simp only [evs, Nat.reduceEqDiff, reduceIte, hm] <;> first | rfl | (congr 1; omega) | omega)⟩
   have : primI s = some p := idx_some _ _ _ (by rw [hw, hws]) hj
   unfold primV
   rw [this]; rfl
  ·(repeat (first | (apply G.h; constructor <;> (first | exact Zc | apply gI | ((repeat' (first | exact Y0 | apply Y1 | ((first | apply Y4 | apply Y5); simp only [evs, Nat.reduceEqDiff, reduceIte, hn, hd, hm, h0, h6, h7] <;> rfl))); done) | (apply Y6; (try simp only [evs, hn, hd, hm, h0, h6, h7]); first | rfl)))))
   refine ih (p + 1) _ ?_ (by omega)
   refine ⟨by (simp only [evs, Nat.reduceEqDiff, reduceIte, hn] <;> first | rfl | (congr 1; omega) | omega), by (simp only [evs, Nat.reduceEqDiff, reduceIte, hd] <;> first | rfl | (congr 1; omega) | omega), by (simp only [evs, Nat.reduceEqDiff, reduceIte, hm] <;> first | rfl | (congr 1; omega) | omega), by (simp only [evs, Nat.reduceEqDiff, reduceIte, h0] <;> first | rfl | (congr 1; omega) | omega), by (simp only [evs, Nat.reduceEqDiff, reduceIte, h6] <;> first | rfl | (congr 1; omega) | omega), by (simp only [evs, Nat.reduceEqDiff, reduceIte, h7] <;> first | rfl | (congr 1; omega) | omega), hlt, fun j hjp => ?_⟩
   rcases Nat.lt_or_ge j p with h | h
   ·exact hj j h
   ·obtain rfl : j = p := by omega
    rw [hw]
    intro he
    exact hws (Option.some.inj he)
 ·(repeat (first | (apply G.h; constructor <;> (first | exact Zc | apply gI | ((repeat' (first | exact Y0 | apply Y1 | ((first | apply Y4 | apply Y5); simp only [evs, Nat.reduceEqDiff, reduceIte, hn, hd, hm, h0, h6, h7] <;> rfl))); done) | (apply Y6; (try simp only [evs, hn, hd, hm, h0, h6, h7]); first | rfl)))))
  (refine g_fin (by repeat' first | exact Rs.nil | apply Rs.cons | (apply Y4; simp only [evs, Nat.reduceEqDiff, reduceIte, hn, hd, hm, h0, h6, h7] <;> rfl)) (by (simp only [evs, Nat.reduceEqDiff, reduceIte, hn, hd, hm, h0, h6, h7] <;> first | rfl | (congr 1; omega) | omega)) ?_)
  refine ⟨?_, by (simp only [evs, Nat.reduceEqDiff, reduceIte, hm] <;> first | rfl | (congr 1; omega) | omega)⟩
  have : primI s = none := idx_none _ _ (fun j hjl => hj j (by have : j < 30 := hjl; omega))
  unfold primV
  rw [this]; rfl
end Go.Proofs.YthhcnfgeacnfiaaGreatDoor
