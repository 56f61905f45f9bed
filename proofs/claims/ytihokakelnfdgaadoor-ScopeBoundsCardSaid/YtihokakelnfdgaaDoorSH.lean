/- Part of a verified evaluator of the model's programs and of runs by it: SU1 SU2 SR8 SQ9 SR9 SQA. -/
import Derived.Test.YtihokakelnfdgaaDoorSG
namespace Go.Proofs.YtihokakelnfdgaaDoor
set_option linter.unusedSimpArgs false
open Go Go.Ev
set_option linter.unusedVariables false

/-! Trees: of what a node is made of. -/
theorem D_app : ∀ (l : List Nd) (a b k1 k2 : Nat), D l a = some k1 → D (l.drop k1) b = some k2 → D l (a + b) = some (k1 + k2)
 | l, 0, b, k1, k2, h1, h2 => by rw [D_zero] at h1; cases h1; simpa using h2
 | [], a + 1, b, k1, k2, h1, _ => by simp [D] at h1
 | x :: r, a + 1, b, k1, k2, h1, h2 => by
  simp only [D, Option.map_eq_some_iff] at h1
  obtain ⟨k', h1, rfl⟩ := h1
  rw [List.drop_succ_cons] at h2
  have := D_app r (a + x.n.toNat) b k' k2 h1 h2
  rw [show a + 1 + b = (a + b) + 1 by omega, D, show a + b + x.n.toNat = a + x.n.toNat + b by omega, this, Option.map_some]
  congr 1; omega

theorem acc_skip : ∀ (N : Nat) (l : List Nd) (y : Du) (c : Nat) (st : List (Du × Nat)), l.length ≤ N → (c : Int) ≤ y.n → accept l ((y, c) :: st) = true → ∃ k, D l (y.n - c).toNat = some k ∧ accept (l.drop k) st = true
 | N, l, y, c, st, hN, hc, h => by
  by_cases he : (c : Int) = y.n
  ·rw [accept_pop _ _ _ _ he] at h
   exact ⟨0, by rw [show (y.n - c).toNat = 0 by omega]; exact D_zero l, h⟩
  ·cases l with
   | nil => rw [accept_nil _ _ _ (by omega)] at h; cases h
   | cons x r =>
    cases N with
    | zero => simp at hN
    | succ N =>
     rw [accept_cons _ _ _ _ _ (by omega)] at h
     simp only [Bool.and_eq_true] at h
     obtain ⟨_, hok, hacc⟩ := h
     have hx0 := okR_pos hok
     have hn : x.du.n = x.n := rfl
     obtain ⟨k1, e1, e2⟩ := acc_skip N r x.du 0 _ (by simpa using hN) (by rw [hn]; exact hx0) hacc
     have hl1 := (D_le _ _ _ e1).2
     obtain ⟨k2, e3, e4⟩ := acc_skip N (r.drop k1) y (c + 1) st (by rw [List.length_drop]; simp at hN; omega) (by omega) e2
     rw [hn, show (x.n - (0 : Nat)).toNat = x.n.toNat by simp] at e1
     refine ⟨k1 + k2 + 1, ?_, ?_⟩
     ·rw [show (y.n - c).toNat = (y.n - (c + 1 : Nat)).toNat + 1 by omega, D, Nat.add_comm, D_app r _ _ _ _ e1 e3]; rfl
     ·rw [List.drop_succ_cons, ← List.drop_drop]; exact e4
/-- at each place, what the rest must be. -/
theorem acc_at : ∀ (l : List Nd) (st : List (Du × Nat)) (p : Nat) (hp : p < l.length), accept l st = true → ∃ st', accept (l.drop (p + 1)) ((l[p].du, 0) :: st') = true
 | x :: r, st, 0, hp, h => by
  simp only [accept] at h
  split at h
  ·cases h
  ·simp only [Bool.and_eq_true] at h
   exact ⟨_, by simpa using h.2.2⟩
 | x :: r, st, p + 1, hp, h => by
  simp only [accept] at h
  split at h
  ·cases h
  ·simp only [Bool.and_eq_true] at h
   have := acc_at r _ p (by simpa using hp) h.2.2
   simpa using this
theorem acc_kid (l : List Nd) : ∀ (i c : Nat) (p : Nat) (y : Du) (st : List (Du × Nat)), accept (l.drop p) ((y, c) :: st) = true → ((c + i : Nat) : Int) < y.n → ∃ q, (kidsP l (i + 1) p)[i]? = some q ∧ ∃ hq : q < l.length, mayB l[q].kind (y.pl (c + i)) = true
 | i, c, p, y, st, h, hi => by
  have hlt : p < l.length := by
   rcases Nat.lt_or_ge p l.length with h' | h'
   ·exact h'
   ·rw [List.drop_of_length_le h', accept_nil _ _ _ (by omega)] at h; cases h
  rw [List.drop_eq_getElem_cons hlt, accept_cons _ _ _ _ _ (by omega)] at h
  simp only [Bool.and_eq_true] at h
  obtain ⟨hm, hok, hacc⟩ := h
  cases i with
  | zero => exact ⟨p, rfl, hlt, hm⟩
  | succ i =>
   have hx0 := okR_pos hok
   have hn : l[p].du.n = l[p].n := rfl
   obtain ⟨k1, e1, e2⟩ := acc_skip _ _ _ 0 _ (Nat.le_refl _) (by rw [hn]; exact hx0) hacc
   rw [hn, show (l[p].n - (0 : Nat)).toNat = l[p].n.toNat by simp] at e1
   have hw : D (l.drop p) 1 = some (k1 + 1) := by rw [List.drop_eq_getElem_cons hlt, D, Nat.zero_add, e1]; rfl
   rw [List.drop_drop] at e2
   obtain ⟨q, f1, f2, f3⟩ := acc_kid l i (c + 1) (p + (k1 + 1)) y st (by rw [show p + (k1 + 1) = p + 1 + k1 by omega]; exact e2) (by omega)
   refine ⟨q, ?_, f2, ?_⟩
   ·rw [kidsP, hw, Option.getD_some, List.getElem?_cons_succ]; exact f1
   ·rw [show c + (i + 1) = c + 1 + i by omega]; exact f3
theorem kidsP_take (l : List Nd) : ∀ (i n p : Nat), i < n → (kidsP l n p)[i]? = (kidsP l (i + 1) p)[i]?
 | 0, n + 1, p, _ => rfl
 | i + 1, n + 1, p, h => by
  rw [kidsP, kidsP, List.getElem?_cons_succ, List.getElem?_cons_succ]
  exact kidsP_take l i n _ (by omega)
theorem prog_kid {l : List Nd} (h : okProg l = true) {p i : Nat} (hp : p < l.length) (hi : (i : Int) < l[p].n) : ∃ q, (kidsP l l[p].n.toNat (p + 1))[i]? = some q ∧ ∃ hq : q < l.length, mayB l[q].kind (placeR l[p] i) = true := by
 obtain ⟨st, hs⟩ := acc_at l _ p hp h
 have hn : l[p].du.n = l[p].n := rfl
 obtain ⟨q, f1, f2, f3⟩ := acc_kid l i 0 (p + 1) _ st hs (by rw [hn]; omega)
 refine ⟨q, by rw [kidsP_take _ _ _ _ (by omega)]; exact f1, f2, ?_⟩
 rw [Nat.zero_add] at f3; exact f3

/-- what a program's nodes are, as far as names go. -/
structure Prg (l : List Nd) : Prop where
 ok : ∀ x ∈ l, okR x = true
 at_ : ∀ p, p < l.length → ∃ k, D (l.drop p) 1 = some k
 kid : ∀ {p i : Nat} (hp : p < l.length), (i : Int) < l[p].n → ∃ q, (kidsP l l[p].n.toNat (p + 1))[i]? = some q ∧ ∃ hq : q < l.length, mayB l[q].kind (placeR l[p] i) = true
theorem okProg_prg {l : List Nd} (h : okProg l = true) : Prg l := ⟨(prog_D h).2, fun p hp => prog_at h p hp, fun hp hi => prog_kid h hp hi⟩

theorem cnt0 {x : Nd} (h : okR x = true) (hk : x.kind = 19) : x.n = 0 := by
 unfold okR countB at h
 simp only [hk, Bool.and_eq_true] at h
 simpa using h.1
theorem cnt1 {x : Nd} (h : okR x = true) (hk : x.kind = 3) : x.n = 1 := by
 unfold okR countB at h
 simp only [hk, Bool.and_eq_true] at h
 simpa using h.1
theorem cnt2 {x : Nd} (h : okR x = true) (hk : x.kind = 4 ∨ x.kind = 6 ∨ x.kind = 11) : x.n = 2 := by
 unfold okR countB at h
 rcases hk with hk | hk | hk <;> (simp only [hk, Bool.and_eq_true] at h; simpa using h.1)
theorem cntF {x : Nd} (h : okR x = true) (hk : x.kind = 12 ∨ x.kind = 31) : 0 ≤ x.num ∧ x.num ≤ 16 ∧ x.n = x.num + 1 := by
 unfold okR countB at h
 rcases hk with hk | hk <;> (simp only [hk, Bool.and_eq_true] at h; simpa using h.1)
theorem name_width {l : List Nd} {p : Nat} (hp : p < l.length) (ho : okR l[p] = true) (hk : l[p].kind = 19) : D (l.drop p) 1 = some 1 := by
 rw [List.drop_eq_getElem_cons hp, D, cnt0 ho hk]
 simp [D_zero]
/-- parameters stand right behind a function. -/
theorem Prg.params {l : List Nd} (h : Prg l) {p : Nat} (hp : p < l.length) (hk : l[p].kind = 12 ∨ l[p].kind = 31) : ∀ i : Nat, (i : Int) < l[p].num → ∃ hq : p + 1 + i < l.length, l[p + 1 + i].kind = 19 := by
 have hc := cntF (h.ok _ (List.getElem_mem hp)) hk
 have hkp : ∀ i : Nat, (i : Int) ≤ l[p].num → (kidsP l l[p].n.toNat (p + 1))[i]? = some (p + 1 + i) ∧ ∀ j, j < i → ∃ hq : p + 1 + j < l.length, l[p + 1 + j].kind = 19 := by
  intro i
  induction i with
  | zero =>
   intro hi
   refine ⟨?_, fun j hj => by omega⟩
   rw [show l[p].n.toNat = l[p].n.toNat - 1 + 1 by omega, kidsP]; rfl
  | succ i ih =>
   intro hi
   obtain ⟨e1, e2⟩ := ih (by omega)
   obtain ⟨q, f1, f2, f3⟩ := h.kid (i := i) hp (by omega)
   rw [e1] at f1
   cases f1
   have hpl : placeR l[p] i = 6 := by
    unfold placeR
    rcases hk with hk | hk
    ·simp [hk, show (i : Int) < l[p].n - 1 by omega]
    ·simp [hk, show (i : Int) < l[p].n - 1 by omega]
   rw [hpl] at f3
   have hk19 : l[p + 1 + i].kind = 19 := by simpa [mayB] using f3
   have hw := name_width f2 (h.ok _ (List.getElem_mem f2)) hk19
   refine ⟨?_, fun j hj => ?_⟩
   ·have : ∀ (i n q : Nat) (a : Nat), i + 1 < n → (kidsP l n q)[i]? = some a → (kidsP l n q)[i + 1]? = some (a + (D (l.drop a) 1).getD 0) := by
     intro i
     induction i with
     | zero =>
      intro n q a hn ha
      obtain ⟨n, rfl⟩ : ∃ m, n = m + 2 := ⟨n - 2, by omega⟩
      rw [kidsP] at ha ⊢
      simp only [List.getElem?_cons_zero, Option.some.injEq] at ha
      subst ha
      rw [List.getElem?_cons_succ, kidsP]; rfl
     | succ i ih =>
      intro n q a hn ha
      obtain ⟨n, rfl⟩ : ∃ m, n = m + 1 := ⟨n - 1, by omega⟩
      rw [kidsP, List.getElem?_cons_succ] at ha ⊢
      exact ih n _ a (by omega) ha
    have := this i l[p].n.toNat (p + 1) _ (by omega) e1
    rw [hw] at this
    exact this
   ·rcases Nat.lt_or_ge j i with hj' | hj'
    ·exact e2 j hj'
    ·obtain rfl : j = i := by omega
     exact ⟨f2, hk19⟩
 intro i hi
 exact (hkp (i + 1) (by omega)).2 i (by omega)
end Go.Proofs.YtihokakelnfdgaaDoor

namespace Go.Proofs.YtihokakelnfdgaaDoor
set_option linter.unusedSimpArgs false
open Go Go.Ev
set_option linter.unusedVariables false

/-! What stays true of Resolve's state. -/
structure Inv (l : List Nd) (b : Nat) (S : MS) : Prop where
  pc : S.pc ≤ l.length
  ne : S.frames ≠ []
  nfr : S.frames.length ≤ S.pc
  uses : S.uses.length = l.length
  means : S.means.length = l.length
  globals : S.globals.length ≤ b
  nf : S.funs.length ≤ b
  slots : ∀ g ∈ S.funs, g.slots ≤ b
  caps : ∀ g ∈ S.funs, g.caps.length ≤ 602 * b
  fr : ∀ f ∈ S.frames, f.fn < S.funs.length ∧ f.scopes.length ≤ b ∧ f.loops ≤ b
  refs : Refs S.decls.length S
  own : ∀ f ∈ S.frames, ∀ sc ∈ f.scopes, ∀ q ∈ sc, declFn S q.2 = f.fn

def frK (S : MS) : List (Nat × Nat × Nat) := S.frames.map fun f => (f.fn, f.scopes.length, f.loops)
def dcK (S : MS) : List (Nat × Nat) := S.decls.map fun d => (d.fn, d.slot)
def fnK (S : MS) : List (Nat × Int) := S.funs.map fun g => (g.node, g.params)
/-- the same frames; no less declared. -/
structure Sh (S S' : MS) : Prop where
  fr : frK S' = frK S
  dc : dcK S <+: dcK S'
  fn : fnK S <+: fnK S'
  gl : S.globals <+: S'.globals
theorem Sh.refl (S : MS) : Sh S S := ⟨rfl, List.prefix_refl _, List.prefix_refl _, List.prefix_refl _⟩
theorem Sh.trans {S S' S'' : MS} (h : Sh S S') (k : Sh S' S'') : Sh S S'' := ⟨k.fr.trans h.fr, h.dc.trans k.dc, h.fn.trans k.fn, h.gl.trans k.gl⟩

theorem declFn_lt {S : MS} {d : Nat} (h : d < S.decls.length) : (dcK S)[d]? = some (declFn S d, declSlot S d) := by
  unfold dcK declFn declSlot
  rw [List.getElem?_map, List.getElem?_eq_getElem h]; rfl
theorem Sh.declFn {S S' : MS} (h : Sh S S') {d : Nat} (hd : d < S.decls.length) : YtihokakelnfdgaaDoor.declFn S' d = YtihokakelnfdgaaDoor.declFn S d ∧ d < S'.decls.length := by
  obtain ⟨t, ht⟩ := h.dc
  have hl : (dcK S).length = S.decls.length := List.length_map ..
  have hl' : (dcK S').length = S'.decls.length := List.length_map ..
  have hlt : d < S'.decls.length := by rw [← hl', ← ht, List.length_append]; omega
  have h1 := declFn_lt hd
  have h2 := declFn_lt hlt
  rw [← ht, List.getElem?_append_left (by omega), h1] at h2
  simp only [Option.some.injEq, Prod.mk.injEq] at h2
  exact ⟨h2.1.symm, hlt⟩
theorem frK_len (S : MS) : (frK S).length = S.frames.length := List.length_map ..
theorem topFn_frK {S S' : MS} (h : frK S' = frK S) : S'.topFn = S.topFn ∧ S'.topScopes.length = S.topScopes.length ∧ S'.topLoops = S.topLoops := by
  unfold frK at h
  unfold MS.topFn MS.topScopes MS.topLoops
  cases hS : S.frames with
  | nil => cases hS' : S'.frames with
    | nil => exact ⟨rfl, rfl, rfl⟩
    | cons f fs => rw [hS, hS'] at h; cases h
  | cons f fs => cases hS' : S'.frames with
    | nil => rw [hS, hS'] at h; cases h
    | cons f' fs' =>
      rw [hS, hS'] at h
      simp only [List.map_cons, List.cons.injEq, Prod.mk.injEq] at h
      exact ⟨h.1.1, h.1.2.1, h.1.2.2⟩

theorem Inv.mono {l : List Nd} {b b' : Nat} {S : MS} (h : Inv l b S) (hb : b ≤ b') : Inv l b' S :=
  { h with globals := Nat.le_trans h.globals hb, nf := Nat.le_trans h.nf hb, slots := fun g hg => Nat.le_trans (h.slots g hg) hb, caps := fun g hg => Nat.le_trans (h.caps g hg) (Nat.mul_le_mul_left _ hb), fr := fun f hf => ⟨(h.fr f hf).1, Nat.le_trans (h.fr f hf).2.1 hb, Nat.le_trans (h.fr f hf).2.2 hb⟩ }
theorem Inv.go {l : List Nd} {b : Nat} {S : MS} (h : Inv l b S) {p : Nat} (h1 : S.pc ≤ p) (h2 : p ≤ l.length) : Inv l b { S with pc := p } :=
  { h with pc := h2, nfr := Nat.le_trans h.nfr h1 }

section
variable {l : List Nd} {b : Nat} {S : MS}
theorem Inv.failIf (h : Inv l b S) (c : Bool) (e : Nat) (p : Int) : Inv l b (S.failIf c e p) := by
  obtain ⟨z1, z2, z3, z4, z5, z6, z7⟩ := failIf_rest S c e p
  have hd : ∀ d, declFn (S.failIf c e p) d = declFn S d := fun d => by unfold declFn; rw [z6]
  exact ⟨by rw [z7]; exact h.pc, by rw [z4]; exact h.ne, by rw [z4, z7]; exact h.nfr, by rw [z2]; exact h.uses, by rw [z5]; exact h.means, by rw [z3]; exact h.globals, by rw [z1]; exact h.nf, by rw [z1]; exact h.slots, by rw [z1]; exact h.caps,
    by rw [z4, z1]; exact h.fr, by unfold Refs; rw [z6, z4, z5]; exact h.refs, by rw [z4]; intro f hf sc hsc q hq; rw [hd]; exact h.own f hf sc hsc q hq⟩
theorem Sh.failIf (S : MS) (c : Bool) (e : Nat) (p : Int) : Sh S (S.failIf c e p) := by
  obtain ⟨z1, z2, z3, z4, z5, z6, z7⟩ := failIf_rest S c e p
  exact ⟨by unfold frK; rw [z4], by unfold dcK; rw [z6]; exact List.prefix_refl _, by unfold fnK; rw [z1]; exact List.prefix_refl _, by rw [z3]; exact List.prefix_refl _⟩

/-- a declaration more. -/
theorem Inv.decl (h : Inv l b S) (fn at_ : Nat) : Inv l (b + 1) { S with decls := S.decls ++ [⟨fn, slotsOf S.funs fn, false⟩], funs := S.funs.modify fn fun f => { f with slots := f.slots + 1 }, means := S.means.set at_ (some S.decls.length) } := by
  have hdf : ∀ d, d < S.decls.length → declFn { S with decls := S.decls ++ [⟨fn, slotsOf S.funs fn, false⟩], funs := S.funs.modify fn fun f => { f with slots := f.slots + 1 }, means := S.means.set at_ (some S.decls.length) } d = declFn S d := fun d hd => by
    unfold declFn
    simp only
    rw [List.getElem?_append_left hd]
  refine ⟨h.pc, h.ne, h.nfr, h.uses, by simp [h.means], Nat.le_succ_of_le h.globals, by simp only [List.length_modify]; exact Nat.le_succ_of_le h.nf, fun g hg => ?_, fun g hg => ?_, fun f hf => ?_, ⟨fun d hd => ?_, fun f hf => ?_⟩, fun f hf sc hsc q hq => ?_⟩
  · obtain ⟨i, hi, rfl⟩ := List.getElem_of_mem hg
    simp only [List.getElem_modify]
    have hi' : i < S.funs.length := by simpa using hi
    have := h.slots _ (List.getElem_mem hi')
    split <;> (try simp only) <;> omega
  · obtain ⟨i, hi, rfl⟩ := List.getElem_of_mem hg
    simp only [List.getElem_modify]
    have hi' : i < S.funs.length := by simpa using hi
    have := h.caps _ (List.getElem_mem hi')
    split <;> (try simp only) <;> omega
  · have := h.fr f hf
    simp only [List.length_modify]
    omega
  · simp only [List.length_append, List.length_cons, List.length_nil] at hd ⊢
    rcases List.mem_or_eq_of_mem_set hd with hd | hd
    · have := h.refs.1 d hd; omega
    · cases hd; omega
  · have := h.refs.2 f hf
    simp only [List.length_append, List.length_cons, List.length_nil]
    exact ⟨fun sc hsc q hq => Nat.lt_succ_of_lt (this.1 sc hsc q hq), fun q hq => Nat.lt_succ_of_lt (this.2 q hq)⟩
  · rw [hdf _ ((h.refs.2 f hf).1 sc hsc q hq)]
    exact h.own f hf sc hsc q hq
theorem Inv.declare (h : Inv l b S) (s : Bs) (at_ : Nat) (pos : Int) : Inv l (b + 1) (S.declare s at_ pos) ∧ Sh S (S.declare s at_ pos) ∧ (S.declare s at_ pos).pc = S.pc ∧ (S.declare s at_ pos).frames = S.frames ∧ S.decls.length < (S.declare s at_ pos).decls.length ∧ declFn (S.declare s at_ pos) S.decls.length = S.topFn := by
  unfold MS.declare
  simp only
  generalize hS3 : ((S.failIf (primI s).isSome 8 pos).failIf (look s (headSc S.topScopes)).isSome 80 pos).failIf (decide (slotsOf S.funs S.topFn = 256)) 3 pos = S3
  have i1 := ((h.failIf (primI s).isSome 8 pos).failIf (look s (headSc S.topScopes)).isSome 80 pos).failIf (decide (slotsOf S.funs S.topFn = 256)) 3 pos
  have s1 := ((Sh.failIf S (primI s).isSome 8 pos).trans (Sh.failIf _ (look s (headSc S.topScopes)).isSome 80 pos)).trans (Sh.failIf _ (decide (slotsOf S.funs S.topFn = 256)) 3 pos)
  obtain ⟨z1, z2, z3, z4, z5, z6, z7⟩ := failIf_rest S (primI s).isSome 8 pos
  obtain ⟨y1, y2, y3, y4, y5, y6, y7⟩ := failIf_rest (S.failIf (primI s).isSome 8 pos) (look s (headSc S.topScopes)).isSome 80 pos
  obtain ⟨x1, x2, x3, x4, x5, x6, x7⟩ := failIf_rest ((S.failIf (primI s).isSome 8 pos).failIf (look s (headSc S.topScopes)).isSome 80 pos) (decide (slotsOf S.funs S.topFn = 256)) 3 pos
  rw [hS3] at i1 s1 x1 x2 x3 x4 x5 x6 x7
  have e6 : S3.decls = S.decls := x6.trans (y6.trans z6)
  have e1 : S3.funs = S.funs := x1.trans (y1.trans z1)
  have e4 : S3.frames = S.frames := x4.trans (y4.trans z4)
  have e7 : S3.pc = S.pc := x7.trans (y7.trans z7)
  have i2 := i1.decl S.topFn at_
  rw [e6, e1] at i2
  rw [e6, e1]
  refine ⟨i2, s1.trans ⟨rfl, ?_, ?_, List.prefix_refl _⟩, e7, e4, by simp, ?_⟩
  · unfold dcK; simp only [e6, List.map_append]; exact List.prefix_append _ _
  · unfold fnK
    simp only [e1]
    rw [show (S.funs.modify S.topFn fun f => { f with slots := f.slots + 1 }).map (fun g => (g.node, g.params)) = S.funs.map (fun g => (g.node, g.params)) from ?_]
    · exact List.prefix_refl _
    · apply List.ext_getElem?
      intro i
      rw [List.getElem?_map, List.getElem?_map, List.getElem?_modify]
      cases S.funs[i]? with
      | none => rfl
      | some g => simp only [Option.map_some]; split <;> rfl
  · unfold declFn; simp

theorem onTop_mem {g : Fr → Fr} {P : Fr → Prop} : ∀ {fs : List Fr}, (∀ f ∈ fs, P f) → (∀ f r, fs = f :: r → P (g f)) → ∀ f ∈ onTop g fs, P f
  | [], _, _, f, hf => by cases hf
  | f0 :: fs, h1, h2, f, hf => by
    rcases List.mem_cons.1 hf with rfl | hf
    · exact h2 f0 fs rfl
    · exact h1 f (List.mem_cons_of_mem _ hf)
theorem onTop_len (g : Fr → Fr) (fs : List Fr) : (onTop g fs).length = fs.length := by cases fs <;> rfl
/-- what turns the top frame alone. -/
theorem Inv.top (h : Inv l b S) {b' : Nat} (hb : b ≤ b') (g : Fr → Fr) (hg : ∀ f r, S.frames = f :: r → (g f).fn = f.fn ∧ (g f).scopes.length ≤ b' ∧ (g f).loops ≤ b' ∧ (∀ sc ∈ (g f).scopes, ∀ q ∈ sc, q.2 < S.decls.length ∧ declFn S q.2 = f.fn) ∧ (g f).caps = f.caps) : Inv l b' (S.top g) := by
  have h' := h.mono hb
  have hne : onTop g S.frames ≠ [] := by
    have := h.ne
    cases hS : S.frames with
    | nil => exact absurd hS this
    | cons f r => simp [onTop]
  have hmem : ∀ f r, S.frames = f :: r → f ∈ S.frames := fun f r hf => by rw [hf]; exact List.mem_cons_self
  refine { h' with ne := hne, nfr := by show (onTop g S.frames).length ≤ _; rw [onTop_len]; exact h.nfr, fr := onTop_mem h'.fr fun f r hf => ?_, refs := ⟨h'.refs.1, onTop_mem h'.refs.2 fun f r hf => ?_⟩, own := onTop_mem (P := fun f => ∀ sc ∈ f.scopes, ∀ q ∈ sc, declFn S q.2 = f.fn) h'.own fun f r hf => ?_ }
  · obtain ⟨g1, g2, g3, g4, g5⟩ := hg f r hf
    rw [g1]; exact ⟨(h'.fr f (hmem f r hf)).1, g2, g3⟩
  · obtain ⟨g1, g2, g3, g4, g5⟩ := hg f r hf
    rw [g5]; exact ⟨fun sc hsc q hq => (g4 sc hsc q hq).1, (h'.refs.2 f (hmem f r hf)).2⟩
  · obtain ⟨g1, g2, g3, g4, g5⟩ := hg f r hf
    rw [g1]; exact fun sc hsc q hq => (g4 sc hsc q hq).2
theorem Inv.scp (h : Inv l b S) {f : Fr} {r : List Fr} (hf : S.frames = f :: r) : ∀ sc ∈ f.scopes, ∀ q ∈ sc, q.2 < S.decls.length ∧ declFn S q.2 = f.fn := by
  have hm : f ∈ S.frames := by rw [hf]; exact List.mem_cons_self
  exact fun sc hsc q hq => ⟨(h.refs.2 f hm).1 sc hsc q hq, h.own f hm sc hsc q hq⟩
theorem Inv.headB (h : Inv l b S) {f : Fr} {r : List Fr} (hf : S.frames = f :: r) : f.fn < S.funs.length ∧ f.scopes.length ≤ b ∧ f.loops ≤ b := h.fr f (by rw [hf]; exact List.mem_cons_self)

theorem layTop_len (s : Bs) (d : Nat) (scs : List (List (Bs × Nat))) : (layTop s d scs).length = scs.length := by cases scs <;> rfl
theorem Inv.bind (h : Inv l b S) (s : Bs) {d : Nat} (hd : d < S.decls.length) (ho : declFn S d = S.topFn) : Inv l b (S.bind s d) ∧ Sh S (S.bind s d) ∧ (S.bind s d).pc = S.pc := by
  refine ⟨h.top (Nat.le_refl _) _ fun f r hf => ?_, ⟨?_, List.prefix_refl _, List.prefix_refl _, List.prefix_refl _⟩, rfl⟩
  · have hb := h.headB hf
    refine ⟨rfl, by simp only [layTop_len]; exact hb.2.1, hb.2.2, ?_, rfl⟩
    have hs := h.scp hf
    have ho' : declFn S d = f.fn := by rw [ho]; unfold MS.topFn; rw [hf]
    cases hsc : f.scopes with
    | nil => intro sc hm; simp [hsc, layTop] at hm
    | cons sc0 rest =>
      simp only [hsc, layTop]
      intro sc hm q hq
      rcases List.mem_cons.1 hm with rfl | hm
      · rcases lay_mem hq with rfl | hq
        · exact ⟨hd, ho'⟩
        · exact hs sc0 (by rw [hsc]; exact List.mem_cons_self) q hq
      · exact hs sc (by rw [hsc]; exact List.mem_cons_of_mem _ hm) q hq
  · show (onTop _ S.frames).map _ = S.frames.map _
    cases S.frames with
    | nil => rfl
    | cons f r => simp only [onTop, List.map_cons, layTop_len]
theorem Inv.enter (h : Inv l b S) : Inv l (b + 1) S.enter := by
  refine h.top (Nat.le_succ _) _ fun f r hf => ?_
  have hb := h.headB hf
  refine ⟨rfl, by simp only [List.length_cons]; omega, Nat.le_succ_of_le hb.2.2, fun sc hm q hq => ?_, rfl⟩
  rcases List.mem_cons.1 hm with rfl | hm
  · cases hq
  · exact h.scp hf sc hm q hq
theorem Inv.leave (h : Inv l b S) : Inv l b S.leave := by
  refine h.top (Nat.le_refl _) _ fun f r hf => ?_
  have hb := h.headB hf
  refine ⟨rfl, by simp only [List.length_tail]; omega, hb.2.2, fun sc hm q hq => h.scp hf sc (List.mem_of_mem_tail hm) q hq, rfl⟩
theorem Inv.loop (h : Inv l b S) (g : Nat → Nat) {b' : Nat} (hb : b ≤ b') (hg : ∀ n, n ≤ b → g n ≤ b') : Inv l b' (S.loop g) := by
  refine h.top hb _ fun f r hf => ?_
  have h1 := h.headB hf
  exact ⟨rfl, Nat.le_trans h1.2.1 hb, hg _ h1.2.2, fun sc hsc q hq => h.scp hf sc hsc q hq, rfl⟩
def globC (g : List (Bs × Nat)) (s : Bs) (at_ : Nat) : Bool := match look s g with | some i => decide (i < at_) | none => false
theorem Inv.global (h : Inv l b S) (g : List (Bs × Nat)) (s : Bs) (at_ : Nat) (pos : Int) : Inv l (b + 1) (MS.global g S s at_ pos) ∧ Sh S (MS.global g S s at_ pos) ∧ (MS.global g S s at_ pos).pc = S.pc := by
  rw [show MS.global g S s at_ pos = (let S3 := ((S.failIf (primI s).isSome 8 pos).failIf (globC g s at_) 80 pos).failIf (decide (S.globals.length = 1024)) 3 pos; { S3 with uses := S3.uses.set at_ (4, S.globals.length), globals := S3.globals ++ [s] }) from rfl]
  generalize globC g s at_ = c2
  simp only
  generalize hS3 : ((S.failIf (primI s).isSome 8 pos).failIf c2 80 pos).failIf (decide (S.globals.length = 1024)) 3 pos = S3
  have i1 := ((h.failIf (primI s).isSome 8 pos).failIf c2 80 pos).failIf (decide (S.globals.length = 1024)) 3 pos
  have s1 := ((Sh.failIf S (primI s).isSome 8 pos).trans (Sh.failIf _ c2 80 pos)).trans (Sh.failIf _ (decide (S.globals.length = 1024)) 3 pos)
  obtain ⟨z1, z2, z3, z4, z5, z6, z7⟩ := failIf_rest S (primI s).isSome 8 pos
  obtain ⟨y1, y2, y3, y4, y5, y6, y7⟩ := failIf_rest (S.failIf (primI s).isSome 8 pos) c2 80 pos
  obtain ⟨x1, x2, x3, x4, x5, x6, x7⟩ := failIf_rest ((S.failIf (primI s).isSome 8 pos).failIf c2 80 pos) (decide (S.globals.length = 1024)) 3 pos
  rw [hS3] at i1 s1 x7
  refine ⟨{ i1.mono (Nat.le_succ b) with uses := by simp [i1.uses], globals := by simp only [List.length_append, List.length_cons, List.length_nil]; exact Nat.succ_le_succ i1.globals }, s1.trans ⟨rfl, List.prefix_refl _, List.prefix_refl _, List.prefix_append _ _⟩, x7.trans (y7.trans z7)⟩
/-- a function is gone into. -/
theorem Inv.open_ (h : Inv l b S) (hn : S.frames.length + 1 ≤ S.pc) (at_ : Nat) (x : Nd) : Inv l (b + 1) (S.open_ at_ x) ∧ frK (S.open_ at_ x) = (S.funs.length, 1, 0) :: frK S ∧ dcK S <+: dcK (S.open_ at_ x) ∧ fnK S <+: fnK (S.open_ at_ x) ∧ S.globals <+: (S.open_ at_ x).globals ∧ (S.open_ at_ x).pc = S.pc := by
  unfold MS.open_
  simp only
  generalize hS3 : S.failIf (decide (S.funs.length = 1024)) 3 x.pos = S3
  have i1 := h.failIf (decide (S.funs.length = 1024)) 3 x.pos
  have s1 := Sh.failIf S (decide (S.funs.length = 1024)) 3 x.pos
  obtain ⟨z1, z2, z3, z4, z5, z6, z7⟩ := failIf_rest S (decide (S.funs.length = 1024)) 3 x.pos
  rw [hS3] at i1 s1 z1 z2 z3 z4 z5 z6 z7
  have i2 : Inv l (b + 1) { S3 with funs := S3.funs ++ [⟨at_, x.num, 0, []⟩], frames := ⟨S3.funs.length, [], 0, []⟩ :: S3.frames } := by
    have i1' := i1.mono (Nat.le_succ b)
    refine { i1' with ne := by simp, nfr := by simp only [List.length_cons]; rw [z4, z7]; exact hn, nf := by simp only [List.length_append, List.length_cons, List.length_nil]; exact Nat.succ_le_succ i1.nf, slots := fun g hg => ?_, caps := fun g hg => ?_, fr := fun f hf => ?_, refs := ⟨i1'.refs.1, fun f hf => ?_⟩, own := fun f hf => ?_ }
    · rcases List.mem_append.1 hg with hg | hg
      · exact i1'.slots g hg
      · obtain rfl := List.mem_singleton.1 hg; simp
    · rcases List.mem_append.1 hg with hg | hg
      · exact i1'.caps g hg
      · obtain rfl := List.mem_singleton.1 hg; simp
    · simp only [List.length_append, List.length_cons, List.length_nil]
      rcases List.mem_cons.1 hf with rfl | hf
      · simp
      · have := i1'.fr f hf; exact ⟨by omega, this.2⟩
    · rcases List.mem_cons.1 hf with rfl | hf
      · exact ⟨by simp, by simp⟩
      · exact i1'.refs.2 f hf
    · rcases List.mem_cons.1 hf with rfl | hf
      · simp
      · exact i1'.own f hf
  refine ⟨i2.top (Nat.le_refl _) _ (fun f r hf => by cases hf; exact ⟨rfl, by simp, by simp, by simp, rfl⟩), ?_, s1.dc, s1.fn.trans ?_, s1.gl, z7⟩
  · have := s1.fr
    unfold frK MS.enter MS.top at *
    simp only [onTop, List.map_cons, List.length_cons, List.length_nil, z1] at *
    rw [this]
  · unfold fnK MS.enter MS.top
    simp only [List.map_append]
    exact List.prefix_append _ _
theorem Inv.popF (h : Inv l b S) {k : Nat × Nat × Nat} {r : List (Nat × Nat × Nat)} (hf : frK S = k :: r) (hr : r ≠ []) : Inv l b { S with frames := S.frames.tail } := by
  have hsub : ∀ f ∈ S.frames.tail, f ∈ S.frames := fun f hf => List.mem_of_mem_tail hf
  refine { h with ne := fun ht => ?_, nfr := ?_, fr := fun f hf => h.fr f (hsub f hf), refs := ⟨h.refs.1, fun f hf => h.refs.2 f (hsub f hf)⟩, own := fun f hf => h.own f (hsub f hf) }
  · simp only at ht
    have : frK S = k :: r := hf
    unfold frK at this
    cases hS : S.frames with
    | nil => exact h.ne hS
    | cons f fs =>
      rw [hS] at this ht
      simp only [List.tail_cons] at ht
      subst ht
      simp only [List.map_cons, List.map_nil, List.cons.injEq] at this
      exact hr this.2.symm
  · have := h.nfr
    simp only [List.length_tail]; omega

theorem MS.name_find (g : List (Bs × Nat)) (set : Bool) {x : Nd} (hx : l[S.pc]? = some x) : MS.name l g set S =
    (let S1 := ({ S with pc := S.pc + 1 } : MS).failIf ((primI x.text).isSome && set) 8 x.pos
     match findFr x.text S1.frames with
    | some (d, 0) => { S1 with means := S1.means.set S.pc (some d) }
    | some (d, out + 1) =>
      let S2 : MS := { S1 with means := (S1.means.set S.pc (some d)).set S.pc none, decls := S1.decls.modify d fun c => { c with cap := true } }
      let r := MS.take (S2.frames.length + 1) S2 d 0 x.pos
      { r.1 with uses := r.1.uses.set S.pc (3, r.2) }
    | none => match look x.text g with
      | some at_ => { S1 with uses := S1.uses.set S.pc (4, globalNo l at_) }
      | none =>
        let S2 := S1.failIf (primI x.text).isNone 4 x.pos
        { S2 with uses := S2.uses.set S.pc (5, (primI x.text).getD 0) }) := by
  unfold MS.name; rw [hx]; rfl
/-- what is found is there, and belongs to a frame. -/
theorem findSc_mem {s : Bs} {d : Nat} : ∀ {scs : List (List (Bs × Nat))}, findSc s scs = some d → ∃ sc ∈ scs, look s sc = some d
  | [], h => by cases h
  | sc :: r, h => by
    rw [findSc] at h
    cases hl : look s sc with
    | some x => rw [hl] at h; cases h; exact ⟨sc, List.mem_cons_self, hl⟩
    | none =>
      rw [hl] at h
      obtain ⟨sc', h1, h2⟩ := findSc_mem h
      exact ⟨sc', List.mem_cons_of_mem _ h1, h2⟩
theorem findFr_mem {s : Bs} {d out : Nat} : ∀ {fs : List Fr}, findFr s fs = some (d, out) → ∃ f, fs[out]? = some f ∧ findSc s f.scopes = some d
  | [], h => by cases h
  | f :: fs, h => by
    rw [findFr] at h
    cases hl : findSc s f.scopes with
    | some x => rw [hl] at h; cases h; exact ⟨f, rfl, hl⟩
    | none =>
      rw [hl] at h
      obtain ⟨q, h1, h2⟩ := Option.map_eq_some_iff.1 h
      cases h2
      obtain ⟨f', h3, h4⟩ := findFr_mem (s := s) (d := q.1) (out := q.2) h1
      exact ⟨f', by simpa using h3, h4⟩
theorem lookB_mem {κ : Type} [DecidableEq κ] {s : κ} {d : Nat} : ∀ {sc : List (κ × Nat)}, look s sc = some d → (s, d) ∈ sc
  | [], h => by cases h
  | (t, x) :: sc, h => by
    rw [look] at h
    by_cases ht : s = t
    · rw [if_pos ht] at h; cases h; rw [ht]; exact List.mem_cons_self
    · rw [if_neg ht] at h; exact List.mem_cons_of_mem _ (lookB_mem h)
theorem Inv.found (h : Inv l b S) {s : Bs} {d out : Nat} (hf : findFr s S.frames = some (d, out)) : ∃ f, S.frames[out]? = some f ∧ out < S.frames.length ∧ d < S.decls.length ∧ declFn S d = f.fn := by
  obtain ⟨f, h1, h2⟩ := findFr_mem hf
  obtain ⟨sc, h3, h4⟩ := findSc_mem h2
  have hm := List.mem_of_getElem? h1
  exact ⟨f, h1, (List.getElem?_eq_some_iff.1 h1).1, (h.refs.2 f hm).1 sc h3 _ (lookB_mem h4), h.own f hm sc h3 _ (lookB_mem h4)⟩

theorem Tk.sh {d f : Nat} {S r : MS} (h : Tk d f S r) : Sh S r := by
  refine ⟨?_, by unfold dcK; rw [h.decls]; exact List.prefix_refl _, ?_, by rw [h.globals]; exact List.prefix_refl _⟩
  · unfold frK
    apply List.ext_getElem?
    intro i
    rw [List.getElem?_map, List.getElem?_map]
    cases hr : r.frames[i]? with
    | none =>
      have : S.frames[i]? = none := by
        have h1 := h.nfr
        rw [List.getElem?_eq_none_iff] at hr ⊢; omega
      rw [this]
    | some g =>
      obtain ⟨g0, h1, h2, h3, h4, -⟩ := h.frames i g hr
      rw [h1]; simp only [Option.map_some, h2, h3, h4]
  · unfold fnK
    rw [show r.funs.map (fun g => (g.node, g.params)) = S.funs.map (fun g => (g.node, g.params)) from ?_]
    · exact List.prefix_refl _
    · apply List.ext_getElem?
      intro i
      rw [List.getElem?_map, List.getElem?_map]
      cases hr : r.funs[i]? with
      | none =>
        have : S.funs[i]? = none := by
          have h1 := h.nf
          rw [List.getElem?_eq_none_iff] at hr ⊢; omega
        rw [this]
      | some g =>
        obtain ⟨g0, h1, h2, h3, -⟩ := h.funs i g hr
        rw [h1]; simp only [Option.map_some, h2, h3]
theorem Inv.take (h : Inv l b S) {d f : Nat} {r : MS} (ht : Tk d f S r) (hd : d < S.decls.length) (hf : f ≤ 602) : Inv l (b + 1) r := by
  have hdf : ∀ q, declFn r q = declFn S q := fun q => by unfold declFn; rw [ht.decls]
  refine ⟨by rw [ht.pc]; exact h.pc, ?_, by rw [ht.nfr, ht.pc]; exact h.nfr, by rw [ht.uses]; exact h.uses, by rw [ht.means]; exact h.means, by rw [ht.globals]; exact Nat.le_succ_of_le h.globals, by rw [ht.nf]; exact Nat.le_succ_of_le h.nf, fun g hg => ?_, fun g hg => ?_, fun g hg => ?_, by rw [ht.decls]; exact ht.refs h.refs hd, fun g hg => ?_⟩
  · intro hr
    have := ht.nfr
    rw [hr] at this
    exact h.ne (List.length_eq_zero_iff.1 this.symm)
  · obtain ⟨i, hi, rfl⟩ := List.getElem_of_mem hg
    obtain ⟨g0, h1, h2, h3, h4, -⟩ := ht.funs i _ (List.getElem?_eq_getElem hi)
    rw [h4]; exact Nat.le_succ_of_le (h.slots g0 (List.mem_of_getElem? h1))
  · obtain ⟨i, hi, rfl⟩ := List.getElem_of_mem hg
    obtain ⟨g0, h1, h2, h3, h4, h5, h6⟩ := ht.funs i _ (List.getElem?_eq_getElem hi)
    have := h.caps g0 (List.mem_of_getElem? h1)
    omega
  · obtain ⟨i, hi, rfl⟩ := List.getElem_of_mem hg
    obtain ⟨g0, h1, h2, h3, h4, h5⟩ := ht.frames i _ (List.getElem?_eq_getElem hi)
    have := h.fr g0 (List.mem_of_getElem? h1)
    rw [h2, h3, h4, ht.nf]; omega
  · obtain ⟨i, hi, rfl⟩ := List.getElem_of_mem hg
    obtain ⟨g0, h1, h2, h3, h4, h5⟩ := ht.frames i _ (List.getElem?_eq_getElem hi)
    rw [h2, h3]
    intro sc hsc q hq
    rw [hdf]
    exact h.own g0 (List.mem_of_getElem? h1) sc hsc q hq
theorem Inv.setM (h : Inv l b S) (at_ : Nat) {o : Option Nat} (ho : ∀ d, o = some d → d < S.decls.length) : Inv l b { S with means := S.means.set at_ o } := by
  refine { h with means := by simp [h.means], refs := ⟨fun d hd => ?_, h.refs.2⟩ }
  rcases List.mem_or_eq_of_mem_set hd with hd | hd
  · exact h.refs.1 d hd
  · exact ho d hd.symm
theorem Inv.setU (h : Inv l b S) (at_ : Nat) (u : Nat × Nat) : Inv l b { S with uses := S.uses.set at_ u } := { h with uses := by simp [h.uses] }
theorem declFn_cap (S : MS) (ms : List (Option Nat)) (d q : Nat) : declFn { S with means := ms, decls := S.decls.modify d fun c => { c with cap := true } } q = declFn S q := by
  unfold declFn
  simp only
  rw [List.getElem?_modify]
  cases S.decls[q]? with
  | none => rfl
  | some c => by_cases h : d = q <;> simp [h]
theorem Inv.cap (h : Inv l b S) (d : Nat) : Inv l b { S with decls := S.decls.modify d fun c => { c with cap := true } } := by
  refine { h with refs := ⟨by simp only [List.length_modify]; exact h.refs.1, by simp only [List.length_modify]; exact h.refs.2⟩, own := fun f hf sc hsc q hq => ?_ }
  rw [declFn_cap S S.means]; exact h.own f hf sc hsc q hq
theorem dcK_cap (S : MS) (d : Nat) : (S.decls.modify d fun c => { c with cap := true }).map (fun d => (d.fn, d.slot)) = S.decls.map fun d => (d.fn, d.slot) := by
  apply List.ext_getElem?
  intro i
  rw [List.getElem?_map, List.getElem?_map, List.getElem?_modify]
  cases S.decls[i]? with
  | none => rfl
  | some c => simp only [Option.map_some]; split <;> rfl

theorem Inv.name (h : Inv l b S) (hl : l.length ≤ 600) (g : List (Bs × Nat)) (set : Bool) (hp : S.pc < l.length) : Inv l (b + 1) (MS.name l g set S) ∧ Sh S (MS.name l g set S) ∧ (MS.name l g set S).pc = S.pc + 1 := by
  rw [MS.name_find g set (List.getElem?_eq_getElem hp)]
  generalize l[S.pc] = x
  simp only
  have i0 : Inv l b { S with pc := S.pc + 1 } := h.go (Nat.le_succ _) hp
  have s0 : Sh S { S with pc := S.pc + 1 } := ⟨rfl, List.prefix_refl _, List.prefix_refl _, List.prefix_refl _⟩
  generalize hS1 : ({ S with pc := S.pc + 1 } : MS).failIf ((primI x.text).isSome && set) 8 x.pos = S1
  have i1 := i0.failIf ((primI x.text).isSome && set) 8 x.pos
  have s1 := s0.trans (Sh.failIf _ ((primI x.text).isSome && set) 8 x.pos)
  have p1 : S1.pc = S.pc + 1 := by rw [← hS1]; exact (failIf_rest _ _ _ _).2.2.2.2.2.2
  rw [hS1] at i1 s1
  cases hf : findFr x.text S1.frames with
  | some q =>
    obtain ⟨d, out⟩ := q
    obtain ⟨f, f1, f2, f3, f4⟩ := i1.found hf
    cases out with
    | zero => exact ⟨(i1.setM _ fun d' hd' => by cases hd'; exact f3).mono (Nat.le_succ _), s1.trans ⟨rfl, List.prefix_refl _, List.prefix_refl _, List.prefix_refl _⟩, p1⟩
    | succ out =>
      simp only
      generalize hS2 : ({ S1 with means := (S1.means.set S.pc (some d)).set S.pc none, decls := S1.decls.modify d fun c => { c with cap := true } } : MS) = S2
      have i2 : Inv l b S2 := by
        rw [← hS2]
        exact ((i1.setM S.pc (o := some d) (fun d' hd' => by cases hd'; exact f3)).setM S.pc (o := none) (fun d' hd' => by cases hd')).cap d
      have s2 : Sh S1 S2 := by
        rw [← hS2]
        exact ⟨rfl, by unfold dcK; simp only [dcK_cap]; exact List.prefix_refl _, List.prefix_refl _, List.prefix_refl _⟩
      have p2 : S2.pc = S.pc + 1 := by rw [← hS2]; exact p1
      have f3' : d < S2.decls.length := by rw [← hS2]; simpa using f3
      have tk := take_tk (S1.frames.length + 1) S2 d 0 x.pos
      have hfl : S1.frames.length + 1 ≤ 602 := by have := i1.nfr; have := i1.pc; omega
      have i3 := i2.take tk f3' hfl
      exact ⟨i3.setU _ _, (s1.trans s2).trans (tk.sh.trans ⟨rfl, List.prefix_refl _, List.prefix_refl _, List.prefix_refl _⟩), tk.pc.trans p2⟩
  | none =>
    simp only
    cases look x.text g with
    | some at_ => exact ⟨(i1.setU _ _).mono (Nat.le_succ _), s1.trans ⟨rfl, List.prefix_refl _, List.prefix_refl _, List.prefix_refl _⟩, p1⟩
    | none =>
      simp only
      have i2 := i1.failIf (primI x.text).isNone 4 x.pos
      exact ⟨(i2.setU _ _).mono (Nat.le_succ _), s1.trans ((Sh.failIf S1 (primI x.text).isNone 4 x.pos).trans ⟨rfl, List.prefix_refl _, List.prefix_refl _, List.prefix_refl _⟩), (failIf_rest S1 (primI x.text).isNone 4 x.pos).2.2.2.2.2.2.trans p1⟩
end
end Go.Proofs.YtihokakelnfdgaaDoor

namespace Go.Proofs.YtihokakelnfdgaaDoor
set_option linter.unusedSimpArgs false
open Go Go.Ev
set_option linter.unusedVariables false

/-! What is right below the program. -/
theorem bh_D {l : List Nd} (hpos : ∀ x ∈ l, 0 ≤ x.n) : ∀ (w d k f : Nat), D (l.drop k) d = some w → w < f → bh l f k d = some (k + w)
 | w, 0, k, f, h, hf => by
  rw [D_zero] at h; cases h
  cases f with
  | zero => omega
  | succ f => rfl
 | 0, d + 1, k, f, h, hf => by have := (D_le _ _ _ h).1; omega
 | w + 1, d + 1, k, f, h, hf => by
  cases f with
  | zero => omega
  | succ f =>
   have hle := (D_le _ _ _ h).2
   rw [List.length_drop] at hle
   have hlt : k < l.length := by omega
   rw [List.drop_eq_getElem_cons hlt] at h
   simp only [D, Option.map_eq_some_iff] at h
   obtain ⟨w', h1, h2⟩ := h
   obtain rfl : w' = w := by omega
   have hx := hpos _ (List.getElem_mem hlt)
   have h3 := (D_le _ _ _ h1).1
   have hmin : (min (max l[k].n 0) (l.length : Int)).toNat = l[k].n.toNat := by omega
   rw [bh, if_neg (by omega), List.getElem?_eq_getElem hlt]
   simp only [hmin, Nat.add_sub_cancel]
   rw [if_neg (by omega), bh_D hpos w' (d + l[k].n.toNat) (k + 1) f h1 (by omega)]
   congr 1; omega
theorem Prg.pos {l : List Nd} (h : Prg l) : ∀ x ∈ l, 0 ≤ x.n := fun x hx => okR_pos (h.ok x hx)
theorem Prg.wd {l : List Nd} (h : Prg l) {p : Nat} (hp : p < l.length) : D (l.drop p) 1 = some (width l p) ∧ 1 ≤ width l p ∧ p + width l p ≤ l.length := by
 obtain ⟨k, hk⟩ := h.at_ p hp
 have hle := D_le _ _ _ hk
 rw [List.length_drop] at hle
 have : width l p = k := by unfold width; rw [hk]; rfl
 rw [this]; exact ⟨hk, hle.1, by omega⟩
theorem kidsP_ge (l : List Nd) : ∀ (c p : Nat), ∀ q ∈ kidsP l c p, p ≤ q
 | 0, p, q, hq => by cases hq
 | c + 1, p, q, hq => by
  rcases List.mem_cons.1 hq with rfl | hq
  ·exact Nat.le_refl _
  ·exact Nat.le_trans (Nat.le_add_right _ _) (kidsP_ge l c _ q hq)
theorem kidsP_lt {l : List Nd} (h : Prg l) : ∀ (c p w : Nat), D (l.drop p) c = some w → ∀ q ∈ kidsP l c p, q < p + w
 | 0, p, w, hD, q, hq => by cases hq
 | c + 1, p, w, hD, q, hq => by
  obtain ⟨k1, k2, e1, e2, e3, e4, e5, e6⟩ := D_next hD
  rcases List.mem_cons.1 hq with rfl | hq
  ·omega
  ·rw [e1, Option.getD_some] at hq
   have := kidsP_lt h c _ k2 e2 q hq
   omega
/-- the rest of the program's parts. -/
theorem Prg.tp {l : List Nd} (h : Prg l) (h0 : 0 < l.length) (hw : D l 1 = some l.length) : ∃ c, tops l = kidsP l c 1 ∧ D (l.drop 1) c = some (l.length - 1) := by
 refine ⟨l[0].n.toNat, by unfold tops; rw [List.getElem?_eq_getElem h0], ?_⟩
 have := D_kids (at_ := 0) h0 (by simpa using hw)
 exact this.2.2
theorem hoist_mem (l : List Nd) : ∀ (ts : List Nat) (g : List (Bs × Nat)), ∀ q ∈ ts.foldl (fun g k => if isDecl l k && (look (nameAt l k) g).isNone then lay (nameAt l k) k g else g) g, q ∈ g ∨ q.2 ∈ ts
 | [], g, q, hq => .inl hq
 | k :: ts, g, q, hq => by
  rw [List.foldl_cons] at hq
  rcases hoist_mem l ts _ q hq with h | h
  ·split at h
   ·rcases lay_mem h with h | h
    ·exact .inr (by rw [h]; exact List.mem_cons_self)
    ·exact .inl h
   ·exact .inl h
  ·exact .inr (List.mem_cons_of_mem _ h)
theorem hoisted_top {l : List Nd} {s : Bs} {at_ : Nat} (h : look s (hoisted l) = some at_) : at_ ∈ tops l := by
 have := hoist_mem l (tops l) [] _ (lookB_mem h)
 rcases this with h | h
 ·cases h
 ·exact h
end Go.Proofs.YtihokakelnfdgaaDoor

namespace Go.Proofs.YtihokakelnfdgaaDoor
open Go Go.Ev
set_option maxRecDepth 100000
set_option linter.unusedVariables false
set_option linter.unusedSimpArgs false
set_option pp.maxSteps 1500
attribute [local irreducible] quiet allocs effect wp ret wpO Runs Act.tmp Act.eval fin results Tree.set binOp loadAt storeAt target wanted cellsFrom

section
variable {X : Nat → Prop} {A : Args} {wb : Nat} {S : MS} {fB dB : List Nat} {V : Vs} {m : Mem}

theorem behind58 (m : Mem) (b off cap : Nat) {l : List Nd} (P : Prg l) (hN : Nodes m b off l) (hl : l.length ≤ 100000) (k : Nat) (hk : k < l.length) :
  Runs evEnv 58 [.slice (some ⟨b, off, none⟩) l.length cap, .int .i64 k] m fun v m' => v = .tuple ⟨[I (k + width l k : Nat), I 0]⟩ ∧ m' = m := by
 have hw := P.wd hk
 have := behind_runs m b off cap l hN hl k hk
 rw [bh_D P.pos _ 1 k _ hw.1 (by omega)] at this
 exact this

/-- the look at the globals that are counted. -/
def cntTo (l : List Nd) (at_ : Nat) (ts : List Nat) : Nat := (ts.filter fun k => decide (k < at_) && isDecl l k).length

theorem globalAt93 (h : Rep X A m wb S fB dB V) (P : Prg A.l) (h0 : 0 < A.l.length) (hD : D A.l 1 = some A.l.length) (hg : ∀ s at_, look s A.g = some at_ → at_ < A.l.length) (hl : A.l.length ≤ 100000) (s : Bs) :
  Runs evEnv 93 [ptr wb, encS s] m fun v m' => v = .tuple ⟨[I (((look s A.g).map (globalNo A.l)).getD 0 : Nat), .bool (look s A.g).isSome]⟩ ∧ m' = m := by
 have hw := h.w
 have hgm := h.gmap.2
 have hfind := find_str (g := fun i => I i) m s A.g
 refine runs_start rfl rfl rfl rfl ?_
 (repeat (first | (apply G.h; constructor <;> (first | exact Zc | apply gI | ((repeat' (first | exact Y0 | apply Y1 | ((first | apply Y4 | apply Y5); simp only [evs, Nat.reduceEqDiff, reduceIte] <;> rfl))); done) | (apply Y6; (try simp only [evs]); first | exact hw.load1 rfl rfl rfl)))))
 cases hl0 : look s A.g with
 | none =>
  rw [hl0] at hfind
  replace hfind : quiet.find evEnv m 9 (encS s) (encG A.g) = some none := hfind
  (apply g_lookup (f := none) <;> (first | exact Zc | apply gI | ((repeat' (first | exact Y0 | apply Y1 | exact Y2 | apply Y3 | ((first | apply Y4 | apply Y5); simp only [evs, Nat.reduceEqDiff, reduceIte] <;> rfl))); done) | (apply Hy.mk; (try simp only [evs]); first | exact hgm | exact hfind | assumption) | (apply Om.mk; first | exact hgm | exact hfind) | (apply Y6; (try simp only [evs]); first | rfl) | apply Cn.mk))
  (repeat (first | (apply G.h; constructor <;> (first | exact Zc | apply gI | ((repeat' (first | exact Y0 | apply Y1 | ((first | apply Y4 | apply Y5); simp only [evs, Nat.reduceEqDiff, reduceIte] <;> rfl))); done) | (apply Y6; (try simp only [evs]); first | rfl)))))
  (refine g_fin (by repeat' first | exact Rs.nil | apply Rs.cons | (apply Y4; simp only [evs, Nat.reduceEqDiff, reduceIte] <;> rfl)) (by (simp only [evs, Nat.reduceEqDiff, reduceIte] <;> first | rfl | (congr 1; omega) | omega)) ?_)
  exact ⟨rfl, by (simp only [evs, Nat.reduceEqDiff, reduceIte] <;> first | rfl | (congr 1; omega) | omega)⟩
 | some at_ =>
  rw [hl0] at hfind
  replace hfind : quiet.find evEnv m 9 (encS s) (encG A.g) = some (some (I at_)) := hfind
  have hat := hg s at_ hl0
  (apply g_lookup (f := some (I at_)) <;> (first | exact Zc | apply gI | ((repeat' (first | exact Y0 | apply Y1 | exact Y2 | apply Y3 | ((first | apply Y4 | apply Y5); simp only [evs, Nat.reduceEqDiff, reduceIte] <;> rfl))); done) | (apply Hy.mk; (try simp only [evs]); first | exact hgm | exact hfind | assumption) | (apply Om.mk; first | exact hgm | exact hfind) | (apply Y6; (try simp only [evs]); first | rfl) | apply Cn.mk))
  (repeat (first | (apply G.h; constructor <;> (first | exact Zc | apply gI | ((repeat' (first | exact Y0 | apply Y1 | ((first | apply Y4 | apply Y5); simp only [evs, Nat.reduceEqDiff, reduceIte] <;> rfl))); done) | (apply Y6; (try simp only [evs]); first | rfl)))))
  obtain ⟨c, ht, hc⟩ := P.tp h0 hD
  refine ewp_loop (ι := Nat × Nat × Nat) (fun i a => a.n = 56 ∧ a.defers = [] ∧ a.m = m ∧ a.tmp 0 = ptr wb ∧ a.tmp 6 = I at_ ∧ a.tmp 8 = I i.2.2 ∧ a.tmp 9 = I i.2.1 ∧ i.2.1 ≤ A.l.length ∧ D (A.l.drop i.2.1) i.1 = some (A.l.length - i.2.1) ∧ globalNo A.l at_ = i.2.2 + cntTo A.l at_ (kidsP A.l i.1 i.2.1) ∧ i.2.2 ≤ i.2.1) (fun i => A.l.length - i.2.1) (c, 1, 0) ?_ ?_
  ·exact ⟨by (simp only [evs, Nat.reduceEqDiff, reduceIte] <;> first | rfl | (congr 1; omega) | omega), by (simp only [evs, Nat.reduceEqDiff, reduceIte] <;> first | rfl | (congr 1; omega) | omega), by (simp only [evs, Nat.reduceEqDiff, reduceIte] <;> first | rfl | (congr 1; omega) | omega), by (simp only [evs, Nat.reduceEqDiff, reduceIte] <;> first | rfl | (congr 1; omega) | omega), by (simp only [evs, Nat.reduceEqDiff, reduceIte] <;> first | rfl | (congr 1; omega) | omega), by (simp only [evs, Nat.reduceEqDiff, reduceIte] <;> first | rfl | (congr 1; omega) | omega), by (simp only [evs, Nat.reduceEqDiff, reduceIte] <;> first | rfl | (congr 1; omega) | omega), h0, hc, by unfold globalNo cntTo; rw [ht]; simp, Nat.zero_le _⟩
  rintro ⟨c, p, n⟩ a ⟨qn, qd, qm, q0, q6, q8, q9, hp, hDp, hcnt, hnp⟩ ih
  simp only at q8 q9 hp hDp hcnt hnp
  rcases Nat.lt_or_ge p at_ with hlt | hge
  ·have hpl : p < A.l.length := by omega
   have hkind := h.nodes.kind p hpl
   cases c with
   | zero => rw [D_zero] at hDp; simp only [Option.some.injEq] at hDp; omega
   | succ c =>
    obtain ⟨k1, k2, d1, d2, d3, d4, d5, d6⟩ := D_next hDp
    have hwd : width A.l p = k1 := by unfold width; rw [d1]; rfl
    have hbeh := behind58 m A.nb A.off A.cap P h.nodes hl p hpl
    rw [hwd] at hbeh
    have hrest : cntTo A.l at_ (kidsP A.l (c + 1) p) = (if isDecl A.l p then 1 else 0) + cntTo A.l at_ (kidsP A.l c (p + k1)) := by
     unfold cntTo
     rw [kidsP, d1, Option.getD_some, List.filter_cons]
     simp only [hlt, decide_true, Bool.true_and]
     split <;> simp <;> omega
    have hdec : isDecl A.l p = decide (A.l[p].kind = 3 ∨ A.l[p].kind = 12) := by unfold isDecl; rw [List.getElem?_eq_getElem hpl]
    rw [hrest, hdec] at hcnt
    generalize A.l[p].kind = kd at hkind hcnt
    by_cases h3 : kd = 3
    ·subst h3
     simp only [true_or, decide_true, if_true] at hcnt
     (repeat (first | (apply G.h; constructor <;> (first | exact Zc | apply gI | ((repeat' (first | exact Y0 | apply Y1 | ((first | apply Y4 | apply Y5); simp only [evs, Nat.reduceEqDiff, reduceIte, qn, qd, qm, q0, q6, q8, q9] <;> rfl))); done) | (apply Y6; (try simp only [evs, qn, qd, qm, q0, q6, q8, q9]); first | exact hkind | exact hw.load1 rfl rfl rfl)))))
     ((first | apply g_run | apply g_run0) <;> (first | ((repeat' (first | exact Y0 | apply Y1 | exact Y2 | apply Y3 | ((first | apply Y4 | apply Y5); simp only [evs, Nat.reduceEqDiff, reduceIte, qn, qd, qm, q0, q6, q8, q9] <;> rfl))); done) | exact Rn.mk ((by simp only [evs, qm]; exact hbeh)) | apply Cn.mk))
     rintro v m' ⟨rfl, rfl⟩
     (repeat (first | (apply G.h; constructor <;> (first | exact Zc | apply gI | ((repeat' (first | exact Y0 | apply Y1 | ((first | apply Y4 | apply Y5); simp only [evs, Nat.reduceEqDiff, reduceIte, qn, qd, qm, q0, q6, q8, q9] <;> rfl))); done) | (apply Y6; (try simp only [evs, qn, qd, qm, q0, q6, q8, q9]); first | rfl)))))
     refine ih (c, p + k1, n + 1) _ ?_ (by simp only; omega)
     refine ⟨by (simp only [evs, Nat.reduceEqDiff, reduceIte, qn, qd, qm, q0, q6, q8, q9] <;> first | rfl | (congr 1; omega) | omega), by (simp only [evs, Nat.reduceEqDiff, reduceIte, qn, qd, qm, q0, q6, q8, q9] <;> first | rfl | (congr 1; omega) | omega), by (simp only [evs, Nat.reduceEqDiff, reduceIte, qn, qd, qm, q0, q6, q8, q9] <;> first | rfl | (congr 1; omega) | omega), by (simp only [evs, Nat.reduceEqDiff, reduceIte, qn, qd, qm, q0, q6, q8, q9] <;> first | rfl | (congr 1; omega) | omega), by (simp only [evs, Nat.reduceEqDiff, reduceIte, qn, qd, qm, q0, q6, q8, q9] <;> first | rfl | (congr 1; omega) | omega), by (simp only [evs, Nat.reduceEqDiff, reduceIte, qn, qd, qm, q0, q6, q8, q9] <;> first | rfl | (congr 1; omega) | omega), by (simp only [evs, Nat.reduceEqDiff, reduceIte, qn, qd, qm, q0, q6, q8, q9] <;> first | rfl | (congr 1; omega) | omega), by simp only; omega, by simp only; rw [d2]; congr 1; omega, by simp only; omega, by simp only; omega⟩
    ·by_cases h12 : kd = 12
     ·subst h12
      simp only [or_true, decide_true, if_true] at hcnt
      (repeat (first | (apply G.h; constructor <;> (first | exact Zc | apply gI | ((repeat' (first | exact Y0 | apply Y1 | ((first | apply Y4 | apply Y5); simp only [evs, Nat.reduceEqDiff, reduceIte, qn, qd, qm, q0, q6, q8, q9] <;> rfl))); done) | (apply Y6; (try simp only [evs, qn, qd, qm, q0, q6, q8, q9]); first | exact hkind | exact hw.load1 rfl rfl rfl)))))
      ((first | apply g_run | apply g_run0) <;> (first | ((repeat' (first | exact Y0 | apply Y1 | exact Y2 | apply Y3 | ((first | apply Y4 | apply Y5); simp only [evs, Nat.reduceEqDiff, reduceIte, qn, qd, qm, q0, q6, q8, q9] <;> rfl))); done) | exact Rn.mk ((by simp only [evs, qm]; exact hbeh)) | apply Cn.mk))
      rintro v m' ⟨rfl, rfl⟩
      (repeat (first | (apply G.h; constructor <;> (first | exact Zc | apply gI | ((repeat' (first | exact Y0 | apply Y1 | ((first | apply Y4 | apply Y5); simp only [evs, Nat.reduceEqDiff, reduceIte, qn, qd, qm, q0, q6, q8, q9] <;> rfl))); done) | (apply Y6; (try simp only [evs, qn, qd, qm, q0, q6, q8, q9]); first | rfl)))))
      refine ih (c, p + k1, n + 1) _ ?_ (by simp only; omega)
      refine ⟨by (simp only [evs, Nat.reduceEqDiff, reduceIte, qn, qd, qm, q0, q6, q8, q9] <;> first | rfl | (congr 1; omega) | omega), by (simp only [evs, Nat.reduceEqDiff, reduceIte, qn, qd, qm, q0, q6, q8, q9] <;> first | rfl | (congr 1; omega) | omega), by (simp only [evs, Nat.reduceEqDiff, reduceIte, qn, qd, qm, q0, q6, q8, q9] <;> first | rfl | (congr 1; omega) | omega), by (simp only [evs, Nat.reduceEqDiff, reduceIte, qn, qd, qm, q0, q6, q8, q9] <;> first | rfl | (congr 1; omega) | omega), by (simp only [evs, Nat.reduceEqDiff, reduceIte, qn, qd, qm, q0, q6, q8, q9] <;> first | rfl | (congr 1; omega) | omega), by (simp only [evs, Nat.reduceEqDiff, reduceIte, qn, qd, qm, q0, q6, q8, q9] <;> first | rfl | (congr 1; omega) | omega), by (simp only [evs, Nat.reduceEqDiff, reduceIte, qn, qd, qm, q0, q6, q8, q9] <;> first | rfl | (congr 1; omega) | omega), by simp only; omega, by simp only; rw [d2]; congr 1; omega, by simp only; omega, by simp only; omega⟩
     ·have hno : ¬ (kd = 3 ∨ kd = 12) := by omega
      simp only [hno, decide_false] at hcnt
      (repeat (first | (apply G.h; constructor <;> (first | exact Zc | apply gI | ((repeat' (first | exact Y0 | apply Y1 | ((first | apply Y4 | apply Y5); simp only [evs, Nat.reduceEqDiff, reduceIte, qn, qd, qm, q0, q6, q8, q9] <;> rfl))); done) | (apply Y6; (try simp only [evs, qn, qd, qm, q0, q6, q8, q9]); first | exact hkind | exact hw.load1 rfl rfl rfl)))))
      ((first | apply g_run | apply g_run0) <;> (first | ((repeat' (first | exact Y0 | apply Y1 | exact Y2 | apply Y3 | ((first | apply Y4 | apply Y5); simp only [evs, Nat.reduceEqDiff, reduceIte, qn, qd, qm, q0, q6, q8, q9] <;> rfl))); done) | exact Rn.mk ((by simp only [evs, qm]; exact hbeh)) | apply Cn.mk))
      rintro v m' ⟨rfl, rfl⟩
      (repeat (first | (apply G.h; constructor <;> (first | exact Zc | apply gI | ((repeat' (first | exact Y0 | apply Y1 | ((first | apply Y4 | apply Y5); simp only [evs, Nat.reduceEqDiff, reduceIte, qn, qd, qm, q0, q6, q8, q9] <;> rfl))); done) | (apply Y6; (try simp only [evs, qn, qd, qm, q0, q6, q8, q9]); first | rfl)))))
      refine ih (c, p + k1, n) _ ?_ (by simp only; omega)
      refine ⟨by (simp only [evs, Nat.reduceEqDiff, reduceIte, qn, qd, qm, q0, q6, q8, q9] <;> first | rfl | (congr 1; omega) | omega), by (simp only [evs, Nat.reduceEqDiff, reduceIte, qn, qd, qm, q0, q6, q8, q9] <;> first | rfl | (congr 1; omega) | omega), by (simp only [evs, Nat.reduceEqDiff, reduceIte, qn, qd, qm, q0, q6, q8, q9] <;> first | rfl | (congr 1; omega) | omega), by (simp only [evs, Nat.reduceEqDiff, reduceIte, qn, qd, qm, q0, q6, q8, q9] <;> first | rfl | (congr 1; omega) | omega), by (simp only [evs, Nat.reduceEqDiff, reduceIte, qn, qd, qm, q0, q6, q8, q9] <;> first | rfl | (congr 1; omega) | omega), by (simp only [evs, Nat.reduceEqDiff, reduceIte, qn, qd, qm, q0, q6, q8, q9] <;> first | rfl | (congr 1; omega) | omega), by (simp only [evs, Nat.reduceEqDiff, reduceIte, qn, qd, qm, q0, q6, q8, q9] <;> first | rfl | (congr 1; omega) | omega), by simp only; omega, by simp only; rw [d2]; congr 1; omega, by simp only; simp at hcnt; omega, by simp only; omega⟩
  ·have hz : cntTo A.l at_ (kidsP A.l c p) = 0 := by
    unfold cntTo
    rw [List.length_eq_zero_iff, List.filter_eq_nil_iff]
    intro q hq
    have := kidsP_ge A.l c p q hq
    simp; omega
   (repeat (first | (apply G.h; constructor <;> (first | exact Zc | apply gI | ((repeat' (first | exact Y0 | apply Y1 | ((first | apply Y4 | apply Y5); simp only [evs, Nat.reduceEqDiff, reduceIte, qn, qd, qm, q0, q6, q8, q9] <;> rfl))); done) | (apply Y6; (try simp only [evs, qn, qd, qm, q0, q6, q8, q9]); first | rfl)))))
   (refine g_fin (by repeat' first | exact Rs.nil | apply Rs.cons | (apply Y4; simp only [evs, Nat.reduceEqDiff, reduceIte, qn, qd, qm, q0, q6, q8, q9] <;> rfl)) (by (simp only [evs, Nat.reduceEqDiff, reduceIte, qn, qd, qm, q0, q6, q8, q9] <;> first | rfl | (congr 1; omega) | omega)) ?_)
   have : globalNo A.l at_ = n := by omega
   refine ⟨?_, by (simp only [evs, Nat.reduceEqDiff, reduceIte, qm] <;> first | rfl | (congr 1; omega) | omega)⟩
   simp only [Option.map_some, Option.getD_some, this, Option.isSome_some]
   rfl
end
end Go.Proofs.YtihokakelnfdgaaDoor

namespace Go.Proofs.YtihokakelnfdgaaDoor
set_option linter.unusedSimpArgs false
open Go Go.Ev
set_option linter.unusedVariables false
section
variable {X : Nat → Prop} {T : List Nat} {m m' : Mem} {A : Args} {wb : Nat} {S : MS} {fB dB : List Nat} {V : Vs}

/-! The walker's state, part by part. -/
theorem ScsR.mid {lo hi : Nat} (hg : ∀ c, lo ≤ c → c < hi → m'.get c = m.get c) (hn : m.next ≤ m'.next) : ∀ {bs : List Nat} {scs : List (List (Bs × Nat))}, ScsR X m dB lo hi bs scs → ScsR X m' dB lo hi bs scs
 | [], [], _ => trivial
 | b :: bs, sc :: scs, ⟨⟨h1, h2, h3, h4⟩, h⟩ => ⟨⟨h1, h2, h3, h4.keep hn (hg b h1 h2)⟩, h.mid hg hn⟩
theorem FrR.mid {lo hi b cb : Nat} {f : Fr} {sv : Value} {sb : List Nat} (h : FrR X m dB lo hi b f sv sb cb) (hg : ∀ c, lo ≤ c → c < hi → m'.get c = m.get c) (hn : m.next ≤ m'.next) : FrR X m' dB lo hi b f sv sb cb :=
 { h with row := h.row.keep hn (hg b h.blo h.bhi), sl := h.sl.keep hn fun c n k hv => hg c (h.slb c n k hv).1 (h.slb c n k hv).2, scs := h.scs.mid hg hn, cmap := h.cmap.keep hn (hg cb h.clo h.chi) }
theorem FrsR.mid {lo : Nat} (hn : m.next ≤ m'.next) : ∀ {hi : Nat} {bs : List Nat} {fs : List Fr}, (∀ c, lo ≤ c → c < hi → m'.get c = m.get c) → FrsR X m dB lo hi bs fs → FrsR X m' dB lo hi bs fs
 | hi, [], [], _, h => h
 | hi, b :: bs, f :: fs, hg, ⟨mid, sv, sb, cb, h1, h2⟩ => ⟨mid, sv, sb, cb, h1.mid (fun c a b => hg c (Nat.le_trans h2.le a) b) hn, h2.mid hn fun c a b => hg c a (Nat.lt_trans (Nat.lt_of_lt_of_le b h1.blo) h1.bhi)⟩

/-- the globals' names are laid. -/
theorem Rep.regl {g g' : List (Bs × Nat)} (h : Rep X { A with g := g } m wb S fB dB V) (hm : Mp m' V.gb (encG g')) (ho : ∀ x, x ≠ V.gb → m'.get x = m.get x) (hn : m'.next = m.next) : Rep X { A with g := g' } m' wb S fB dB V ∧ Keep X [mapTag] m m' := by
 have k : Keep X [mapTag] m m' := Keep.wrote h.gmap.2 h.gx (List.mem_singleton.2 rfl) ho hn
 refine ⟨{ hX := fun b hb => Nat.lt_of_lt_of_le (h.hX b hb) k.1, x0 := h.x0, names := h.names.stay h.x0 h.next_pos k, xn := h.xn, nodes := h.nodes.stay h.xn (h.hX _ h.xn) k, xw := h.xw
           w := h.w.stay k (.inr (by decide)), funs := h.funs.stay k (by decide), caps := h.caps.stay k (by decide), uses := h.uses.stay k (by decide), globals := h.globals.stay k (by decide), gx := h.gx, gmap := hm
           frames := h.frames.stay k (by decide), means := h.means.stay k (by decide), decls := h.decls.stay k (by decide), frs := ?_ }, k⟩
 rw [hn]
 exact h.frs.mid (Nat.le_of_eq hn.symm) fun c h1 _ => ho c (by omega)

theorem gmap_keep (h : Rep X A m wb S fB dB V) (k : Keep X T m m') (ht : mapTag ∉ T) : m'.get V.gb = m.get V.gb := (k.2 _ _ h.gmap.1 h.gmap.2 (.inr ht)).trans h.gmap.2.symm
theorem Rep.setMeans (h : Rep X A m wb S fB dB V) {mb mcap mn p : Nat} {mr : List Value} (o : Option Nat) (v1 : V.mv = .slice (some ⟨mb, 0, none⟩) mn mcap) (v2 : ¬ X mb) (v3 : Row m mb mr 90 0) (hp : p < S.means.length) (r6 : Row m' mb (mr.set p (optPtr dB o)) 90 0) (o6 : ∀ x, x ≠ mb → m'.get x = m.get x) (n6 : m'.next = m.next) :
  Rep X A m' wb { S with means := S.means.set p o } fB dB V ∧ Keep X [90] m m' := by
 have k : Keep X [90] m m' := Keep.row v3 v2 (by decide) o6 n6
 refine ⟨h.turn k (h.w.stay k (.inr (by decide))) (h.funs.stay k (by decide)) (h.caps.stay k (by decide)) (h.uses.stay k (by decide)) (h.globals.stay k (by decide)) rfl (gmap_keep h k (by decide)) (h.frames.stay k (by decide)) ?_ (h.decls.stay k (by decide)) (h.frs.stay k (by decide) k.1), k⟩
 have q := h.means
 rw [v1] at q ⊢
 have := q.stored (o := p) v3 r6 (by simpa using hp)
 rw [← List.map_set] at this
 exact this
theorem Rep.setUses (h : Rep X A m wb S fB dB V) {ub ucap un p : Nat} {ur : List Value} (u : Nat × Nat) (v1 : V.uv = .slice (some ⟨ub, 0, none⟩) un ucap) (v2 : ¬ X ub) (v3 : Row m ub ur 57 0) (hp : p < S.uses.length) (r6 : Row m' ub (put ur (p * 2) (encP u)) 57 0) (o6 : ∀ x, x ≠ ub → m'.get x = m.get x) (n6 : m'.next = m.next) :
  Rep X A m' wb { S with uses := S.uses.set p u } fB dB V ∧ Keep X [57] m m' := by
 have k : Keep X [57] m m' := Keep.row v3 v2 (by decide) o6 n6
 refine ⟨h.turn k (h.w.stay k (.inr (by decide))) (h.funs.stay k (by decide)) (h.caps.stay k (by decide)) ?_ (h.globals.stay k (by decide)) rfl (gmap_keep h k (by decide)) (h.frames.stay k (by decide)) (h.means.stay k (by decide)) (h.decls.stay k (by decide)) (h.frs.stay k (by decide) k.1), k⟩
 have q := h.uses
 rw [v1] at q ⊢
 have := q.put v3 r6
 rw [encPs_put _ _ _ hp] at this
 exact this
theorem Rep.setCap (h : Rep X A m wb S fB dB V) {d : Nat} (hd : d < dB.length) (hd' : d < S.decls.length) (r6 : Row m' dB[d] [I S.decls[d].fn, I S.decls[d].slot, .bool true] 92 0) (o6 : ∀ x, x ≠ dB[d] → m'.get x = m.get x) (n6 : m'.next = m.next) :
  Rep X A m' wb { S with decls := S.decls.modify d fun c => { c with cap := true } } fB dB V ∧ Keep X [92] m m' := by
 have hr := h.decls.2.2 d dB[d] S.decls[d] (List.getElem?_eq_getElem hd) (List.getElem?_eq_getElem hd')
 have k : Keep X [92] m m' := Keep.row hr.2 hr.1 (by decide) o6 n6
 refine ⟨h.turn k (h.w.stay k (.inr (by decide))) (h.funs.stay k (by decide)) (h.caps.stay k (by decide)) (h.uses.stay k (by decide)) (h.globals.stay k (by decide)) rfl (gmap_keep h k (by decide)) (h.frames.stay k (by decide)) (h.means.stay k (by decide)) ?_ (h.frs.stay k (by decide) k.1), k⟩
 obtain ⟨h1, h2, h3⟩ := h.decls
 refine ⟨by simp [h1], h2, fun i b c hb hc => ?_⟩
 rw [List.getElem?_modify] at hc
 obtain ⟨c0, hc0, hc1⟩ := Option.map_eq_some_iff.1 hc
 have q := h3 i b c0 hb hc0
 by_cases hdi : d = i
 ·subst hdi
  rw [if_pos rfl] at hc1
  rw [List.getElem?_eq_getElem hd] at hb
  rw [List.getElem?_eq_getElem hd'] at hc0
  cases hb; cases hc0; subst hc1
  exact ⟨q.1, r6⟩
 ·rw [if_neg hdi] at hc1
  subst hc1
  refine ⟨q.1, q.2.keep k.1 (o6 b fun hbd => hdi ?_)⟩
  obtain ⟨hi, hi2⟩ := List.getElem?_eq_some_iff.1 hb
  have hp := List.pairwise_iff_getElem.1 h2
  rcases Nat.lt_trichotomy d i with hlt | heq | hgt
  ·exact absurd (hbd.symm.trans hi2.symm) (hp d i hd hi hlt)
  ·exact heq
  ·exact absurd (hi2.trans hbd) (hp i d hi hd hgt)
/-- where the uses and the means lie. -/
theorem Rep.usesAt (h : Rep X A m wb S fB dB V) {p : Nat} (hul : S.uses.length = A.l.length) (hp : p < A.l.length) : ∃ ub ucap ur, V.uv = .slice (some ⟨ub, 0, none⟩) A.l.length ucap ∧ ¬ X ub ∧ Row m ub ur 57 0 ∧ 0 + p * 2 + 2 ≤ ur.length := by
 have hl : (encPs S.uses).length = A.l.length * 2 := by rw [encPs_len, hul]
 obtain ⟨ub, ucap, ur, un, u1, u2, u3, u4, u5, u6, -⟩ := h.uses.at (i := p * 2) (by omega)
 have h9 : un * 2 ≤ ucap * 2 := Nat.mul_le_mul_right _ u5
 have hun : un = A.l.length := by
  have := congrArg List.length u6
  rw [hl, List.length_take] at this
  omega
 exact ⟨ub, ucap, ur, by rw [u1, hun], u2, u3, by omega⟩
theorem Rep.meansAt (h : Rep X A m wb S fB dB V) {p : Nat} (hml : S.means.length = A.l.length) (hp : p < A.l.length) : ∃ mb mcap mr, V.mv = .slice (some ⟨mb, 0, none⟩) A.l.length mcap ∧ ¬ X mb ∧ Row m mb mr 90 0 ∧ 0 + p * 1 + 1 ≤ mr.length := by
 have hl : (S.means.map (optPtr dB)).length = A.l.length := by rw [List.length_map, hml]
 obtain ⟨mb, mcap, mr, mn, v1, v2, v3, v4, v5, v6, -⟩ := h.means.at (i := p) (by omega)
 have hmn : mn = A.l.length := by
  have := congrArg List.length v6
  rw [hl, List.length_take] at this
  omega
 exact ⟨mb, mcap, mr, by rw [v1, hmn], v2, v3, by omega⟩
end
end Go.Proofs.YtihokakelnfdgaaDoor

namespace Go.Proofs.YtihokakelnfdgaaDoor
open Go Go.Ev
set_option maxRecDepth 100000
set_option linter.unusedVariables false
set_option linter.unusedSimpArgs false
set_option pp.maxSteps 1500
attribute [local irreducible] quiet allocs effect wp ret wpO Runs Act.tmp Act.eval fin results Tree.set binOp loadAt storeAt target wanted cellsFrom

section
variable {X : Nat → Prop} {A : Args} {wb : Nat} {S : MS} {fB dB : List Nat} {V : Vs} {m : Mem}

def hoistStep (l : List Nd) (g : List (Bs × Nat)) (k : Nat) : List (Bs × Nat) := if isDecl l k && (look (nameAt l k) g).isNone then lay (nameAt l k) k g else g

theorem hoist28 (h : Rep X { A with g := [] } m wb S fB dB V) (P : Prg A.l) (h0 : 0 < A.l.length) (hD : D A.l 1 = some A.l.length) (hl : A.l.length ≤ 100000) :
  Runs evEnv 28 [ptr wb] m fun _ m' => Rep X { A with g := hoisted A.l } m' wb S fB dB V ∧ Keep X [mapTag] m m' := by
 obtain ⟨c, ht, hc⟩ := P.tp h0 hD
 refine runs_start rfl rfl rfl rfl ?_
 (repeat (first | (apply G.h; constructor <;> (first | exact Zc | apply gI | ((repeat' (first | exact Y0 | apply Y1 | ((first | apply Y4 | apply Y5); simp only [evs, Nat.reduceEqDiff, reduceIte] <;> rfl))); done) | (apply Y6; (try simp only [evs]); first | rfl)))))
 refine ewp_loop (ι := Nat × Nat × List (Bs × Nat)) (fun i a => a.n = 56 ∧ a.defers = [] ∧ a.tmp 0 = ptr wb ∧ a.tmp 2 = I i.2.1 ∧ i.2.1 ≤ A.l.length ∧ D (A.l.drop i.2.1) i.1 = some (A.l.length - i.2.1) ∧ hoisted A.l = (kidsP A.l i.1 i.2.1).foldl (hoistStep A.l) i.2.2 ∧ Rep X { A with g := i.2.2 } a.m wb S fB dB V ∧ Keep X [mapTag] m a.m) (fun i => A.l.length - i.2.1) (c, 1, []) ?_ ?_
 ·exact ⟨by (simp only [evs, Nat.reduceEqDiff, reduceIte] <;> first | rfl | (congr 1; omega) | omega), by (simp only [evs, Nat.reduceEqDiff, reduceIte] <;> first | rfl | (congr 1; omega) | omega), by (simp only [evs, Nat.reduceEqDiff, reduceIte] <;> first | rfl | (congr 1; omega) | omega), by (simp only [evs, Nat.reduceEqDiff, reduceIte] <;> first | rfl | (congr 1; omega) | omega), h0, hc, by unfold hoisted; rw [ht]; rfl, by simp only [evs]; exact h, by simp only [evs]; exact Keep.refl⟩
 rintro ⟨c, p, g⟩ a ⟨qn, qd, q0, q2, hp, hDp, hgo, hr, hk⟩ ih
 simp only at q2 hp hDp hgo hr
 have hw := hr.w
 rcases Nat.lt_or_ge p A.l.length with hlt | hge
 ·cases c with
  | zero => rw [D_zero] at hDp; simp only [Option.some.injEq] at hDp; omega
  | succ c =>
   obtain ⟨k1, k2, d1, d2, d3, d4, d5, d6⟩ := D_next hDp
   have hwd : width A.l p = k1 := by unfold width; rw [d1]; rfl
   have hx := hr.nodes.all p hlt
   simp only at hx
   have hgo' : hoisted A.l = (kidsP A.l c (p + k1)).foldl (hoistStep A.l) (hoistStep A.l g p) := by rw [hgo, kidsP, d1]; rfl
   have hs : hoistStep A.l g p = if decide (A.l[p].kind = 3 ∨ A.l[p].kind = 12) && (look A.l[p].text g).isNone then lay A.l[p].text p g else g := by
    unfold hoistStep isDecl nameAt; rw [List.getElem?_eq_getElem hlt]
   rw [hs] at hgo'
   generalize A.l[p] = x at hx hgo'
   have hb := row_new a.m zeroNode 43 0
   (repeat (first | (apply G.h; constructor <;> (first | exact Zc | apply gI | ((repeat' (first | exact Y0 | apply Y1 | ((first | apply Y4 | apply Y5); simp only [evs, Nat.reduceEqDiff, reduceIte, qn, qd, q0, q2] <;> rfl))); done) | (apply Y6; (try simp only [evs, qn, qd, q0, q2]); first | exact hx | exact hw.load1 rfl rfl rfl)))))
   (apply g_stR <;> (first | exact Zc | apply gI | ((repeat' (first | exact Y0 | apply Y1 | exact Y2 | apply Y3 | ((first | apply Y4 | apply Y5); simp only [evs, Nat.reduceEqDiff, reduceIte, qn, qd, q0, q2] <;> rfl))); done) | (apply Hy.mk; (try simp only [evs, qn, qd, q0, q2]); first | exact hb | assumption) | (apply Om.mk; first | exact hb) | (apply Y6; (try simp only [evs, qn, qd, q0, q2]); first | rfl) | apply Cn.mk))
   intro m2 r2 o2 n2; simp only [evs, qn, qd, q0, q2] at r2 o2 n2
   have gr2 : Grow a.m m2 := ((Grow.refl a.m).new _).wrote (Nat.le_refl _) o2 n2
   have h2 := hr.grow gr2
   have hw2 := h2.w
   have k2' : Keep X [mapTag] a.m m2 := Keep.grow gr2
   apply ewpO_nil
   apply eret_seq
   refine ewp_cut (fun a' => (a'.n = 56 ∧ a'.defers = [] ∧ a'.tmp 0 = ptr wb ∧ a'.tmp 2 = I p) ∧ Rep X { A with g := if decide (x.kind = 3 ∨ x.kind = 12) && (look x.text g).isNone then lay x.text p g else g } a'.m wb S fB dB V ∧ Keep X [mapTag] a.m a'.m) ?_ ?_
   ·have hfind := find_str (g := fun i => I i) m2 x.text g
    have hgm := h2.gmap.2
    have hupd := upd_str (g := fun i => I i) m2 x.text p g
    by_cases hk3 : x.kind = 3 ∨ x.kind = 12
    ·have hkd : x.kind = 3 ∨ (x.kind ≠ 3 ∧ x.kind = 12) := by omega
     rw [decide_eq_true hk3]
     cases hl0 : look x.text g with
     | none =>
      rw [hl0] at hfind
      replace hfind : quiet.find evEnv m2 9 (encS x.text) (encG g) = some none := hfind
      rcases hkd with hkd | ⟨hkd0, hkd⟩
      all_goals
       (repeat (first | (apply G.h; constructor <;> (first | exact Zc | apply gI | ((repeat' (first | exact Y0 | apply Y1 | ((first | apply Y4 | apply Y5); simp only [evs, Nat.reduceEqDiff, reduceIte, qn, qd, q0, q2] <;> rfl))); done) | (apply Y6; (try simp only [evs, qn, qd, q0, q2]); first | exact r2.load1 rfl rfl rfl | exact hw2.load1 rfl rfl rfl)))))
       (apply g_lookup (f := none) <;> (first | exact Zc | apply gI | ((repeat' (first | exact Y0 | apply Y1 | exact Y2 | apply Y3 | ((first | apply Y4 | apply Y5); simp only [evs, Nat.reduceEqDiff, reduceIte, qn, qd, q0, q2] <;> rfl))); done) | (apply Hy.mk; (try simp only [evs, qn, qd, q0, q2]); first | exact hgm | exact hfind | assumption) | (apply Om.mk; first | exact hgm | exact hfind) | (apply Y6; (try simp only [evs, qn, qd, q0, q2]); first | rfl) | apply Cn.mk))
       (repeat (first | (apply G.h; constructor <;> (first | exact Zc | apply gI | ((repeat' (first | exact Y0 | apply Y1 | ((first | apply Y4 | apply Y5); simp only [evs, Nat.reduceEqDiff, reduceIte, qn, qd, q0, q2] <;> rfl))); done) | (apply Y6; (try simp only [evs, qn, qd, q0, q2]); first | exact r2.load1 rfl rfl rfl | exact hw2.load1 rfl rfl rfl)))))
       have hgm' := h2.gmap
       (apply g_update <;> (first | exact Zc | apply gI | ((repeat' (first | exact Y0 | apply Y1 | exact Y2 | apply Y3 | ((first | apply Y4 | apply Y5); simp only [evs, Nat.reduceEqDiff, reduceIte, qn, qd, q0, q2] <;> rfl))); done) | (apply Hy.mk; (try simp only [evs, qn, qd, q0, q2]); first | exact hgm' | exact hupd | assumption) | (apply Om.mk; first | exact hgm' | exact hupd) | (apply Y6; (try simp only [evs, qn, qd, q0, q2]); first | rfl) | apply Cn.mk))
       intro m3 mp3 o3 n3
       simp only [evs] at o3 n3
       obtain ⟨h3, k3⟩ := h2.regl (g' := lay x.text p g) mp3 o3 n3
       (repeat (first | (apply G.h; constructor <;> (first | exact Zc | apply gI | ((repeat' (first | exact Y0 | apply Y1 | ((first | apply Y4 | apply Y5); simp only [evs, Nat.reduceEqDiff, reduceIte, qn, qd, q0, q2] <;> rfl))); done) | (apply Y6; (try simp only [evs, qn, qd, q0, q2]); first | rfl)))))
       refine eret_nil ⟨rfl, (by refine ⟨?_, ?_, ?_, ?_⟩ <;> (simp only [evs, Nat.reduceEqDiff, reduceIte, qn, qd, q0, q2] <;> first | rfl | (congr 1; omega) | omega)), ?_, ?_⟩
       ·simp only [evs]; exact h3
       ·simp only [evs]; exact k2'.trans k3
     | some i =>
      rw [hl0] at hfind
      replace hfind : quiet.find evEnv m2 9 (encS x.text) (encG g) = some (some (I i)) := hfind
      rcases hkd with hkd | ⟨hkd0, hkd⟩
      all_goals
       (repeat (first | (apply G.h; constructor <;> (first | exact Zc | apply gI | ((repeat' (first | exact Y0 | apply Y1 | ((first | apply Y4 | apply Y5); simp only [evs, Nat.reduceEqDiff, reduceIte, qn, qd, q0, q2] <;> rfl))); done) | (apply Y6; (try simp only [evs, qn, qd, q0, q2]); first | exact r2.load1 rfl rfl rfl | exact hw2.load1 rfl rfl rfl)))))
       (apply g_lookup (f := some (I i)) <;> (first | exact Zc | apply gI | ((repeat' (first | exact Y0 | apply Y1 | exact Y2 | apply Y3 | ((first | apply Y4 | apply Y5); simp only [evs, Nat.reduceEqDiff, reduceIte, qn, qd, q0, q2] <;> rfl))); done) | (apply Hy.mk; (try simp only [evs, qn, qd, q0, q2]); first | exact hgm | exact hfind | assumption) | (apply Om.mk; first | exact hgm | exact hfind) | (apply Y6; (try simp only [evs, qn, qd, q0, q2]); first | rfl) | apply Cn.mk))
       (repeat (first | (apply G.h; constructor <;> (first | exact Zc | apply gI | ((repeat' (first | exact Y0 | apply Y1 | ((first | apply Y4 | apply Y5); simp only [evs, Nat.reduceEqDiff, reduceIte, qn, qd, q0, q2] <;> rfl))); done) | (apply Y6; (try simp only [evs, qn, qd, q0, q2]); first | rfl)))))
       refine eret_nil ⟨rfl, (by refine ⟨?_, ?_, ?_, ?_⟩ <;> (simp only [evs, Nat.reduceEqDiff, reduceIte, qn, qd, q0, q2] <;> first | rfl | (congr 1; omega) | omega)), ?_, ?_⟩
       ·simp only [evs]; exact h2
       ·simp only [evs]; exact k2'
    ·rw [decide_eq_false hk3]
     have hk30 : x.kind ≠ 3 := by omega
     have hk12 : x.kind ≠ 12 := by omega
     (repeat (first | (apply G.h; constructor <;> (first | exact Zc | apply gI | ((repeat' (first | exact Y0 | apply Y1 | ((first | apply Y4 | apply Y5); simp only [evs, Nat.reduceEqDiff, reduceIte, qn, qd, q0, q2] <;> rfl))); done) | (apply Y6; (try simp only [evs, qn, qd, q0, q2]); first | exact r2.load1 rfl rfl rfl)))))
     refine eret_nil ⟨rfl, (by refine ⟨?_, ?_, ?_, ?_⟩ <;> (simp only [evs, Nat.reduceEqDiff, reduceIte, qn, qd, q0, q2] <;> first | rfl | (congr 1; omega) | omega)), ?_, ?_⟩
     ·simp only [evs]; exact h2
     ·simp only [evs]; exact k2'
   clear r2 o2 n2 h2 hw2 k2' hb hw qn qd q0 q2
   rintro a' ⟨⟨qn, qd, q0, q2⟩, h3, k3⟩
   have hw3 := h3.w
   have hbeh := behind58 a'.m A.nb A.off A.cap P h3.nodes hl p hlt
   rw [hwd] at hbeh
   (repeat (first | (apply G.h; constructor <;> (first | exact Zc | apply gI | ((repeat' (first | exact Y0 | apply Y1 | ((first | apply Y4 | apply Y5); simp only [evs, Nat.reduceEqDiff, reduceIte, qn, qd, q0, q2] <;> rfl))); done) | (apply Y6; (try simp only [evs, qn, qd, q0, q2]); first | exact hw3.load1 rfl rfl rfl)))))
   ((first | apply g_run | apply g_run0) <;> (first | ((repeat' (first | exact Y0 | apply Y1 | exact Y2 | apply Y3 | ((first | apply Y4 | apply Y5); simp only [evs, Nat.reduceEqDiff, reduceIte, qn, qd, q0, q2] <;> rfl))); done) | exact Rn.mk ((by simp only [evs]; exact hbeh)) | apply Cn.mk))
   rintro v m' ⟨rfl, rfl⟩
   (repeat (first | (apply G.h; constructor <;> (first | exact Zc | apply gI | ((repeat' (first | exact Y0 | apply Y1 | ((first | apply Y4 | apply Y5); simp only [evs, Nat.reduceEqDiff, reduceIte, qn, qd, q0, q2] <;> rfl))); done) | (apply Y6; (try simp only [evs, qn, qd, q0, q2]); first | rfl)))))
   refine ih (c, p + k1, _) _ ⟨by (simp only [evs, Nat.reduceEqDiff, reduceIte, qn, qd, q0, q2] <;> first | rfl | (congr 1; omega) | omega), by (simp only [evs, Nat.reduceEqDiff, reduceIte, qn, qd, q0, q2] <;> first | rfl | (congr 1; omega) | omega), by (simp only [evs, Nat.reduceEqDiff, reduceIte, qn, qd, q0, q2] <;> first | rfl | (congr 1; omega) | omega), by (simp only [evs, Nat.reduceEqDiff, reduceIte, qn, qd, q0, q2] <;> first | rfl | (congr 1; omega) | omega), by simp only; omega, by simp only; rw [d2]; congr 1; omega, hgo', by simp only [evs]; exact h3, by simp only [evs]; exact hk.trans k3⟩ (by simp only; omega)
 ·(repeat (first | (apply G.h; constructor <;> (first | exact Zc | apply gI | ((repeat' (first | exact Y0 | apply Y1 | ((first | apply Y4 | apply Y5); simp only [evs, Nat.reduceEqDiff, reduceIte, qn, qd, q0, q2] <;> rfl))); done) | (apply Y6; (try simp only [evs, qn, qd, q0, q2]); first | exact hw.load1 rfl rfl rfl)))))
  (refine g_finN (by first | exact Rs.nil | skip) (by (simp only [evs, Nat.reduceEqDiff, reduceIte, qn, qd, q0, q2] <;> first | rfl | (congr 1; omega) | omega)) ?_)
  have hc0 : c = 0 := by
   have := (D_le _ _ _ hDp).1
   omega
  subst hc0
  simp only [evs]
  rw [hgo]
  exact ⟨hr, hk⟩
end
end Go.Proofs.YtihokakelnfdgaaDoor
