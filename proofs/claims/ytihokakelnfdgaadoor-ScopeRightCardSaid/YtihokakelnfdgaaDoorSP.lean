/- Part of a verified evaluator of the model's programs and of runs by it: SY1 SY2 SY3 SY4 SY5 SY6 SXL. -/
import Derived.Test.YtihokakelnfdgaaDoorSN
import Derived.Test.YtihokakelnfdgaaDoorSM
import Derived.Test.YtihokakelnfdgaaDoorSO
import Derived.Test.YtihokakelnfdgaaDoorSI
namespace Go.Proofs.YtihokakelnfdgaaDoor
open Go Go.Ev
set_option linter.unusedVariables false
set_option linter.unusedSimpArgs false

/-! All that Resolve tells is within what there is. -/
def nodeOf (S : MS) (i : Nat) : Nat := match S.funs[i]? with | some g => g.node | none => 0
def UOk (F : Nat → Nat) (tot : Nat) (S : MS) (q : Nat) (u : Nat × Nat) : Prop :=
 (u.1 = 0 ∧ u.2 = 0) ∨ (u.1 = 3 ∧ u.2 < (capsOf S.funs (F q)).length) ∨ (u.1 = 4 ∧ (u.2 < tot ∨ u.2 < S.globals.length)) ∨ (u.1 = 5 ∧ u.2 < 30)
structure J (F : Nat → Nat) (tot : Nat) (S : MS) : Prop where
 ch : ∀ (k : Nat) (f f' : Fr), S.frames[k]? = some f → S.frames[k + 1]? = some f' → F (nodeOf S f.fn) = f'.fn
 us : ∀ (q : Nat) (u : Nat × Nat), S.uses[q]? = some u → UOk F tot S q u
 ms : ∀ (q d : Nat), S.means[q]? = some (some d) → d < S.decls.length ∧ declFn S d = F q
 ds : ∀ d, d < S.decls.length → declSlot S d < slotsOf S.funs (declFn S d)
 cp : ∀ (i : Nat), ∀ c ∈ capsOf S.funs i, (c.1 = 1 ∧ c.2 < slotsOf S.funs (F (nodeOf S i))) ∨ (c.1 = 0 ∧ c.2 < (capsOf S.funs (F (nodeOf S i))).length)
 fc : ∀ f ∈ S.frames, ∀ q ∈ f.caps, q.2 < (capsOf S.funs f.fn).length
section
variable {F : Nat → Nat} {tot : Nat} {S S' : MS}
theorem J.same (h : J F tot S) (hf : S'.frames = S.frames) (hfn : S'.funs = S.funs) (hu : S'.uses = S.uses) (hm : S'.means = S.means) (hd : S'.decls = S.decls) (hg : S'.globals = S.globals) : J F tot S' := by
 obtain ⟨pc, funs, uses, globals, frames, means, e, place, decls⟩ := S'
 simp only at hf hfn hu hm hd hg
 subst hf hfn hu hm hd hg
 exact ⟨h.ch, h.us, h.ms, h.ds, h.cp, h.fc⟩
theorem J.failIf (h : J F tot S) (b : Bool) (e : Nat) (p : Int) : J F tot (S.failIf b e p) := by
 obtain ⟨h1, h2, h3, h4, h5, h6, h7⟩ := failIf_rest S b e p
 exact h.same h4 h1 h2 h5 h6 h3
theorem onTop_get (g : Fr → Fr) : ∀ (fs : List Fr) (k : Nat), (onTop g fs)[k]? = if k = 0 then (fs[0]?).map g else fs[k]?
 | [], k => by cases k <;> rfl
 | f :: fs, 0 => rfl
 | f :: fs, k + 1 => rfl
theorem onTop_from {g : Fr → Fr} (hg : ∀ f, (g f).fn = f.fn ∧ (g f).caps = f.caps) {fs : List Fr} {k : Nat} {f : Fr} (h : (onTop g fs)[k]? = some f) : ∃ f0, fs[k]? = some f0 ∧ f.fn = f0.fn ∧ f.caps = f0.caps := by
 rw [onTop_get] at h
 split at h
 ·rename_i h0
  subst h0
  obtain ⟨f0, h1, rfl⟩ := Option.map_eq_some_iff.1 h
  exact ⟨f0, h1, (hg f0).1, (hg f0).2⟩
 ·exact ⟨f, h, rfl, rfl⟩
theorem J.top (h : J F tot S) (g : Fr → Fr) (hg : ∀ f, (g f).fn = f.fn ∧ (g f).caps = f.caps) : J F tot (S.top g) where
 ch := fun k f f' h1 h2 => by
  obtain ⟨f0, a1, a2, -⟩ := onTop_from hg h1
  obtain ⟨f0', b1, b2, -⟩ := onTop_from hg h2
  rw [a2, b2]; exact h.ch k f0 f0' a1 b1
 us := h.us
 ms := h.ms
 ds := h.ds
 cp := h.cp
 fc := fun f hf q hq => by
  obtain ⟨k, hk⟩ := List.getElem?_of_mem hf
  obtain ⟨f0, a1, a2, a3⟩ := onTop_from hg hk
  rw [a2]; rw [a3] at hq
  exact h.fc f0 (List.mem_of_getElem? a1) q hq
theorem slots_mod (fs : List Fn) (fn i : Nat) (hfn : fn < fs.length) : slotsOf (fs.modify fn fun f => { f with slots := f.slots + 1 }) i = slotsOf fs i + if fn = i then 1 else 0 := by
 unfold slotsOf
 rw [List.getElem?_modify]
 by_cases h : fn = i
 ·subst h; rw [List.getElem?_eq_getElem hfn]; simp
 ·simp only [if_neg h]; cases fs[i]? <;> rfl
theorem caps_mod (fs : List Fn) (fn i : Nat) : capsOf (fs.modify fn fun f => { f with slots := f.slots + 1 }) i = capsOf fs i := by
 unfold capsOf
 rw [List.getElem?_modify]
 by_cases h : fn = i
 ·subst h; simp only [if_true]; cases fs[fn]? <;> rfl
 ·simp only [if_neg h]; cases fs[i]? <;> rfl
theorem node_mod (S : MS) (fn i : Nat) (g : Fn → Fn) (hg : ∀ f, (g f).node = f.node) : nodeOf { S with funs := S.funs.modify fn g } i = nodeOf S i := by
 unfold nodeOf
 simp only [List.getElem?_modify]
 by_cases h : fn = i
 ·subst h; simp only [if_true]; cases S.funs[fn]? with | none => rfl | some x => exact hg x
 ·simp only [if_neg h]; cases S.funs[i]? <;> rfl
theorem slots_add (fs : List Fn) (fn i : Nat) (c : Nat × Nat) : slotsOf (fs.modify fn fun f => { f with caps := f.caps ++ [c] }) i = slotsOf fs i := by
 unfold slotsOf
 rw [List.getElem?_modify]
 by_cases h : fn = i
 ·subst h; simp only [if_true]; cases fs[fn]? <;> rfl
 ·simp only [if_neg h]; cases fs[i]? <;> rfl
theorem caps_add (fs : List Fn) (fn i : Nat) (c : Nat × Nat) (hfn : fn < fs.length) : capsOf (fs.modify fn fun f => { f with caps := f.caps ++ [c] }) i = if fn = i then capsOf fs i ++ [c] else capsOf fs i := by
 unfold capsOf
 rw [List.getElem?_modify]
 by_cases h : fn = i
 ·subst h; rw [List.getElem?_eq_getElem hfn]; simp
 ·simp only [if_neg h]; cases fs[i]? <;> rfl
theorem J.decl (h : J F tot S) {fn at_ : Nat} (hfn : fn < S.funs.length) (ha : F at_ = fn) : J F tot { S with decls := S.decls ++ [⟨fn, slotsOf S.funs fn, false⟩], funs := S.funs.modify fn fun f => { f with slots := f.slots + 1 }, means := S.means.set at_ (some S.decls.length) } := by
 have hold : ∀ d, d < S.decls.length → (S.decls ++ [(⟨fn, slotsOf S.funs fn, false⟩ : Dc)])[d]? = S.decls[d]? := fun d hd => List.getElem?_append_left hd
 have hnew : (S.decls ++ [(⟨fn, slotsOf S.funs fn, false⟩ : Dc)])[S.decls.length]? = some ⟨fn, slotsOf S.funs fn, false⟩ := by rw [List.getElem?_append_right (Nat.le_refl _), Nat.sub_self]; rfl
 refine ⟨fun k f f' h1 h2 => ?_, fun q u hu => ?_, fun q d hd => ?_, fun d hd => ?_, fun i c hc => ?_, fun f hf q hq => ?_⟩
 ·have := h.ch k f f' h1 h2
  rw [← this]; exact congrArg F (node_mod S fn _ _ fun f => rfl)
 ·have := h.us q u hu
  unfold UOk at this ⊢
  simp only [caps_mod]
  exact this
 ·simp only [List.getElem?_set] at hd
  simp only [List.length_append, List.length_singleton, declFn]
  split at hd
  ·split at hd
   ·cases hd
    rename_i h1 _
    rw [hnew, ← h1]
    exact ⟨Nat.lt_succ_self _, ha.symm⟩
   ·cases hd
  ·obtain ⟨h1, h2⟩ := h.ms q d hd
   rw [hold d h1]
   exact ⟨Nat.lt_succ_of_lt h1, h2⟩
 ·simp only [List.length_append, List.length_singleton] at hd
  simp only [declFn, declSlot]
  rcases Nat.lt_or_ge d S.decls.length with h1 | h1
  ·rw [hold d h1, slots_mod _ _ _ hfn]
   exact Nat.lt_of_lt_of_le (h.ds d h1) (Nat.le_add_right _ _)
  ·obtain rfl : d = S.decls.length := by omega
   rw [hnew]
   simp only
   rw [slots_mod _ _ _ hfn, if_pos rfl]; exact Nat.lt_succ_self _
 ·simp only [caps_mod] at hc
  have e1 : nodeOf ({ S with decls := S.decls ++ [⟨fn, slotsOf S.funs fn, false⟩], funs := S.funs.modify fn fun f => { f with slots := f.slots + 1 }, means := S.means.set at_ (some S.decls.length) } : MS) i = nodeOf S i := node_mod S fn i _ fun f => rfl
  rw [e1]
  simp only [caps_mod, slots_mod _ _ _ hfn]
  rcases h.cp i c hc with ⟨h1, h2⟩ | h1
  ·exact .inl ⟨h1, by omega⟩
  ·exact .inr h1
 ·simp only [caps_mod]; exact h.fc f hf q hq
theorem J.declare (h : J F tot S) {at_ : Nat} (hfn : S.topFn < S.funs.length) (ha : F at_ = S.topFn) (s : Bs) (pos : Int) : J F tot (S.declare s at_ pos) := by
 obtain ⟨a1, a2, a3, a4, a5, a6, a7⟩ := failIf_rest S (primI s).isSome 8 pos
 obtain ⟨b1, b2, b3, b4, b5, b6, b7⟩ := failIf_rest (S.failIf (primI s).isSome 8 pos) (look s (headSc S.topScopes)).isSome 80 pos
 obtain ⟨c1, c2, c3, c4, c5, c6, c7⟩ := failIf_rest ((S.failIf (primI s).isSome 8 pos).failIf (look s (headSc S.topScopes)).isSome 80 pos) (decide (slotsOf S.funs S.topFn = 256)) 3 pos
 refine (h.decl (at_ := at_) hfn ha).same ?_ ?_ ?_ ?_ ?_ ?_
 ·show (((S.failIf _ _ _).failIf _ _ _).failIf _ _ _).frames = S.frames
  rw [c4, b4, a4]
 ·show (((S.failIf _ _ _).failIf _ _ _).failIf _ _ _).funs.modify _ _ = S.funs.modify _ _
  rw [c1, b1, a1]
 ·show (((S.failIf _ _ _).failIf _ _ _).failIf _ _ _).uses = S.uses
  rw [c2, b2, a2]
 ·show (((S.failIf _ _ _).failIf _ _ _).failIf _ _ _).means.set _ _ = S.means.set _ _
  rw [c5, b5, a5]
 ·show (((S.failIf _ _ _).failIf _ _ _).failIf _ _ _).decls ++ _ = S.decls ++ _
  rw [c6, b6, a6]
 ·show (((S.failIf _ _ _).failIf _ _ _).failIf _ _ _).globals = S.globals
  rw [c3, b3, a3]
theorem J.glob (h : J F tot S) (s : Bs) (at_ : Nat) : J F tot { S with uses := S.uses.set at_ (4, S.globals.length), globals := S.globals ++ [s] } := by
 refine ⟨h.ch, fun q u hu => ?_, h.ms, h.ds, h.cp, h.fc⟩
 unfold UOk
 simp only [List.length_append, List.length_singleton]
 simp only [List.getElem?_set] at hu
 split at hu
 ·split at hu
  ·cases hu
   exact .inr (.inr (.inl ⟨rfl, .inr (Nat.lt_succ_self _)⟩))
  ·cases hu
 ·rcases h.us q u hu with h1 | h1 | ⟨h1, h2⟩ | h1
  ·exact .inl h1
  ·exact .inr (.inl h1)
  ·exact .inr (.inr (.inl ⟨h1, h2.imp id Nat.lt_succ_of_lt⟩))
  ·exact .inr (.inr (.inr h1))
theorem J.global (h : J F tot S) (g : List (Bs × Nat)) (s : Bs) (at_ : Nat) (pos : Int) : J F tot (MS.global g S s at_ pos) := by
 obtain ⟨a1, a2, a3, a4, a5, a6, a7⟩ := failIf_rest S (primI s).isSome 8 pos
 obtain ⟨b1, b2, b3, b4, b5, b6, b7⟩ := failIf_rest (S.failIf (primI s).isSome 8 pos) (globC g s at_) 80 pos
 obtain ⟨c1, c2, c3, c4, c5, c6, c7⟩ := failIf_rest ((S.failIf (primI s).isSome 8 pos).failIf (globC g s at_) 80 pos) (decide (S.globals.length = 1024)) 3 pos
 refine (h.glob s at_).same ?_ ?_ ?_ ?_ ?_ ?_
 ·show (((S.failIf _ _ _).failIf (globC g s at_) _ _).failIf _ _ _).frames = S.frames
  rw [c4, b4, a4]
 ·show (((S.failIf _ _ _).failIf (globC g s at_) _ _).failIf _ _ _).funs = S.funs
  rw [c1, b1, a1]
 ·show (((S.failIf _ _ _).failIf (globC g s at_) _ _).failIf _ _ _).uses.set _ _ = S.uses.set _ _
  rw [c2, b2, a2]
 ·show (((S.failIf _ _ _).failIf (globC g s at_) _ _).failIf _ _ _).means = S.means
  rw [c5, b5, a5]
 ·show (((S.failIf _ _ _).failIf (globC g s at_) _ _).failIf _ _ _).decls = S.decls
  rw [c6, b6, a6]
 ·show (((S.failIf _ _ _).failIf (globC g s at_) _ _).failIf _ _ _).globals ++ _ = S.globals ++ _
  rw [c3, b3, a3]
/-- a function more. -/
theorem J.opened (h : J F tot S) (hfr : ∀ f ∈ S.frames, f.fn < S.funs.length) (hne : S.frames ≠ []) {at_ : Nat} (ha : F at_ = S.topFn) (num : Int) : J F tot { S with funs := S.funs ++ [⟨at_, num, 0, []⟩], frames := ⟨S.funs.length, [], 0, []⟩ :: S.frames } := by
 have hold : ∀ i, i ≠ S.funs.length → (S.funs ++ [(⟨at_, num, 0, []⟩ : Fn)])[i]? = S.funs[i]? := fun i hi => by
  rcases Nat.lt_or_ge i S.funs.length with h1 | h1
  ·exact List.getElem?_append_left h1
  ·rw [List.getElem?_eq_none (by simp; omega), List.getElem?_eq_none (by omega)]
 have hnew : (S.funs ++ [(⟨at_, num, 0, []⟩ : Fn)])[S.funs.length]? = some ⟨at_, num, 0, []⟩ := by rw [List.getElem?_append_right (Nat.le_refl _), Nat.sub_self]; rfl
 have hsl : ∀ i, slotsOf (S.funs ++ [(⟨at_, num, 0, []⟩ : Fn)]) i = slotsOf S.funs i := fun i => by
  unfold slotsOf
  by_cases hi : i = S.funs.length
  ·subst hi; rw [hnew, List.getElem?_eq_none (Nat.le_refl _)]
  ·rw [hold i hi]
 have hcl : ∀ i, capsOf (S.funs ++ [(⟨at_, num, 0, []⟩ : Fn)]) i = capsOf S.funs i := fun i => by
  unfold capsOf
  by_cases hi : i = S.funs.length
  ·subst hi; rw [hnew, List.getElem?_eq_none (Nat.le_refl _)]
  ·rw [hold i hi]
 refine ⟨fun k f f' h1 h2 => ?_, fun q u hu => ?_, h.ms, fun d hd => ?_, fun i c hc => ?_, fun f hf q hq => ?_⟩
 ·cases k with
  | zero =>
   simp only [List.getElem?_cons_zero, Option.some.injEq] at h1
   subst h1
   have h2 : S.frames[0]? = some f' := h2
   have : nodeOf ({ S with funs := S.funs ++ [⟨at_, num, 0, []⟩], frames := ⟨S.funs.length, [], 0, []⟩ :: S.frames } : MS) S.funs.length = at_ := by
    unfold nodeOf; simp only; rw [hnew]
   simp only
   rw [this, ha]
   unfold MS.topFn
   cases hS : S.frames with
   | nil => exact absurd hS hne
   | cons f0 r => rw [hS] at h2; cases h2; rfl
  | succ k =>
   have h1 : S.frames[k]? = some f := h1
   have h2 : S.frames[k + 1]? = some f' := h2
   have hlt := hfr f (List.mem_of_getElem? h1)
   have : nodeOf ({ S with funs := S.funs ++ [⟨at_, num, 0, []⟩], frames := ⟨S.funs.length, [], 0, []⟩ :: S.frames } : MS) f.fn = nodeOf S f.fn := by
    unfold nodeOf; simp only; rw [hold _ (by omega)]
   rw [this]; exact h.ch k f f' h1 h2
 ·have := h.us q u hu
  unfold UOk at this ⊢
  simp only [hcl]
  exact this
 ·simp only [hsl]; exact h.ds d hd
 ·simp only [hcl] at hc
  have hlt : i < S.funs.length := by
   rcases Nat.lt_or_ge i S.funs.length with h1 | h1
   ·exact h1
   ·unfold capsOf at hc; rw [List.getElem?_eq_none h1] at hc; cases hc
  have : nodeOf ({ S with funs := S.funs ++ [⟨at_, num, 0, []⟩], frames := ⟨S.funs.length, [], 0, []⟩ :: S.frames } : MS) i = nodeOf S i := by
   unfold nodeOf; simp only; rw [hold _ (by omega)]
  rw [this]
  simp only [hcl, hsl]
  exact h.cp i c hc
 ·simp only [hcl]
  rcases List.mem_cons.1 hf with rfl | hf
  ·cases hq
  ·exact h.fc f hf q hq
theorem J.open_ (h : J F tot S) (hfr : ∀ f ∈ S.frames, f.fn < S.funs.length) (hne : S.frames ≠ []) {at_ : Nat} (ha : F at_ = S.topFn) (x : Nd) : J F tot (S.open_ at_ x) := by
 obtain ⟨a1, a2, a3, a4, a5, a6, a7⟩ := failIf_rest S (decide (S.funs.length = 1024)) 3 x.pos
 have h1 : J F tot { S with funs := S.funs ++ [⟨at_, x.num, 0, []⟩], frames := ⟨S.funs.length, [], 0, []⟩ :: S.frames } := h.opened hfr hne ha x.num
 have h2 : J F tot ({ (S.failIf (decide (S.funs.length = 1024)) 3 x.pos) with funs := (S.failIf (decide (S.funs.length = 1024)) 3 x.pos).funs ++ [⟨at_, x.num, 0, []⟩], frames := ⟨(S.failIf (decide (S.funs.length = 1024)) 3 x.pos).funs.length, [], 0, []⟩ :: (S.failIf (decide (S.funs.length = 1024)) 3 x.pos).frames } : MS) :=
  h1.same (by simp only; rw [a1, a4]) (by simp only; rw [a1]) a2 a5 a6 a3
 exact h2.top _ fun f => ⟨rfl, rfl⟩
theorem J.pop (h : J F tot S) : J F tot { S with frames := S.frames.tail } where
 ch := fun k f f' h1 h2 => h.ch (k + 1) f f' (by rw [← List.getElem?_tail]; exact h1) (by rw [← List.getElem?_tail]; exact h2)
 us := h.us
 ms := h.ms
 ds := h.ds
 cp := h.cp
 fc := fun f hf => h.fc f (List.mem_of_mem_tail hf)
end
end Go.Proofs.YtihokakelnfdgaaDoor

namespace Go.Proofs.YtihokakelnfdgaaDoor
open Go Go.Ev
set_option linter.unusedVariables false
set_option linter.unusedSimpArgs false
section
variable {F : Nat → Nat} {tot : Nat} {S : MS}
theorem mod_from {fs : List Fr} {k j : Nat} {g : Fr → Fr} {f : Fr} (hg : ∀ f, (g f).fn = f.fn) (h : (fs.modify k g)[j]? = some f) : ∃ f0, fs[j]? = some f0 ∧ f.fn = f0.fn ∧ ((j = k ∧ f = g f0) ∨ (j ≠ k ∧ f = f0)) := by
 rw [List.getElem?_modify] at h
 cases hj : fs[j]? with
 | none => rw [hj] at h; cases h
 | some f0 =>
  rw [hj] at h
  have h : (if k = j then g f0 else f0) = f := by simpa using h
  by_cases hk : k = j
  ·rw [if_pos hk] at h; exact ⟨f0, rfl, by rw [← h, hg], .inl ⟨hk.symm, h.symm⟩⟩
  ·rw [if_neg hk] at h; exact ⟨f0, rfl, by rw [← h], .inr ⟨fun e => hk e.symm, h.symm⟩⟩
theorem J.addcap (h : J F tot S) {k d n : Nat} {fr : Fr} (hk : S.frames[k]? = some fr) (hfn : fr.fn < S.funs.length) (hn : n = (capsOf S.funs fr.fn).length) {c : Nat × Nat} (hc : (c.1 = 1 ∧ c.2 < slotsOf S.funs (F (nodeOf S fr.fn))) ∨ (c.1 = 0 ∧ c.2 < (capsOf S.funs (F (nodeOf S fr.fn))).length)) :
  J F tot { S with frames := S.frames.modify k fun f => { f with caps := lay d n f.caps }, funs := S.funs.modify fr.fn fun f => { f with caps := f.caps ++ [c] } } := by
 have hnd : ∀ i, nodeOf ({ S with frames := S.frames.modify k fun f => { f with caps := lay d n f.caps }, funs := S.funs.modify fr.fn fun f => { f with caps := f.caps ++ [c] } } : MS) i = nodeOf S i := fun i => node_mod S fr.fn i (fun f => { f with caps := f.caps ++ [c] }) fun f => rfl
 have hge : ∀ i, (capsOf S.funs i).length ≤ (capsOf (S.funs.modify fr.fn fun f => { f with caps := f.caps ++ [c] }) i).length := fun i => by
  rw [caps_add _ _ _ _ hfn]
  split
  ·rw [List.length_append]; omega
  ·exact Nat.le_refl _
 refine ⟨fun j f f' h1 h2 => ?_, fun q u hu => ?_, h.ms, fun d hd => ?_, fun i x hx => ?_, fun f hf q hq => ?_⟩
 ·obtain ⟨f0, a1, a2, -⟩ := mod_from (g := fun f => { f with caps := lay d n f.caps }) (fun f => rfl) h1
  obtain ⟨f0', b1, b2, -⟩ := mod_from (g := fun f => { f with caps := lay d n f.caps }) (fun f => rfl) h2
  rw [hnd, a2, b2]; exact h.ch j f0 f0' a1 b1
 ·rcases h.us q u hu with h1 | ⟨h1, h2⟩ | h1 | h1
  ·exact .inl h1
  ·exact .inr (.inl ⟨h1, Nat.lt_of_lt_of_le h2 (hge _)⟩)
  ·exact .inr (.inr (.inl h1))
  ·exact .inr (.inr (.inr h1))
 ·simp only [slots_add]; exact h.ds d hd
 ·rw [hnd]
  simp only [slots_add]
  have old : ∀ y : Nat × Nat, ((y.1 = 1 ∧ y.2 < slotsOf S.funs (F (nodeOf S i))) ∨ (y.1 = 0 ∧ y.2 < (capsOf S.funs (F (nodeOf S i))).length)) → ((y.1 = 1 ∧ y.2 < slotsOf S.funs (F (nodeOf S i))) ∨ (y.1 = 0 ∧ y.2 < (capsOf (S.funs.modify fr.fn fun f => { f with caps := f.caps ++ [c] }) (F (nodeOf S i))).length)) :=
   fun y hy => hy.imp id fun ⟨h1, h2⟩ => ⟨h1, Nat.lt_of_lt_of_le h2 (hge _)⟩
  apply old
  simp only [caps_add _ _ _ _ hfn] at hx
  split at hx
  ·rename_i hi
   subst hi
   rcases List.mem_append.1 hx with hx | hx
   ·exact h.cp _ x hx
   ·obtain rfl := List.mem_singleton.1 hx
    exact hc
  ·exact h.cp i x hx
 ·obtain ⟨j, hj⟩ := List.getElem?_of_mem hf
  obtain ⟨f0, a1, a2, a3⟩ := mod_from (g := fun f => { f with caps := lay d n f.caps }) (fun f => rfl) hj
  rw [a2]
  rcases a3 with ⟨rfl, rfl⟩ | ⟨-, rfl⟩
  ·rw [hk] at a1; cases a1
   rcases lay_mem hq with rfl | hq
   ·simp only
    rw [caps_add _ _ _ _ hfn, if_pos rfl, List.length_append, hn]; exact Nat.lt_succ_self _
   ·exact Nat.lt_of_lt_of_le (h.fc fr (List.mem_of_getElem? hk) q hq) (hge _)
  ·exact Nat.lt_of_lt_of_le (h.fc f (List.mem_of_getElem? a1) q hq) (hge _)
theorem frFn_eq {k : Nat} {fr : Fr} (h : S.frames[k]? = some fr) : frFn S k = fr.fn := by unfold frFn; rw [h]
theorem take_end (h : J F tot S) {k d : Nat} {fr : Fr} (hk : S.frames[k]? = some fr) (hfn : fr.fn < S.funs.length) {c : Nat × Nat} (pos : Int) (hc : (c.1 = 1 ∧ c.2 < slotsOf S.funs (F (nodeOf S fr.fn))) ∨ (c.1 = 0 ∧ c.2 < (capsOf S.funs (F (nodeOf S fr.fn))).length)) :
  J F tot { S.failIf (decide ((capsOf S.funs fr.fn).length = 256)) 3 pos with
   frames := (S.failIf (decide ((capsOf S.funs fr.fn).length = 256)) 3 pos).frames.modify k fun f => { f with caps := lay d (capsOf S.funs fr.fn).length f.caps }
   funs := (S.failIf (decide ((capsOf S.funs fr.fn).length = 256)) 3 pos).funs.modify fr.fn fun f => { f with caps := f.caps ++ [c] } } ∧
  (capsOf S.funs fr.fn).length < (capsOf ((S.failIf (decide ((capsOf S.funs fr.fn).length = 256)) 3 pos).funs.modify fr.fn fun f => { f with caps := f.caps ++ [c] }) fr.fn).length := by
 have h1 := h.failIf (decide ((capsOf S.funs fr.fn).length = 256)) 3 pos
 obtain ⟨a1, a2, a3, a4, a5, a6, a7⟩ := failIf_rest S (decide ((capsOf S.funs fr.fn).length = 256)) 3 pos
 generalize S.failIf (decide ((capsOf S.funs fr.fn).length = 256)) 3 pos = S1 at h1 a1 a2 a3 a4 a5 a6 a7
 have hn : ∀ i, nodeOf S1 i = nodeOf S i := fun i => by unfold nodeOf; rw [a1]
 refine ⟨h1.addcap (by rw [a4]; exact hk) (by rw [a1]; exact hfn) (by rw [a1]) (by rw [hn, a1]; exact hc), ?_⟩
 rw [a1, caps_add _ _ _ _ hfn, if_pos rfl, List.length_append]; exact Nat.lt_succ_self _
theorem take_j : ∀ (f : Nat) (S : MS) (d k out : Nat) (pos : Int), J F tot S → (∀ fr ∈ S.frames, fr.fn < S.funs.length) → d < S.decls.length → k < out → out < S.frames.length → frFn S out = declFn S d → out - k ≤ f →
  J F tot (MS.take f S d k pos).1 ∧ (MS.take f S d k pos).2 < (capsOf (MS.take f S d k pos).1.funs (frFn S k)).length
 | 0, S, d, k, out, pos, h, hfr, hd, hk, ho, he, hf => by omega
 | f + 1, S, d, k, out, pos, h, hfr, hd, hk, ho, he, hf => by
  obtain ⟨fr, hfr1⟩ : ∃ fr, S.frames[k]? = some fr := ⟨_, List.getElem?_eq_getElem (by omega)⟩
  obtain ⟨fr', hfr2⟩ : ∃ fr', S.frames[k + 1]? = some fr' := ⟨_, List.getElem?_eq_getElem (by omega)⟩
  have e1 := frFn_eq hfr1
  have e2 := frFn_eq hfr2
  have hlt := hfr fr (List.mem_of_getElem? hfr1)
  rw [MS.take]
  cases ht : taken S d k with
  | some i =>
   simp only
   refine ⟨h, ?_⟩
   unfold taken at ht; rw [hfr1] at ht
   rw [e1]; exact h.fc fr (List.mem_of_getElem? hfr1) _ (lookB_mem ht)
  | none =>
   simp only
   by_cases hh : frFn S (k + 1) ≠ declFn S d
   ·simp only [if_pos hh]
    have hko : k + 1 < out := by
     rcases Nat.lt_or_ge (k + 1) out with h1 | h1
     ·exact h1
     ·obtain rfl : out = k + 1 := by omega
      exact absurd he hh
    obtain ⟨i1, i2⟩ := take_j f S d (k + 1) out pos h hfr hd hko ho he (by omega)
    have tk := take_tk f S d (k + 1) pos
    generalize MS.take f S d (k + 1) pos = r at i1 i2 tk
    obtain ⟨g, hg⟩ : ∃ g, r.1.frames[k]? = some g := ⟨_, List.getElem?_eq_getElem (by rw [tk.nfr]; omega)⟩
    obtain ⟨g', hg'⟩ : ∃ g', r.1.frames[k + 1]? = some g' := ⟨_, List.getElem?_eq_getElem (by rw [tk.nfr]; omega)⟩
    obtain ⟨g0, c1, c2, -⟩ := tk.frames k g hg
    obtain ⟨g0', d1, d2, -⟩ := tk.frames (k + 1) g' hg'
    rw [hfr1] at c1; cases c1
    rw [hfr2] at d1; cases d1
    rw [e1, ← c2]
    refine take_end i1 (d := d) (c := (0, r.2)) hg (by rw [c2, tk.nf]; exact hlt) pos (.inr ⟨rfl, ?_⟩)
    rw [i1.ch k g g' hg hg', d2, ← e2]
    exact i2
   ·simp only [if_neg hh]
    rw [e1]
    refine take_end h (d := d) (c := (1, declSlot S d)) hfr1 hlt pos (.inl ⟨rfl, ?_⟩)
    rw [h.ch k fr fr' hfr1 hfr2, ← e2, Decidable.not_not.1 hh]
    exact h.ds d hd
theorem idx_lt : ∀ {l : List Bs} {s : Bs} {i : Nat}, idx s l = some i → i < l.length
 | t :: l, s, i, h => by
  rw [idx] at h
  split at h
  ·cases h; exact Nat.succ_pos _
  ·obtain ⟨j, h1, rfl⟩ := Option.map_eq_some_iff.1 h
   exact Nat.succ_lt_succ (idx_lt h1)
theorem J.mean (h : J F tot S) (p : Nat) {o : Option Nat} (ho : ∀ d, o = some d → d < S.decls.length ∧ declFn S d = F p) : J F tot { S with means := S.means.set p o } :=
 ⟨h.ch, h.us, fun q d hd => by
  simp only [List.getElem?_set] at hd
  split at hd
  ·rename_i hq
   split at hd
   ·have := ho d (by simpa using hd)
    rw [← hq]; exact this
   ·cases hd
  ·exact h.ms q d hd, h.ds, h.cp, h.fc⟩
theorem J.use (h : J F tot S) (p : Nat) {u : Nat × Nat} (hu : UOk F tot S p u) : J F tot { S with uses := S.uses.set p u } :=
 ⟨h.ch, fun q v hv => by
  simp only [List.getElem?_set] at hv
  split at hv
  ·rename_i hq
   split at hv
   ·cases hv; rw [← hq]; exact hu
   ·cases hv
  ·exact h.us q v hv, h.ms, h.ds, h.cp, h.fc⟩
theorem declSlot_cap (S : MS) (ms : List (Option Nat)) (d q : Nat) : declSlot { S with means := ms, decls := S.decls.modify d fun c => { c with cap := true } } q = declSlot S q := by
 unfold declSlot
 simp only [List.getElem?_modify]
 by_cases h : d = q
 ·subst h; simp only [if_true]; cases S.decls[d]? <;> rfl
 ·simp only [if_neg h]; cases S.decls[q]? <;> rfl
theorem J.cap (h : J F tot S) (d : Nat) : J F tot { S with decls := S.decls.modify d fun c => { c with cap := true } } :=
 ⟨h.ch, h.us, fun q x hx => by
  have e : declFn ({ S with decls := S.decls.modify d fun c => { c with cap := true } } : MS) x = declFn S x := declFn_cap S S.means d x
  rw [e]
  simp only [List.length_modify]
  exact h.ms q x hx, fun x hx => by
  have e : declFn ({ S with decls := S.decls.modify d fun c => { c with cap := true } } : MS) x = declFn S x := declFn_cap S S.means d x
  have e' : declSlot ({ S with decls := S.decls.modify d fun c => { c with cap := true } } : MS) x = declSlot S x := declSlot_cap S S.means d x
  rw [e, e']
  simp only [List.length_modify] at hx
  exact h.ds x hx, h.cp, h.fc⟩
/-- a name. -/
theorem J.name {l : List Nd} {b : Nat} (h : J F tot S) (hI : Inv l b S) {g : List (Bs × Nat)} (hg : ∀ s at_, look s g = some at_ → globalNo l at_ < tot) (set : Bool) (hp : S.pc < l.length) (ha : S.topFn = F S.pc) : J F tot (MS.name l g set S) := by
 rw [MS.name_find g set (List.getElem?_eq_getElem hp)]
 generalize l[S.pc] = x
 simp only
 have i1 : Inv l b (({ S with pc := S.pc + 1 } : MS).failIf ((primI x.text).isSome && set) 8 x.pos) := (hI.go (p := S.pc + 1) (Nat.le_succ _) hp).failIf _ _ _
 have h1 : J F tot (({ S with pc := S.pc + 1 } : MS).failIf ((primI x.text).isSome && set) 8 x.pos) := J.failIf (h.same (S' := { S with pc := S.pc + 1 }) rfl rfl rfl rfl rfl rfl) _ _ _
 have hfr : (({ S with pc := S.pc + 1 } : MS).failIf ((primI x.text).isSome && set) 8 x.pos).frames = S.frames := (failIf_rest ({ S with pc := S.pc + 1 } : MS) _ _ _).2.2.2.1
 generalize ({ S with pc := S.pc + 1 } : MS).failIf ((primI x.text).isSome && set) 8 x.pos = S1 at i1 h1 hfr
 have htop : ∀ f0 : Fr, S1.frames[0]? = some f0 → f0.fn = F S.pc := fun f0 hf0 => by
  rw [← ha]
  rw [hfr] at hf0
  unfold MS.topFn
  cases hS : S.frames with
  | nil => rw [hS] at hf0; cases hf0
  | cons f r => rw [hS] at hf0; cases hf0; rfl
 cases hf : findFr x.text S1.frames with
 | some q =>
  obtain ⟨d, out⟩ := q
  obtain ⟨f0, a1, a2, a3, a4⟩ := i1.found hf
  cases out with
  | zero =>
   exact h1.mean S.pc fun d' hd => by cases hd; exact ⟨a3, a4.trans (htop f0 a1)⟩
  | succ out =>
   simp only
   have h2 : J F tot ({ S1 with means := (S1.means.set S.pc (some d)).set S.pc none, decls := S1.decls.modify d fun c => { c with cap := true } } : MS) := by
    have q1 : J F tot { S1 with means := S1.means.set S.pc none } := h1.mean S.pc fun d' hd => by cases hd
    rw [List.set_set]
    exact q1.cap d
   have e : declFn ({ S1 with means := (S1.means.set S.pc (some d)).set S.pc none, decls := S1.decls.modify d fun c => { c with cap := true } } : MS) d = declFn S1 d := declFn_cap S1 _ d d
   generalize hS2 : ({ S1 with means := (S1.means.set S.pc (some d)).set S.pc none, decls := S1.decls.modify d fun c => { c with cap := true } } : MS) = S2 at h2 e
   have f2 : S2.frames = S1.frames := by rw [← hS2]
   have n2 : S2.funs = S1.funs := by rw [← hS2]
   have d2 : S2.decls.length = S1.decls.length := by rw [← hS2]; simp
   obtain ⟨j1, j2⟩ := take_j (S1.frames.length + 1) S2 d 0 (out + 1) x.pos h2 (by rw [f2, n2]; exact fun f hf => (i1.fr f hf).1) (by rw [d2]; exact a3) (Nat.succ_pos _) (by rw [f2]; exact a2) (by rw [e, a4]; unfold frFn; rw [f2, a1]) (by omega)
   have e0 : frFn S2 0 = F S.pc := by
    obtain ⟨g0, hg0⟩ : ∃ g0, S1.frames[0]? = some g0 := ⟨_, List.getElem?_eq_getElem (by omega)⟩
    unfold frFn
    rw [f2, hg0]; exact htop g0 hg0
   rw [e0] at j2
   exact j1.use S.pc (.inr (.inl ⟨rfl, j2⟩))
 | none =>
  simp only
  cases hlk : look x.text g with
  | some at_ => exact h1.use S.pc (.inr (.inr (.inl ⟨rfl, .inl (hg _ _ hlk)⟩)))
  | none =>
   simp only
   refine (h1.failIf (primI x.text).isNone 4 x.pos).use S.pc (.inr (.inr (.inr ⟨rfl, ?_⟩)))
   cases hpr : primI x.text with
   | none => exact Nat.succ_pos _
   | some i => exact idx_lt hpr
end
end Go.Proofs.YtihokakelnfdgaaDoor

namespace Go.Proofs.YtihokakelnfdgaaDoor
open Go Go.Ev
set_option linter.unusedVariables false
set_option linter.unusedSimpArgs false

/-- the functions that nodes belong to. -/
structure Kd (l : List Nd) (F : Nat → Nat) : Prop where
 zero : F 0 = 0
 kid : ∀ p (hp : p < l.length), ∀ q ∈ kidsP l l[p].n.toNat (p + 1), F q = if isFnAt l p then (fnL l 0 p).length + 1 else F p
def NodeJ (l : List Nd) (F : Nat → Nat) (tot : Nat) (nd : MS → MS) (f : Nat) : Prop := ∀ (S : MS) (b k : Nat), Inv l b S → D (l.drop S.pc) 1 = some k → k ≤ f → J F tot S → S.topFn = F S.pc → (S.e = 0 → fnK S = (0, 0) :: fnL l 0 S.pc) → (nd S).e = 0 → J F tot (nd S)
section
variable {l : List Nd} {F : Nat → Nat} {tot : Nat} {nd : MS → MS} {f b k : Nat} {S : MS}
theorem Inv.topLt (h : Inv l b S) : S.topFn < S.funs.length := by
 unfold MS.topFn
 cases hS : S.frames with
 | nil => exact absurd hS h.ne
 | cons f0 r => exact (h.headB hS).1
theorem topFn_top (S : MS) (g : Fr → Fr) (hg : ∀ f, (g f).fn = f.fn) : (S.top g).topFn = S.topFn := by
 unfold MS.topFn MS.top
 cases S.frames with
 | nil => rfl
 | cons f r => exact hg f
theorem Wk.back {p k : Nat} {fs : List (Nat × Int)} {S S' : MS} (h : Wk p k fs S S') (he : S'.e = 0) : S.e = 0 := Decidable.byContradiction fun hh => h.e hh he
theorem Wk.ct {p k a c : Nat} {S S' : MS} (h : Wk p k (fnL l a c) S S') (hc : S.e = 0 → fnK S = (0, 0) :: fnL l 0 a) : S'.e = 0 → fnK S' = (0, 0) :: fnL l 0 (a + c) := fun he => by
 rw [h.f he, hc (h.back he), fnL_add, Nat.zero_add]; rfl
theorem Wk.ct0 {p k a : Nat} {S S' : MS} (h : Wk p k [] S S') (hc : S.e = 0 → fnK S = (0, 0) :: fnL l 0 a) : S'.e = 0 → fnK S' = (0, 0) :: fnL l 0 a := fun he => by
 rw [h.f he, hc (h.back he), List.append_nil]
theorem times_j (hN : NodeI l nd f) (hW : NodeW l nd f) (hJ : NodeJ l F tot nd f) : ∀ (n : Nat) (S : MS) (b k : Nat), Inv l b S → D (l.drop S.pc) n = some k → k ≤ f → J F tot S → (∀ q ∈ kidsP l n S.pc, F q = S.topFn) → (S.e = 0 → fnK S = (0, 0) :: fnL l 0 S.pc) → (times nd n S).e = 0 → J F tot (times nd n S)
 | 0, S, b, k, h, hD, hk, j, hq, hc, he => j
 | n + 1, S, b, k, h, hD, hk, j, hq, hc, he => by
  obtain ⟨k1, k2, e1, e2, e3, e4, e5, e6⟩ := D_next hD
  obtain ⟨i1, i2, i3⟩ := hN S b k1 h e1 (by omega)
  have w1 := hW S b k1 h e1 (by omega)
  have w2 := times_wk hN hW n (nd S) (b + 2 * k1) k2 i1 (by rw [i3]; exact e2) (by omega)
  rw [times] at he ⊢
  have j1 := hJ S b k1 h e1 (by omega) j (hq _ (by rw [kidsP]; exact List.mem_cons_self)).symm hc (w2.back he)
  exact times_j hN hW hJ n (nd S) _ k2 i1 (by rw [i3]; exact e2) (by omega) j1 (fun q hqm => by
   rw [(topFn_frK i2.fr).1]
   exact hq q (by rw [kidsP, e1, Option.getD_some]; rw [i3] at hqm; exact List.mem_cons_of_mem _ hqm)) (by rw [i3]; exact w1.ct hc) he
theorem params_j (hl : ∀ x ∈ l, okR x = true) : ∀ (n : Nat) (S : MS) (b : Nat), Inv l b S → S.pc + n ≤ l.length → J F tot S → (∀ i, i < n → F (S.pc + i) = S.topFn) → J F tot (MS.params l n S)
 | 0, S, b, h, hp, j, hq => j
 | n + 1, S, b, h, hp, j, hq => by
  have hlt : S.pc < l.length := by omega
  rw [MS.params, List.getElem?_eq_getElem hlt]
  simp only
  obtain ⟨i1, i2, i3, i4, i5, i6⟩ := h.declare l[S.pc].text S.pc l[S.pc].pos
  obtain ⟨j1, j2, j3⟩ := i1.bind l[S.pc].text (d := S.decls.length) i5 (by rw [i6]; exact (topFn_frK i2.fr).1.symm)
  have q1 := j1.go (p := ((S.declare l[S.pc].text S.pc l[S.pc].pos).bind l[S.pc].text S.decls.length).pc + 1) (Nat.le_succ _) (by rw [j3, i3]; omega)
  have a1 := j.declare (at_ := S.pc) h.topLt (by have := hq 0 (by omega); rwa [Nat.add_zero] at this) l[S.pc].text l[S.pc].pos
  have a2 := a1.top (fun f => { f with scopes := layTop l[S.pc].text S.decls.length f.scopes }) fun f => ⟨rfl, rfl⟩
  have htop : ((S.declare l[S.pc].text S.pc l[S.pc].pos).bind l[S.pc].text S.decls.length).topFn = S.topFn := (topFn_frK (j2.fr.trans i2.fr)).1
  refine params_j hl n _ (b + 1) q1 (by simp only [j3, i3]; omega) (a2.same rfl rfl rfl rfl rfl rfl) fun i hi => ?_
  show F (((S.declare l[S.pc].text S.pc l[S.pc].pos).bind l[S.pc].text S.decls.length).pc + 1 + i) = ((S.declare l[S.pc].text S.pc l[S.pc].pos).bind l[S.pc].text S.decls.length).topFn
  rw [j3, i3, htop, show S.pc + 1 + i = S.pc + (i + 1) by omega]
  exact hq _ (by omega)
theorem kids_names : ∀ (n q : Nat), (∀ i, i < n → D (l.drop (q + i)) 1 = some 1) → ∀ i, i ≤ n → q + i ∈ kidsP l (n + 1) q
 | n, q, h, 0, hi => by rw [kidsP]; exact List.mem_cons_self
 | n + 1, q, h, i + 1, hi => by
  have h0 := h 0 (by omega)
  rw [Nat.add_zero] at h0
  rw [kidsP, h0, Option.getD_some]
  refine List.mem_cons_of_mem _ ?_
  have := kids_names n (q + 1) (fun j hj => by rw [show q + 1 + j = q + (j + 1) by omega]; exact h _ (by omega)) i (by omega)
  rwa [show q + 1 + i = q + (i + 1) by omega] at this
theorem function_j (P : Prg l) (K : Kd l F) (hN : NodeI l nd f) (hW : NodeW l nd f) (hJ : NodeJ l F tot nd f) {p : Nat} (hp : p < l.length) (hk : l[p].kind = 12 ∨ l[p].kind = 31) (h : Inv l b S) (hpc : S.pc = p + 1) (hfr : S.frames.length + 1 ≤ S.pc) (hD : D (l.drop (p + 1)) l[p].n.toNat = some k) (hkf : k ≤ f)
  (j : J F tot S) (ht : S.topFn = F p) (hc : S.e = 0 → fnK S = (0, 0) :: fnL l 0 p) (he : (S.function l nd p l[p]).e = 0) : J F tot (S.function l nd p l[p]) := by
 obtain ⟨c1, c2, c3⟩ := cntF (P.ok _ (List.getElem_mem hp)) hk
 obtain ⟨num, hnum⟩ : ∃ n : Nat, l[p].num = n := ⟨l[p].num.toNat, by omega⟩
 have hpar := P.params hp hk
 have hpar' : ∀ i : Nat, i < num → ∃ hq : p + 1 + i < l.length, l[p + 1 + i].kind = 19 := fun i hi => hpar i (by omega)
 have hnD := names_D P.ok num (p + 1) hpar'
 have hkid := K.kid p hp
 have hisf : isFnAt l p = true := by unfold isFnAt; rw [List.getElem?_eq_getElem hp]; exact decide_eq_true hk
 rw [hisf, if_pos rfl, show l[p].n.toNat = num + 1 by omega] at hkid
 have hmem := kids_names num (p + 1) fun i hi => by
  obtain ⟨hq, hq2⟩ := hpar' i hi
  exact name_width hq (P.ok _ (List.getElem_mem hq)) hq2
 rw [show l[p].n.toNat = num + 1 by omega] at hD
 obtain ⟨k1, k2, e1, e2, e3⟩ := D_add _ _ _ _ hD
 rw [hnD] at e1; cases e1
 rw [List.drop_drop] at e2
 have hle := D_le _ _ _ e2
 rw [List.length_drop] at hle
 obtain ⟨i1, i2, i3, i4, i5, i6⟩ := h.open_ hfr p l[p]
 obtain ⟨j1, j2, j3⟩ := params_inv P.ok num (S.open_ p l[p]) (b + 1) i1 (by rw [i6, hpc]; omega)
 have w1 := Wk.open_ S p l[p]
 have w2 := params_wk P.ok num (S.open_ p l[p]) (b + 1) i1 (by rw [i6, hpc]; omega)
 have w3 := hW (MS.params l num (S.open_ p l[p])) (b + 1 + num) k2 j1 (by rw [j3, i6, hpc]; exact e2) (by omega)
 unfold MS.function at he ⊢
 rw [show l[p].num.toNat = num by omega] at he ⊢
 simp only at he ⊢
 have he3 : (nd (MS.params l num (S.open_ p l[p]))).e = 0 := he
 have he2 := w3.back he3
 have he1 := w2.back he2
 have he0 := w1.back he1
 have hlen : S.funs.length = (fnL l 0 p).length + 1 := by
  have := congrArg List.length (hc he0)
  unfold fnK at this
  rw [List.length_map, List.length_cons] at this
  exact this
 have ht1 : (S.open_ p l[p]).topFn = (fnL l 0 p).length + 1 := by
  rw [← hlen]
  cases hS : (S.open_ p l[p]).frames with
  | nil => exact absurd hS i1.ne
  | cons f0 r =>
   unfold frK at i2
   rw [hS, List.map_cons] at i2
   unfold MS.topFn
   rw [hS]
   exact congrArg Prod.fst (List.cons.inj i2).1
 have a1 := j.open_ (fun f hf => (h.fr f hf).1) h.ne ht.symm l[p]
 have a2 : J F tot (MS.params l num (S.open_ p l[p])) := params_j P.ok num _ (b + 1) i1 (by rw [i6, hpc]; omega) a1 fun i hi => by
  rw [i6, hpc, ht1]; exact hkid _ (hmem i (by omega))
 have a3 := hJ _ _ k2 j1 (by rw [j3, i6, hpc]; exact e2) (by omega) a2 (by
  rw [(topFn_frK j2.fr).1, ht1, j3, i6, hpc]; exact (hkid _ (hmem num (Nat.le_refl _))).symm) (by
  intro _
  rw [w2.f he2, w1.f he1, hc he0, j3, i6, hpc, List.append_nil, fnL_add, fnL_add, Nat.zero_add, Nat.zero_add, fnL_one hp, if_pos hk, names_fnL num (p + 1) hpar', List.append_nil]; rfl) he3
 exact (a3.top (fun f => { f with scopes := f.scopes.tail }) fun f => ⟨rfl, rfl⟩).pop
end
end Go.Proofs.YtihokakelnfdgaaDoor

namespace Go.Proofs.YtihokakelnfdgaaDoor
open Go Go.Ev
set_option linter.unusedVariables false
set_option linter.unusedSimpArgs false
section
variable {l : List Nd} {F : Nat → Nat} {tot : Nat} {nd : MS → MS} {f b k : Nat} {S : MS}
theorem step_j (P : Prg l) (K : Kd l F) (hl : l.length ≤ 400) {g : List (Bs × Nat)} (hg : ∀ s at_, look s g = some at_ → globalNo l at_ < tot) (hN : NodeI l nd f) (hW : NodeW l nd f) (hJ : NodeJ l F tot nd f) {p : Nat} (hp : p < l.length) (h : Inv l b S) (hpc : S.pc = p + 1) (hfr : S.frames.length + 1 ≤ S.pc) (hD : D (l.drop (p + 1)) l[p].n.toNat = some k) (hkf : k ≤ f)
  (j : J F tot S) (ht : S.topFn = F p) (hc : S.e = 0 → fnK S = (0, 0) :: fnL l 0 p) (he : (MS.step l g nd p l[p] S).e = 0) : J F tot (MS.step l g nd p l[p] S) := by
 have hok := P.ok _ (List.getElem_mem hp)
 have hokl := P.ok
 have hkid := K.kid p hp
 have hisf : isFnAt l p = decide (l[p].kind = 12 ∨ l[p].kind = 31) := by unfold isFnAt; rw [List.getElem?_eq_getElem hp]
 rw [hisf] at hkid
 have hf1 : ¬ (l[p].kind = 12 ∨ l[p].kind = 31) → (S.e = 0 → fnK S = (0, 0) :: fnL l 0 (p + 1)) := fun hn he => by
  rw [hc he, fnL_add, Nat.zero_add, fnL_one hp, if_neg hn, List.append_nil]
 have hfun := fun (S1 : MS) (b : Nat) (hk : l[p].kind = 12 ∨ l[p].kind = 31) (h1 : Inv l b S1) (h2 : S1.pc = p + 1) (h3 : S1.frames.length + 1 ≤ S1.pc) => function_j (S := S1) (b := b) P K hN hW hJ hp hk h1 h2 h3 hD hkf
 generalize hx : l[p] = x at hD hok hkid hfun hf1 he
 rw [← hpc] at hD hkid
 rw [← hpc] at hf1
 unfold MS.step at he ⊢
 by_cases h2 : x.kind = 2
 ·rw [if_pos h2] at he ⊢
  rw [decide_eq_false (by omega)] at hkid
  have a := times_j hN hW hJ x.n.toNat S.enter (b + 1) k h.enter hD hkf (j.top (fun f => { f with scopes := [] :: f.scopes }) fun f => ⟨rfl, rfl⟩) (fun q hq => by rw [hkid q hq, if_neg (by simp), ← ht]; exact (topFn_top S (fun f => { f with scopes := [] :: f.scopes }) fun f => rfl).symm) (hf1 (by omega)) he
  exact a.top (fun f => { f with scopes := f.scopes.tail }) fun f => ⟨rfl, rfl⟩
 rw [if_neg h2] at he ⊢
 by_cases h3 : x.kind = 3
 ·rw [if_pos h3] at he ⊢
  rw [decide_eq_false (by omega), cnt1 hok h3] at hkid
  rw [cnt1 hok h3] at hD
  have hk0 : F S.pc = F p := by
   rw [hkid S.pc (by show S.pc ∈ kidsP l 1 S.pc; rw [kidsP]; exact List.mem_cons_self), if_neg (by simp)]
  unfold MS.variable at he ⊢
  by_cases htp : isTop S = true
  ·rw [if_pos htp] at he ⊢
   obtain ⟨i1, i2, i3⟩ := h.global g x.text p x.pos
   exact hJ _ _ k i1 (by rw [i3]; exact hD) hkf (j.global g x.text p x.pos) (by rw [(topFn_frK i2.fr).1, i3, ht, hk0]) (by rw [i3]; exact (Wk.global g S x.text p x.pos).ct0 (hf1 (by omega))) he
  ·rw [if_neg htp] at he ⊢
   obtain ⟨i1, i2, i3, i4, i5, i6⟩ := h.declare x.text p x.pos
   have a := hJ _ _ k i1 (by rw [i3]; exact hD) hkf (j.declare h.topLt ht.symm x.text x.pos) (by rw [(topFn_frK i2.fr).1, i3, ht, hk0]) (by rw [i3]; exact (Wk.declare S x.text p x.pos).ct0 (hf1 (by omega))) he
   exact a.top (fun f => { f with scopes := layTop x.text S.decls.length f.scopes }) fun f => ⟨rfl, rfl⟩
 rw [if_neg h3] at he ⊢
 by_cases h12 : x.kind = 12
 ·rw [if_pos h12] at he ⊢
  by_cases htp : isTop S = true
  ·rw [if_pos htp] at he ⊢
   obtain ⟨i1, i2, i3⟩ := h.global g x.text p x.pos
   have hlen : (MS.global g S x.text p x.pos).frames.length = S.frames.length := by rw [← frK_len, i2.fr, frK_len]
   exact hfun _ _ (.inl h12) i1 (i3.trans hpc) (by rw [hlen, i3]; exact hfr) (j.global g x.text p x.pos) (by rw [(topFn_frK i2.fr).1, ht]) ((Wk.global g S x.text p x.pos).ct0 hc) he
  ·rw [if_neg htp] at he ⊢
   obtain ⟨i1, i2, i3, i4, i5, i6⟩ := h.declare x.text p x.pos
   obtain ⟨j1, j2, j3⟩ := i1.bind x.text (d := S.decls.length) i5 (by rw [i6]; exact (topFn_frK i2.fr).1.symm)
   have hlen : ((S.declare x.text p x.pos).bind x.text S.decls.length).frames.length = S.frames.length := by rw [← frK_len, j2.fr, i2.fr, frK_len]
   exact hfun _ _ (.inl h12) j1 (j3.trans (i3.trans hpc)) (by rw [hlen, j3, i3]; exact hfr) ((j.declare h.topLt ht.symm x.text x.pos).top (fun f => { f with scopes := layTop x.text S.decls.length f.scopes }) fun f => ⟨rfl, rfl⟩) (by rw [(topFn_frK (j2.fr.trans i2.fr)).1, ht]) (((Wk.declare S x.text p x.pos).trans (Wk.top _ _)).ct0 hc) he
 rw [if_neg h12] at he ⊢
 by_cases h31 : x.kind = 31
 ·rw [if_pos h31] at he ⊢
  exact hfun _ _ (.inr h31) h hpc hfr j ht hc he
 rw [if_neg h31] at he ⊢
 rw [decide_eq_false (by omega)] at hkid
 have hkid : ∀ q ∈ kidsP l x.n.toNat S.pc, F q = S.topFn := fun q hq => by rw [hkid q hq, if_neg (by simp), ht]
 have hf1 := hf1 (by omega)
 by_cases h4 : x.kind = 4
 ·rw [if_pos h4] at he ⊢
  rw [cnt2 hok (.inl h4)] at hD hkid
  have hD2 : D (l.drop S.pc) 2 = some k := hD
  have hkid : ∀ q ∈ kidsP l 2 S.pc, F q = S.topFn := hkid
  obtain ⟨k1, k2, e1, e2, e3, e4, e5, e6⟩ := D_next hD2
  rw [List.getElem?_eq_getElem e5] at he ⊢
  simp only at he ⊢
  by_cases hy : l[S.pc].kind = 19
  ·rw [if_pos hy] at he ⊢
   have hw := name_width e5 (hokl _ (List.getElem_mem e5)) hy
   have e1' := e1
   rw [hw] at e1; cases e1
   obtain ⟨i1, i2, i3⟩ := h.name hl g true e5
   have n := Wk.name g true S e5
   have w := hW _ _ k2 i1 (by rw [i3]; exact e2) (by omega)
   exact hJ _ _ k2 i1 (by rw [i3]; exact e2) (by omega) (j.name h hg true e5 (hkid _ (by rw [kidsP]; exact List.mem_cons_self)).symm) (by rw [(topFn_frK i2.fr).1, i3]; exact (hkid _ (by rw [kidsP, e1']; simp [kidsP])).symm) (by
    rw [i3]
    have n' : Wk S.pc 1 (fnL l S.pc 1) S (MS.name l g true S) := n.cast (by rw [fnL_one e5, if_neg (by omega)])
    exact n'.ct hf1) he
  ·rw [if_neg hy] at he ⊢
   exact times_j hN hW hJ 2 S b k h hD2 hkf j hkid hf1 he
 rw [if_neg h4] at he ⊢
 by_cases h11 : x.kind = 11
 ·rw [if_pos h11] at he ⊢
  rw [cnt2 hok (.inr (.inr h11))] at hD hkid
  have hD2 : D (l.drop S.pc) 2 = some k := hD
  have hkid : ∀ q ∈ kidsP l 2 S.pc, F q = S.topFn := hkid
  obtain ⟨k1, k2, e1, e2, e3, e4, e5, e6⟩ := D_next hD2
  unfold MS.try_ at he ⊢
  have htE : S.enter.topFn = S.topFn := topFn_top S (fun f => { f with scopes := [] :: f.scopes }) fun f => rfl
  have jE : J F tot S.enter := j.top (fun f => { f with scopes := [] :: f.scopes }) fun f => ⟨rfl, rfl⟩
  obtain ⟨i1, i2, i3, i4, i5, i6⟩ := h.enter.declare x.text p x.pos
  obtain ⟨r1, r2, r3⟩ := hN _ _ k1 i1 (by rw [i3]; exact e1) (by omega)
  have hd := r2.declFn i5
  obtain ⟨j1, j2, j3⟩ := r1.bind x.text (d := S.enter.decls.length) hd.2 (by rw [hd.1, i6]; exact (topFn_frK (i2.trans r2).fr).1.symm)
  have w1 := hW _ _ k1 i1 (by rw [i3]; exact e1) (by omega)
  have w2 := hW _ _ k2 j1 (by rw [j3, r3, i3]; exact e2) (by omega)
  have he2 : (nd ((nd (S.enter.declare x.text p x.pos)).bind x.text S.enter.decls.length)).e = 0 := he
  have he1 : (nd (S.enter.declare x.text p x.pos)).e = 0 := w2.back he2
  have hct1 : (S.enter.declare x.text p x.pos).e = 0 → fnK (S.enter.declare x.text p x.pos) = (0, 0) :: fnL l 0 (S.enter.declare x.text p x.pos).pc := by
   rw [i3]; exact (Wk.declare S.enter x.text p x.pos).ct0 hf1
  have a1 := hJ _ _ k1 i1 (by rw [i3]; exact e1) (by omega) (jE.declare h.enter.topLt (htE.trans ht).symm x.text x.pos) (by rw [(topFn_frK i2.fr).1, htE, i3]; exact (hkid _ (by rw [kidsP]; exact List.mem_cons_self)).symm) hct1 he1
  have a2 := a1.top (fun f => { f with scopes := layTop x.text S.enter.decls.length f.scopes }) fun f => ⟨rfl, rfl⟩
  have a3 := hJ _ _ k2 j1 (by rw [j3, r3, i3]; exact e2) (by omega) a2 (by
   rw [(topFn_frK ((i2.trans r2).trans j2).fr).1, htE, j3, r3, i3]
   exact (hkid (S.pc + k1) (by rw [kidsP, e1]; simp [kidsP])).symm) (by
   rw [j3, r3]
   exact (w1.trans (Wk.top _ _)).cast (List.append_nil _) |>.ct hct1) he2
  exact a3.top (fun f => { f with scopes := f.scopes.tail }) fun f => ⟨rfl, rfl⟩
 rw [if_neg h11] at he ⊢
 unfold MS.plain at he ⊢
 by_cases h6 : x.kind = 6
 ·rw [if_pos h6] at he ⊢
  rw [cnt2 hok (.inr (.inl h6))] at hD hkid
  have hD2 : D (l.drop S.pc) 2 = some k := hD
  have hkid : ∀ q ∈ kidsP l 2 S.pc, F q = S.topFn := hkid
  obtain ⟨k1, k2, e1, e2, e3, e4, e5, e6⟩ := D_next hD2
  obtain ⟨r1, r2, r3⟩ := hN _ _ k1 h e1 (by omega)
  have j1 := r1.loop (· + 1) (b' := b + 2 * k1 + 1) (Nat.le_succ _) (fun n hn => by show n + 1 ≤ _; omega)
  have w1 := hW _ _ k1 h e1 (by omega)
  have w2 := hW ((nd S).loop (· + 1)) _ k2 j1 (by show D (l.drop (nd S).pc) 1 = _; rw [r3]; exact e2) (by omega)
  have he2 : (nd ((nd S).loop (· + 1))).e = 0 := he
  have he1 : (nd S).e = 0 := w2.back he2
  have a1 := hJ _ _ k1 h e1 (by omega) j (hkid _ (by rw [kidsP]; exact List.mem_cons_self)).symm hf1 he1
  have e8 : ((nd S).loop (· + 1)).pc = S.pc + k1 := r3
  have a2 := hJ _ _ k2 j1 (by rw [e8]; exact e2) (by omega) (a1.top (fun f => { f with loops := f.loops + 1 }) fun f => ⟨rfl, rfl⟩) (by
   rw [e8]
   have t1 : ((nd S).loop (· + 1)).topFn = (nd S).topFn := topFn_top (nd S) (fun f => { f with loops := f.loops + 1 }) fun f => rfl
   rw [t1, (topFn_frK r2.fr).1]
   exact (hkid _ (by rw [kidsP, e1]; simp [kidsP])).symm) (by
   rw [e8]
   exact w1.ct hf1) he2
  exact a2.top (fun f => { f with loops := f.loops - 1 }) fun f => ⟨rfl, rfl⟩
 ·rw [if_neg h6] at he ⊢
  simp only at he ⊢
  have key : ∀ (S1 : MS), Inv l b S1 → J F tot S1 → Wk p 1 [] S S1 → frK S1 = frK S → S1.pc = S.pc → (times nd x.n.toNat S1).e = 0 → J F tot (times nd x.n.toNat S1) := by
   intro S1 i1 i2 i3 i4 i5 i6
   exact times_j hN hW hJ x.n.toNat S1 b k i1 (by rw [i5]; exact hD) hkf i2 (by rw [i5, (topFn_frK i4).1]; exact hkid) (by rw [i5]; exact i3.ct0 hf1) i6
  split at he
  ·rename_i hh
   rw [if_pos hh]
   exact key _ (h.failIf _ _ _) (j.failIf _ _ _) (Wk.failIf S _ _ _ (by decide)) (Sh.failIf S _ _ _).fr (failIf_rest S _ _ _).2.2.2.2.2.2 he
  ·rename_i hh
   rw [if_neg hh]
   split at he
   ·rename_i hh
    rw [if_pos hh]
    exact key _ (h.failIf _ _ _) (j.failIf _ _ _) (Wk.failIf S _ _ _ (by decide)) (Sh.failIf S _ _ _).fr (failIf_rest S _ _ _).2.2.2.2.2.2 he
   ·rename_i hh
    rw [if_neg hh]
    exact key _ h j (Wk.same rfl rfl rfl rfl) rfl rfl he
theorem nodeJ (P : Prg l) (K : Kd l F) (hl : l.length ≤ 400) {g : List (Bs × Nat)} (hg : ∀ s at_, look s g = some at_ → globalNo l at_ < tot) : ∀ f, NodeJ l F tot (nodeM l g f) f
 | 0, S, b, k, h, hD, hk, j, ht, hc, he => by have := (D_le _ _ _ hD).1; omega
 | f + 1, S, b, k, h, hD, hk, j, ht, hc, he => by
  have hle := D_le _ _ _ hD
  rw [List.length_drop] at hle
  have hlt : S.pc < l.length := by omega
  rw [nodeM] at he ⊢
  split at he
  ·rename_i h0; exact absurd he h0
  ·rename_i h0
   rw [if_neg h0]
   rw [List.getElem?_eq_getElem hlt] at he ⊢
   simp only at he ⊢
   split at he
   ·rename_i hn
    rw [if_pos hn]
    exact j.name h hg false hlt ht
   ·rename_i hn
    rw [if_neg hn]
    obtain ⟨d1, d2, d3⟩ := D_kids hlt hD
    have h1 := h.go (p := S.pc + 1) (Nat.le_succ _) hlt
    exact step_j P K hl hg (nodeI P hl g f) (nodeW P hl g f) (nodeJ P K hl hg f) (S := { S with pc := S.pc + 1 }) (k := k - 1) hlt h1 rfl (by simp only; have := h.nfr; omega) d3 (by omega) (j.same rfl rfl rfl rfl rfl rfl) ht hc he
end
end Go.Proofs.YtihokakelnfdgaaDoor

namespace Go.Proofs.YtihokakelnfdgaaDoor
open Go Go.Ev
set_option linter.unusedVariables false
set_option linter.unusedSimpArgs false

/-! Each node is made for one. -/
theorem nest (l : List Nd) : ∀ (N n p k : Nat), k ≤ N → D (l.drop p) n = some k → ∀ b, p ≤ b → b < p + k → ∃ w, D (l.drop b) 1 = some w ∧ b + w ≤ p + k
 | N, 0, p, k, hN, hD, b, h1, h2 => by
  rw [D_zero] at hD; cases hD; omega
 | 0, n + 1, p, k, hN, hD, b, h1, h2 => by omega
 | N + 1, n + 1, p, k, hN, hD, b, h1, h2 => by
  obtain ⟨k1, k2, e1, e2, e3, e4, e5, e6⟩ := D_next hD
  rcases Nat.lt_or_ge b (p + k1) with hb | hb
  ·rcases Nat.eq_or_lt_of_le h1 with rfl | h1
   ·exact ⟨k1, e1, by omega⟩
   ·obtain ⟨d1, d2, d3⟩ := D_kids e5 e1
    obtain ⟨w, w1, w2⟩ := nest l N _ (p + 1) (k1 - 1) (by omega) d3 b h1 (by omega)
    exact ⟨w, w1, by omega⟩
  ·obtain ⟨w, w1, w2⟩ := nest l (N + 1) n (p + k1) k2 (by omega) e2 b hb (by omega)
   exact ⟨w, w1, by omega⟩
theorem kids_sep (l : List Nd) : ∀ (c p k : Nat), D (l.drop p) c = some k → ∀ q ∈ kidsP l c p, ∀ b, p ≤ b → b < q → ∀ w, D (l.drop b) 1 = some w → b + w ≤ q
 | 0, p, k, hD, q, hq, b, h1, h2, w, hw => by cases hq
 | c + 1, p, k, hD, q, hq, b, h1, h2, w, hw => by
  obtain ⟨k1, k2, e1, e2, e3, e4, e5, e6⟩ := D_next hD
  rw [kidsP, e1, Option.getD_some] at hq
  rcases List.mem_cons.1 hq with rfl | hq
  ·omega
  ·have hge := kidsP_ge l c (p + k1) q hq
   rcases Nat.lt_or_ge b (p + k1) with hb | hb
   ·obtain ⟨w', w1, w2⟩ := nest l k1 1 p k1 (Nat.le_refl _) e1 b h1 hb
    rw [hw] at w1; cases w1
    omega
   ·exact kids_sep l c (p + k1) k2 e2 q hq b hb h2 w hw
def kidsOf (l : List Nd) (p : Nat) : List Nat := match l[p]? with | some x => kidsP l x.n.toNat (p + 1) | none => []
theorem kidsOf_eq {l : List Nd} {p : Nat} (hp : p < l.length) : kidsOf l p = kidsP l l[p].n.toNat (p + 1) := by unfold kidsOf; rw [List.getElem?_eq_getElem hp]
theorem kidsOf_in {l : List Nd} (P : Prg l) {p q : Nat} (hq : q ∈ kidsOf l p) : p < q ∧ q < l.length ∧ p < l.length := by
 have hp : p < l.length := by
  unfold kidsOf at hq
  cases h : l[p]? with
  | none => rw [h] at hq; cases hq
  | some x => exact (List.getElem?_eq_some_iff.1 h).1
 rw [kidsOf_eq hp] at hq
 obtain ⟨w, hw⟩ := P.at_ _ hp
 obtain ⟨d1, d2, d3⟩ := D_kids hp hw
 have h1 := kidsP_ge l _ _ q hq
 have h2 := kidsP_lt P _ _ _ d3 q hq
 exact ⟨h1, by omega, hp⟩
/-- one alone. -/
theorem kids_one {l : List Nd} (P : Prg l) {p i q : Nat} (hpi : p < i) (hq : q ∈ kidsOf l p) : q ∉ kidsOf l i := by
 intro hq2
 obtain ⟨a1, a2, a3⟩ := kidsOf_in P hq
 obtain ⟨b1, b2, b3⟩ := kidsOf_in P hq2
 rw [kidsOf_eq a3] at hq
 rw [kidsOf_eq b3] at hq2
 obtain ⟨w, hw⟩ := P.at_ _ a3
 obtain ⟨w', hw'⟩ := P.at_ _ b3
 obtain ⟨d1, d2, d3⟩ := D_kids a3 hw
 obtain ⟨c1, c2, c3⟩ := D_kids b3 hw'
 have h1 := kids_sep l _ _ _ d3 q hq i (by omega) b1 w' hw'
 have h2 := kidsP_lt P _ _ _ c3 q hq2
 omega
/-- what Grow's rows hold behind so many nodes. -/
structure Gr (l : List Nd) (i : Nat) (U Fn Ow : List Nat) : Prop where
 ul : U.length = l.length
 fl : Fn.length = l.length
 ol : Ow.length = l.length
 up : ∀ p, p < i → ∀ q ∈ kidsOf l p, U[q]? = some p
 ub : ∀ (q u : Nat), U[q]? = some u → u = 0 ∨ u < i
 own : ∀ j, j < i → ∃ f, Fn[j]? = some f ∧ f ≤ (fnL l 0 j).length ∧ Ow[j]? = some (if isFnAt l j then (fnL l 0 j).length + 1 else f)
 kid : ∀ p, p < i → ∀ q ∈ kidsOf l p, q < i → ∃ o, Ow[p]? = some o ∧ Fn[q]? = some o
 zero : Fn[0]? = some 0
 fz : ∀ (j f : Nat), i ≤ j → Fn[j]? = some f → f = 0
theorem Gr.start {l : List Nd} (h0 : 0 < l.length) : Gr l 0 (List.replicate l.length 0) (List.replicate l.length 0) (List.replicate l.length 0) :=
 ⟨by simp, by simp, by simp, fun p hp => by omega, fun q u h => by rw [List.getElem?_replicate] at h; split at h <;> simp_all, fun j hj => by omega, fun p hp => by omega, by simp [h0], fun j f _ h => by rw [List.getElem?_replicate] at h; split at h <;> simp_all⟩
def setAll (v : Nat) : List Nat → List Nat → List Nat
 | [], u => u
 | k :: ks, u => setAll v ks (u.set k v)
theorem setAll_len (v : Nat) : ∀ (ks u : List Nat), (setAll v ks u).length = u.length
 | [], u => rfl
 | k :: ks, u => by rw [setAll, setAll_len v ks]; simp
theorem setAll_get (v : Nat) : ∀ (ks u : List Nat) (q : Nat), q < u.length → (setAll v ks u)[q]? = if q ∈ ks then some v else u[q]?
 | [], u, q, hq => by simp [setAll]
 | k :: ks, u, q, hq => by
  rw [setAll, setAll_get v ks (u.set k v) q (by simpa using hq)]
  by_cases h : q ∈ ks
  ·simp [h]
  ·rw [if_neg h, List.getElem?_set]
   by_cases hk : k = q
   ·subst hk; simp [hq]
   ·rw [if_neg hk, if_neg (by simp [h]; omega)]
theorem fnL_succ' (l : List Nd) (i : Nat) : (fnL l 0 i).length ≤ (fnL l 0 (i + 1)).length := by rw [fnL_add, List.length_append]; omega
theorem fnL_mono (l : List Nd) {a b : Nat} (h : a ≤ b) : (fnL l 0 a).length ≤ (fnL l 0 b).length := by
 obtain ⟨c, rfl⟩ := Nat.le.dest h
 rw [fnL_add, List.length_append]; omega
theorem own_le {l : List Nd} {j f i : Nat} (hj : j < i) (hf : f ≤ (fnL l 0 j).length) : (if isFnAt l j then (fnL l 0 j).length + 1 else f) ≤ (fnL l 0 i).length := by
 have h1 := fnL_mono l (show j + 1 ≤ i by omega)
 have h2 := fnL_succ' l j
 split
 ·rename_i hh
  have : (fnL l j 1).length = 1 := by unfold fnL; simp [hh]
  rw [fnL_add, List.length_append, Nat.zero_add, this] at h1
  exact h1
 ·omega
/-- one node more: fo is the function it belongs to. -/
theorem Gr.next {l : List Nd} (P : Prg l) {i : Nat} {U Fn Ow : List Nat} (h : Gr l i U Fn Ow) (hi : i < l.length) {f : Nat} (hf : (i = 0 ∧ f = 0) ∨ (0 < i ∧ ∃ u, U[i]? = some u ∧ Ow[u]? = some f)) :
  Gr l (i + 1) (setAll i (kidsOf l i) U) (Fn.set i f) (Ow.set i (if isFnAt l i then (fnL l 0 i).length + 1 else f)) := by
 have hfb : f ≤ (fnL l 0 i).length := by
  rcases hf with ⟨rfl, rfl⟩ | ⟨h0, u, hu, ho⟩
  ·exact Nat.zero_le _
  ·have hui : u < i := (h.ub i u hu).elim (fun h => by omega) id
   obtain ⟨g, g1, g2, g3⟩ := h.own u hui
   rw [ho] at g3
   cases g3
   exact own_le hui g2
 refine ⟨by rw [setAll_len, h.ul], by simp [h.fl], by simp [h.ol], fun p hp q hq => ?_, fun q u hu => ?_, fun j hj => ?_, fun p hp q hq hqi => ?_, ?_, fun j g hj hg => ?_⟩
 ·obtain ⟨a1, a2, a3⟩ := kidsOf_in P hq
  rw [setAll_get _ _ _ _ (by rw [h.ul]; exact a2)]
  rcases Nat.lt_or_ge p i with hpi | hpi
  ·rw [if_neg (kids_one P hpi hq)]; exact h.up p hpi q hq
  ·obtain rfl : p = i := by omega
   rw [if_pos hq]
 ·have hql : q < U.length := by
   have := (List.getElem?_eq_some_iff.1 hu).1
   rwa [setAll_len] at this
  rw [setAll_get _ _ _ _ hql] at hu
  split at hu
  ·cases hu; exact .inr (Nat.lt_succ_self _)
  ·exact (h.ub q u hu).imp id fun h => Nat.lt_succ_of_lt h
 ·rcases Nat.lt_or_ge j i with hji | hji
  ·rw [List.getElem?_set_ne (by omega), List.getElem?_set_ne (by omega)]
   exact h.own j hji
  ·obtain rfl : j = i := by omega
   exact ⟨f, by rw [List.getElem?_set_self (by rw [h.fl]; exact hi)], hfb, by rw [List.getElem?_set_self (by rw [h.ol]; exact hi)]⟩
 ·obtain ⟨a1, a2, a3⟩ := kidsOf_in P hq
  have hpi : p < i := by omega
  rcases Nat.lt_or_ge q i with hqi' | hqi'
  ·obtain ⟨o, o1, o2⟩ := h.kid p hpi q hq hqi'
   exact ⟨o, by rw [List.getElem?_set_ne (by omega)]; exact o1, by rw [List.getElem?_set_ne (by omega)]; exact o2⟩
  ·obtain rfl : q = i := by omega
   rcases hf with ⟨h0, -⟩ | ⟨h0, u, hu, ho⟩
   ·omega
   ·rw [h.up p hpi q hq] at hu
    cases hu
    exact ⟨f, by rw [List.getElem?_set_ne (by omega)]; exact ho, by rw [List.getElem?_set_self (by rw [h.fl]; exact hi)]⟩
 ·rcases hf with ⟨rfl, rfl⟩ | ⟨h0, -⟩
  ·rw [List.getElem?_set_self (by rw [h.fl]; exact hi)]
  ·rw [List.getElem?_set_ne (by omega)]; exact h.zero
 ·rw [List.getElem?_set_ne (by omega)] at hg
  exact h.fz j g (by omega) hg
/-- the functions that nodes belong to, at last. -/
theorem Gr.kd {l : List Nd} (P : Prg l) {U Fn Ow : List Nat} (h : Gr l l.length U Fn Ow) : Kd l (fun q => Fn[q]?.getD 0) where
 zero := by show Fn[0]?.getD 0 = 0; rw [h.zero]; rfl
 kid := fun p hp q hq => by
  rw [← kidsOf_eq hp] at hq
  obtain ⟨a1, a2, a3⟩ := kidsOf_in P hq
  obtain ⟨o, o1, o2⟩ := h.kid p hp q hq a2
  obtain ⟨f, f1, f2, f3⟩ := h.own p hp
  rw [f3] at o1
  show Fn[q]?.getD 0 = if isFnAt l p then (fnL l 0 p).length + 1 else Fn[p]?.getD 0
  rw [o2, f1, Option.getD_some, Option.getD_some, ← Option.some.inj o1]
end Go.Proofs.YtihokakelnfdgaaDoor

namespace Go.Proofs.YtihokakelnfdgaaDoor
open Go Go.Ev
set_option linter.unusedVariables false
set_option linter.unusedSimpArgs false

theorem hoist_in {l : List Nd} (T : List Nat) : ∀ (ts : List Nat) (g : List (Bs × Nat)), (∀ q ∈ g, q.2 ∈ T ∧ isDecl l q.2 = true) → (∀ k ∈ ts, k ∈ T) →
  ∀ q ∈ ts.foldl (fun g k => if isDecl l k && (look (nameAt l k) g).isNone then lay (nameAt l k) k g else g) g, q.2 ∈ T ∧ isDecl l q.2 = true
 | [], g, hg, _ => hg
 | k :: ts, g, hg, hT => by
  rw [List.foldl_cons]
  refine hoist_in T ts _ (fun q hq => ?_) fun k hk => hT k (List.mem_cons_of_mem _ hk)
  split at hq
  ·rename_i hc
   rcases lay_mem hq with rfl | hq
   ·simp only [Bool.and_eq_true] at hc
    exact ⟨hT k List.mem_cons_self, hc.1⟩
   ·exact hg q hq
  ·exact hg q hq
theorem hoisted_no {l : List Nd} {s : Bs} {k : Nat} (h : look s (hoisted l) = some k) : globalNo l k < ((tops l).filter (isDecl l)).length := by
 obtain ⟨h1, h2⟩ := hoist_in (l := l) (tops l) (tops l) [] (fun q hq => by cases hq) (fun k hk => hk) _ (lookB_mem h)
 have e : globalNo l k = (((tops l).filter (isDecl l)).filter fun j => decide (j < k)).length := by
  unfold globalNo
  rw [List.filter_filter]
 rw [e, List.length_filter_lt_length_iff_exists]
 exact ⟨k, List.mem_filter.2 ⟨h1, h2⟩, by simp⟩
theorem J.start {l : List Nd} {F : Nat → Nat} {tot : Nat} : J F tot (start l) where
 ch := fun k f f' h1 h2 => by simp [YtihokakelnfdgaaDoor.start] at h2
 us := fun q u hu => by
  have hu : (List.replicate l.length ((0, 0) : Nat × Nat))[q]? = some u := hu
  rw [List.getElem?_replicate] at hu
  split at hu
  ·cases hu; exact .inl ⟨rfl, rfl⟩
  ·cases hu
 ms := fun q d hd => by
  have hd : (List.replicate l.length (none : Option Nat))[q]? = some (some d) := hd
  rw [List.getElem?_replicate] at hd
  split at hd <;> simp at hd
 ds := fun d hd => absurd hd (Nat.not_lt_zero _)
 cp := fun i c hc => by
  have hc : c ∈ capsOf [(⟨0, 0, 0, []⟩ : Fn)] i := hc
  unfold capsOf at hc
  cases i with
  | zero => cases hc
  | succ i => cases hc
 fc := fun f hf q hq => by
  have hf : f ∈ [(⟨0, [], 0, []⟩ : Fr)] := hf
  obtain rfl := List.mem_singleton.1 hf
  cases hq
/-- ALL THAT IS TOLD is within what there is. -/
theorem walked_right {l : List Nd} (hp : okProg l = true) (hlen : l.length ≤ 400) (h0 : 0 < l.length) (he : (walked l).e = 0) {F : Nat → Nat} (K : Kd l F) :
  J F ((tops l).filter (isDecl l)).length (walked l) := by
 have P := okProg_prg hp
 have hall := (prog_D hp).1
 have hD1 := (D_kids (at_ := 0) h0 (by simpa using hall)).2.2
 have hx : l[0]? = some l[0] := List.getElem?_eq_getElem h0
 have hN := nodeI P hlen (hoisted l) l.length
 have hW := nodeW P hlen (hoisted l) l.length
 have hJ := nodeJ P K hlen (g := hoisted l) (fun s at_ h => hoisted_no h) l.length
 have hD1' : D (l.drop (start l).pc) l[0].n.toNat = some (l.length - 1) := hD1
 have hwk : walked l = times (nodeM l (hoisted l) l.length) l[0].n.toNat (start l) := by unfold walked; rw [hx]
 have hroot := root_kind hp h0
 have hisf : isFnAt l 0 = false := by unfold isFnAt; rw [hx]; simp [hroot]
 rw [hwk] at he ⊢
 refine times_j hN hW hJ l[0].n.toNat (start l) 1 (l.length - 1) ({ pc := h0, ne := by simp [YtihokakelnfdgaaDoor.start], nfr := by simp [YtihokakelnfdgaaDoor.start], uses := by simp [YtihokakelnfdgaaDoor.start], means := by simp [YtihokakelnfdgaaDoor.start], globals := by simp [YtihokakelnfdgaaDoor.start], nf := by simp [YtihokakelnfdgaaDoor.start], slots := by simp [YtihokakelnfdgaaDoor.start], caps := by simp [YtihokakelnfdgaaDoor.start], fr := by simp [YtihokakelnfdgaaDoor.start], refs := ⟨by simp [YtihokakelnfdgaaDoor.start], by simp [YtihokakelnfdgaaDoor.start]⟩, own := by simp [YtihokakelnfdgaaDoor.start] } : Inv l 1 (start l)) hD1' (by omega) J.start (fun q hq => ?_) (fun _ => ?_) he
 ·rw [K.kid 0 h0 q hq, hisf]
  exact K.zero
 ·show [((0 : Nat), (0 : Int))] = (0, 0) :: fnL l 0 1
  rw [fnL_one h0, if_neg (by omega)]
/-- of each node what it means. -/
theorem finish_right {l : List Nd} {F : Nat → Nat} {tot : Nat} {S : MS} (j : J F tot S) (hm : S.means.length = S.uses.length) {q : Nat} {u : Nat × Nat} (hu : (finish S.decls S.means S.uses)[q]? = some u) :
  (u.1 = 0 ∧ u.2 = 0) ∨ ((u.1 = 1 ∨ u.1 = 2) ∧ u.2 < slotsOf S.funs (F q)) ∨ (u.1 = 3 ∧ u.2 < (capsOf S.funs (F q)).length) ∨ (u.1 = 4 ∧ (u.2 < tot ∨ u.2 < S.globals.length)) ∨ (u.1 = 5 ∧ u.2 < 30) := by
 rw [finish_zip _ _ _ hm, List.getElem?_zipWith] at hu
 cases hmq : S.means[q]? with
 | none => rw [hmq] at hu; cases hu
 | some o =>
  cases huq : S.uses[q]? with
  | none => rw [hmq, huq] at hu; cases hu
  | some u0 =>
   rw [hmq, huq] at hu
   have hu : stepU S.decls o u0 = u := by simpa using hu
   cases o with
   | none =>
    have hu : u0 = u := hu
    subst hu
    rcases j.us q u0 huq with h | h | h | h
    ·exact .inl h
    ·exact .inr (.inr (.inl h))
    ·exact .inr (.inr (.inr (.inl h)))
    ·exact .inr (.inr (.inr (.inr h)))
   | some d =>
    obtain ⟨d1, d2⟩ := j.ms q d hmq
    have hs := j.ds d d1
    have hd : S.decls[d]? = some S.decls[d] := List.getElem?_eq_getElem d1
    rw [stepU_some hd] at hu
    subst hu
    refine .inr (.inl ⟨?_, ?_⟩)
    ·simp only
     split
     ·exact .inr rfl
     ·exact .inl rfl
    ·simp only
     rw [← d2]
     have : declSlot S d = S.decls[d].slot := by unfold declSlot; rw [hd]
     rw [← this]; exact hs
end Go.Proofs.YtihokakelnfdgaaDoor

namespace Go.Proofs.YtihokakelnfdgaaDoor
open Go Go.Ev
set_option maxRecDepth 100000
set_option linter.unusedVariables false
set_option linter.unusedSimpArgs false

theorem Sl.form2 {X : Nat → Prop} {m : Mem} {v : Value} {e sz : Nat} {l : List Value} (h : Sl X m v e sz l) (hsz : 0 < sz) {n : Nat} (hl : l.length = n * sz) : ∃ a c, v = .slice a n c := by
 obtain ⟨a, k, c, rfl, hk⟩ := h.form hsz
 have : k = n := Nat.eq_of_mul_eq_mul_right hsz (by rw [← hk, hl])
 exact ⟨a, c, by rw [this]⟩
theorem Sl.use {X : Nat → Prop} {m : Mem} {v : Value} {us : List (Nat × Nat)} (h : Sl X m v 57 2 (encPs us)) {i : Nat} (hi : i < us.length) : ∃ b c, v = .slice (some ⟨b, 0, none⟩) us.length c ∧ loadAt evEnv m 57 b (0 + i * 2) = some (.agg ⟨[I us[i].1, I us[i].2]⟩) := by
 obtain ⟨b, cap, r, n, z1, z2, z3, z4, z5, z6, z7⟩ := h.at (i := i * 2) (by rw [encPs_len]; omega)
 have hn : n = us.length := by
  have := congrArg List.length z6
  rw [encPs_len, List.length_take] at this
  omega
 subst hn
 refine ⟨b, cap, z1, z3.loadA (k := 2) rfl rfl rfl (by omega) ?_⟩
 have q := encPs_drop us i _ (List.getElem?_eq_getElem hi)
 rw [z6, List.drop_take, List.take_take, Nat.min_eq_left (by omega)] at q
 rw [Nat.zero_add]; exact q
theorem Sl.formP {X : Nat → Prop} {m : Mem} {v : Value} {e sz : Nat} {l : List Value} (h : Sl X m v e sz l) (hsz : 0 < sz) {n : Nat} (hl : l.length = n * sz) : ∃ a c, v = .slice a n c ∧ (a = none ∨ ∃ b, a = some ⟨b, 0, none⟩) := by
 obtain ⟨a, c, rfl⟩ := Sl.form2 h hsz hl
 refine ⟨a, c, rfl, ?_⟩
 rcases h with ⟨h, -⟩ | ⟨b, cap, r, n', h, -⟩
 ·cases h; exact .inl rfl
 ·cases h; exact .inr ⟨b, rfl⟩
theorem Sl.use9 {X : Nat → Prop} {m : Mem} {v : Value} {us : List (Nat × Nat)} (h : Sl X m v 59 2 (encPs us)) {i : Nat} (hi : i < us.length) : ∃ b c, v = .slice (some ⟨b, 0, none⟩) us.length c ∧ loadAt evEnv m 59 b (0 + i * 2) = some (.agg ⟨[I us[i].1, I us[i].2]⟩) := by
 obtain ⟨b, cap, r, n, z1, z2, z3, z4, z5, z6, z7⟩ := h.at (i := i * 2) (by rw [encPs_len]; omega)
 have hn : n = us.length := by
  have := congrArg List.length z6
  rw [encPs_len, List.length_take] at this
  omega
 subst hn
 refine ⟨b, cap, z1, z3.loadA (k := 2) rfl rfl rfl (by omega) ?_⟩
 have q := encPs_drop us i _ (List.getElem?_eq_getElem hi)
 rw [z6, List.drop_take, List.take_take, Nat.min_eq_left (by omega)] at q
 rw [Nat.zero_add]; exact q
theorem Sl.fnl {X : Nat → Prop} {m : Mem} {v : Value} {cvs : List Value} {fs : List Fn} (h : Sl X m v 49 4 (encFns cvs fs)) (hc : cvs.length = fs.length) {i : Nat} (hi : i < fs.length) : ∃ b c, v = .slice (some ⟨b, 0, none⟩) fs.length c ∧ loadAt evEnv m 49 b (0 + i * 4) = some (.agg ⟨[I fs[i].node, I fs[i].params, I fs[i].slots, cvs[i]'(by omega)]⟩) := by
 have hlen := encFns_len cvs fs hc
 obtain ⟨b, cap, r, n, z1, z2, z3, z4, z5, z6, z7⟩ := h.at (i := i * 4) (by omega)
 have hn : n = fs.length := by
  have := congrArg List.length z6
  rw [List.length_take] at this
  omega
 subst hn
 refine ⟨b, cap, z1, z3.loadA (k := 4) rfl rfl rfl (by omega) ?_⟩
 have hg := fun j (hj : j < 4) => encFns_get cvs fs i j _ _ (List.getElem?_eq_getElem (by omega)) (List.getElem?_eq_getElem hi) hj
 apply List.ext_getElem?
 intro j
 rcases Nat.lt_or_ge j 4 with hj | hj
 ·rw [List.getElem?_take_of_lt hj, List.getElem?_drop]
  have := hg j hj
  rw [z6, List.getElem?_take_of_lt (by omega)] at this
  rw [show 0 + i * 4 + j = i * 4 + j by omega, this]; rfl
 ·rw [List.getElem?_eq_none (by rw [List.length_take]; omega), List.getElem?_eq_none (by simp; omega)]
theorem Sl.cap3 {X : Nat → Prop} {m : Mem} {v : Value} {cvs : List Value} {fs : List Fn} (h : Sl X m v 49 4 (encFns cvs fs)) (hc : cvs.length = fs.length) {i : Nat} (hi : i < fs.length) : ∃ b c, v = .slice (some ⟨b, 0, none⟩) fs.length c ∧ loadAt evEnv m 47 b (0 + i * 4 + 3) = some (cvs[i]'(by omega)) := by
 have hlen := encFns_len cvs fs hc
 obtain ⟨b, cap, r, n, z1, z2, z3, z4, z5, z6, z7⟩ := h.at (i := i * 4 + 3) (by omega)
 have hn : n = fs.length := by
  have := congrArg List.length z6
  rw [List.length_take] at this
  omega
 subst hn
 refine ⟨b, cap, z1, z3.load1 rfl rfl ?_⟩
 rw [show 0 + i * 4 + 3 = i * 4 + 3 by omega, z7, encFns_get cvs fs i 3 _ _ (List.getElem?_eq_getElem (by omega)) (List.getElem?_eq_getElem hi) (by omega)]; rfl
theorem _root_.Go.Ev.Sl.held {X : Nat → Prop} {T : List Nat} {m m' : Mem} {v : Value} {e sz : Nat} {l : List Value} (h : Sl X m v e sz l) (k : Keep (fun c => c < m.next) T m m') : Sl X m' v e sz l := by
 rcases h with h | ⟨b, cap, r, n, h1, h2, h3, h4⟩
 ·exact .inl h
 ·exact .inr ⟨b, cap, r, n, h1, h2, h3.stay k (.inl h3.1), h4⟩
theorem walked_inv {l : List Nd} (hp : okProg l = true) (hlen : l.length ≤ 400) (h0 : 0 < l.length) : Inv l 801 (walked l) := by
 have P := okProg_prg hp
 have hall := (prog_D hp).1
 have hD1 := (D_kids (at_ := 0) h0 (by simpa using hall)).2.2
 have hx : l[0]? = some l[0] := List.getElem?_eq_getElem h0
 have hN := nodeI P hlen (hoisted l) l.length
 have hD1' : D (l.drop (start l).pc) l[0].n.toNat = some (l.length - 1) := hD1
 have hwk : walked l = times (nodeM l (hoisted l) l.length) l[0].n.toNat (start l) := by unfold walked; rw [hx]
 rw [hwk]
 exact (times_inv hN l[0].n.toNat (start l) 1 (l.length - 1) ({ pc := h0, ne := by simp [start], nfr := by simp [start], uses := by simp [start], means := by simp [start], globals := by simp [start], nf := by simp [start], slots := by simp [start], caps := by simp [start], fr := by simp [start], refs := ⟨by simp [start], by simp [start]⟩, own := by simp [start] } : Inv l 1 (start l)) hD1' (by omega)).1.mono (by omega)
end Go.Proofs.YtihokakelnfdgaaDoor
