/- Part of an evaluator for closed runs, and of its proof (EvG3). -/
import Derived.Test.YtihokakelnfdgaaDoorEvG2
namespace Go.Ev
open Go.RowKit
set_option linter.unusedVariables false
set_option linter.unusedSectionVars false
variable [Sym]

/-- a run of a region in the plan's order. -/
structure Run (E : Env) (call : CallFn) (ops : List Oper) (l : List Ent) (A : Nat → Act) : Prop where
  plan : Plan E ops l
  step : ∀ (x : Nat) (e : Ent), l[x]? = some e → ∃ k, stepOp E call ops (A x) e.o = some (k, A (x + 1)) ∧ (isEff E e.o.op = true ∨ k = 0 ∨ (k = 1 ∧ isAl e.o.op = true))
  need : ∀ (x p : Nat) (e : Ent), l[x]? = some e → p ≤ l.length → (x, p) ∈ needsOf E l → again E ops e (A x) (A (x + 1)) (A p).m = true

section
variable {E : Env} {call : CallFn} {ops : List Oper} {l : List Ent} {A : Nat → Act}

theorem lt_of_get {α : Type} {l : List α} {x : Nat} {e : α} (h : l[x]? = some e) : x < l.length := (List.getElem?_eq_some_iff.1 h).1

/-- two places have two numbers. -/
theorem Plan.inj (hp : Plan E ops l) {x y : Nat} {e f : Ent} (hx : l[x]? = some e) (hy : l[y]? = some f) (h : e.i = f.i) : x = y := by
  rcases Nat.lt_trichotomy x y with hlt | heq | hlt
  · have := hp.pair x y e f hlt hx hy
    simp only [pairOk, Bool.and_eq_true] at this
    rw [h] at this
    simp at this
  · exact heq
  · have := hp.pair y x f e hlt hy hx
    simp only [pairOk, Bool.and_eq_true] at this
    rw [h] at this
    simp at this

theorem Plan.clash_bit (hp : Plan E ops l) {x y : Nat} {e f : Ent} (hxy : x < y) (hx : l[x]? = some e) (hy : l[y]? = some f) (h : clash ops e.o f.o = true) : f.mask.testBit e.i = true := by
  have := hp.pair x y e f hxy hx hy
  simp only [pairOk, Bool.and_eq_true, h, Bool.not_true, Bool.false_or] at this
  exact this.1.2

theorem Plan.eff_bit (hp : Plan E ops l) {x y : Nat} {e f : Ent} (hxy : x < y) (hx : l[x]? = some e) (hy : l[y]? = some f) (h1 : isEff E e.o.op = true) (h2 : isEff E f.o.op = true ∨ isAl f.o.op = true) : f.mask.testBit e.i = true := by
  have := hp.pair x y e f hxy hx hy
  simp only [pairOk, Bool.and_eq_true] at this
  have h3 : (isEff E f.o.op || isAl f.o.op) = true := by simpa using h2
  have h4 := this.2
  simp only [h1, h3, Bool.and_self, Bool.not_true, Bool.false_or] at h4
  exact h4

/-- closed under what must be ahead. -/
def Closed (ops : List Oper) (S : Nat → Prop) : Prop := ∀ k o, ops[k]? = some o → S k → ∀ d ∈ depsOf o, S d

theorem Plan.bit (hp : Plan E ops l) {S : Nat → Prop} (hS : Closed ops S) {x : Nat} {e : Ent} (hx : l[x]? = some e) (he : S e.i) {j : Nat} (hj : e.mask.testBit j = true) : S j :=
  mask_closed hS e.i e.mask (hp.at_ e (List.mem_of_getElem? hx)).2 he j hj

/-- temporaries between two places. -/
theorem Run.tmp_stay (hr : Run E call ops l A) (t : Nat) (x : Nat) : ∀ (d : Nat), x + d ≤ l.length → (∀ y e, x ≤ y → y < x + d → l[y]? = some e → e.o.dst ≠ some t) → (A (x + d)).tmp t = (A x).tmp t
  | 0, _, _ => rfl
  | d + 1, hd, h => by
    have hlt : x + d < l.length := by omega
    have he : l[x + d]? = some l[x + d] := List.getElem?_eq_getElem hlt
    obtain ⟨k, hs, _⟩ := hr.step _ _ he
    have := (step_tmps hs).2 t (h (x + d) _ (by omega) (by omega) he)
    rw [show x + (d + 1) = x + d + 1 by omega, this]
    exact Run.tmp_stay hr t x d (by omega) fun y e h1 h2 => h y e h1 (by omega)

theorem Run.n_stay (hr : Run E call ops l A) : ∀ (x : Nat), x ≤ l.length → (A x).n = (A 0).n
  | 0, _ => rfl
  | x + 1, h => by
    have he : l[x]? = some l[x] := List.getElem?_eq_getElem (by omega)
    obtain ⟨k, hs, _⟩ := hr.step _ _ he
    rw [(step_tmps hs).1, Run.n_stay hr x (by omega)]

end

/-- the state on the way: all of effect ahead of p is done, and nothing of effect from p on. -/
structure On (E : Env) (G : Nat) (w0 : World) (ops : List Oper) (l : List Ent) (A : Nat → Act) (φ0 : Phi) (S : Nat → Prop) (p : Nat) (φ : Phi) (ac : Go.Act) (w : World) : Prop where
  le : p ≤ l.length
  ahead : ∀ (x : Nat) (e : Ent), x < p → l[x]? = some e → isEff E e.o.op = true → S e.i
  after : ∀ (x : Nat) (e : Ent), p ≤ x → l[x]? = some e → isEff E e.o.op = true → ¬ S e.i
  ext : Ext φ0 φ (A 0).m (A p).m
  rel : Rel E.P G w0 φ (A p).m w
  mono : ∀ x y, x ≤ y → y ≤ p → (A x).m.next ≤ (A y).m.next
  fresh : ∀ x, x ≤ p → ∀ b o, (A x).m.get b = some o → b < (A x).m.next
  pend : ∀ (x : Nat) (e : Ent), x < p → l[x]? = some e → isAl e.o.op = true → wanted (A x) ops e.o = true → ¬ S e.i → φ (A x).m.next = none
  tmps : ∀ (t x : Nat), x ≤ l.length → (∀ y e, y < x → l[y]? = some e → e.o.dst = some t → S e.i) → (∀ y e, x ≤ y → l[y]? = some e → e.o.dst = some t → ¬ S e.i) → VR φ ((A x).tmp t) (ac.tmps.getD t undef)
  size : ac.tmps.size = (A 0).n
  defers : DRs φ (A p).defers ac.defers

section
variable {E : Env} {G : Nat} {w0 : World} {call : CallFn} {ops : List Oper} {l : List Ent} {A : Nat → Act} {φ0 φ : Phi} {S : Nat → Prop} {p : Nat} {ac : Go.Act} {w : World}

/-- past an operation without effect. -/
theorem On.next (hr : Run E call ops l A) (h : On E G w0 ops l A φ0 S p φ ac w) {e : Ent} (he : l[p]? = some e) (hne : isEff E e.o.op = false) : On E G w0 ops l A φ0 S (p + 1) φ ac w := by
  obtain ⟨k, hs, hk⟩ := hr.step _ _ he
  have hk' : k = 0 ∨ (k = 1 ∧ isAl e.o.op = true) := hk.resolve_left (by rw [hne]; decide)
  obtain ⟨hd, hm⟩ := still_facts hs hk'
  have hlt := lt_of_get he
  have hnext : (A p).m.next ≤ (A (p + 1)).m.next := by
    rcases hm with hm | ⟨obj, hm, _⟩ <;> rw [hm]
    · exact Nat.le_refl _
    · exact Nat.le_succ _
  have hrel : Rel E.P G w0 φ (A (p + 1)).m w := by
    rcases hm with hm | ⟨obj, hm, hsm⟩ <;> rw [hm]
    · exact h.rel
    · exact h.rel.ahead obj (by omega)
  refine ⟨by omega, ?_, ?_, ?_, hrel, ?_, ?_, ?_, h.tmps, h.size, by rw [hd]; exact h.defers⟩
  · intro x f hx hf hef
    rcases Nat.lt_or_ge x p with hxp | hxp
    · exact h.ahead x f hxp hf hef
    · obtain rfl : x = p := by omega
      rw [he] at hf; cases hf
      rw [hne] at hef; cases hef
  · intro x f hx hf hef
    exact h.after x f (by omega) hf hef
  · exact ⟨h.ext.1, h.ext.2.1, Nat.le_trans h.ext.2.2 hnext⟩
  · intro x y hxy hy
    rcases Nat.lt_or_ge y (p + 1) with hyp | hyp
    · exact h.mono x y hxy (by omega)
    · obtain rfl : y = p + 1 := by omega
      rcases Nat.lt_or_ge x (p + 1) with hxp | hxp
      · exact Nat.le_trans (h.mono x p (by omega) (Nat.le_refl _)) hnext
      · obtain rfl : x = p + 1 := by omega
        exact Nat.le_refl _
  · intro x hx
    rcases Nat.lt_or_ge x (p + 1) with hxp | hxp
    · exact h.fresh x (by omega)
    · obtain rfl : x = p + 1 := by omega
      exact hrel.fresh
  · intro x f hx hf ha hw hn
    rcases Nat.lt_or_ge x p with hxp | hxp
    · exact h.pend x f hxp hf ha hw hn
    · obtain rfl : x = p := by omega
      exact h.rel.next_none

/-- up to the next operation of effect. -/
theorem On.advance (hr : Run E call ops l A) : ∀ (d p : Nat), l.length - p ≤ d → On E G w0 ops l A φ0 S p φ ac w → ∃ q, On E G w0 ops l A φ0 S q φ ac w ∧ ∀ e, l[q]? = some e → isEff E e.o.op = true
  | 0, p, hd, h => ⟨p, h, fun e he => absurd (lt_of_get he) (by omega)⟩
  | d + 1, p, hd, h => by
    rcases Nat.lt_or_ge p l.length with hp | hp
    · have he : l[p]? = some l[p] := List.getElem?_eq_getElem hp
      cases hx : isEff E l[p].o.op with
      | true => exact ⟨p, h, fun e he' => by rw [he] at he'; cases he'; exact hx⟩
      | false => exact On.advance hr d (p + 1) (by omega) (h.next hr he hx)
    · exact ⟨p, h, fun e he => absurd (lt_of_get he) (by omega)⟩

/-- memory between two places without effect. -/
theorem sub_stay (hr : Run E call ops l A) (x : Nat) : ∀ (d : Nat), x + d ≤ l.length → (∀ y, x ≤ y → y ≤ x + d → ∀ b o, (A y).m.get b = some o → b < (A y).m.next) → (∀ y e, x ≤ y → y < x + d → l[y]? = some e → isEff E e.o.op = false) → (A x).m.sub (A (x + d)).m
  | 0, _, _, _ => Mem.sub_refl _
  | d + 1, hd, hf, h => by
    have he : l[x + d]? = some l[x + d] := List.getElem?_eq_getElem (by omega)
    obtain ⟨k, hs, hk⟩ := hr.step _ _ he
    have hk' : k = 0 ∨ (k = 1 ∧ isAl l[x + d].o.op = true) := hk.resolve_left (by rw [h (x + d) _ (by omega) (by omega) he]; decide)
    have := sub_stay hr x d (by omega) (fun y h1 h2 => hf y h1 (by omega)) fun y e h1 h2 => h y e h1 (by omega)
    refine this.trans ?_
    rw [show x + (d + 1) = x + d + 1 by omega]
    rcases (still_facts hs hk').2 with hm | ⟨obj, hm, _⟩ <;> rw [hm]
    · exact Mem.sub_refl _
    · intro b o hb
      have := hf (x + d) (by omega) (by omega) b o hb
      rw [Mem.get_new_other _ _ _ (by omega)]
      exact hb

/-- what may be asked at the stage: nothing of effect stands between, or it was asked again. -/
theorem On.asked (hr : Run E call ops l A) (h : On E G w0 ops l A φ0 S p φ ac w) (hp : ∀ e, l[p]? = some e → isEff E e.o.op = true) (hS : Closed ops S) {x : Nat} {e : Ent} (he : l[x]? = some e) (hne : isEff E e.o.op = false) (hn : ¬ S e.i)
    (hS' : Closed ops fun k => S k ∨ k = e.i) :
    (x < p ∧ ∀ y f, x ≤ y → y < p → l[y]? = some f → isEff E f.o.op = false) ∨ again E ops e (A x) (A (x + 1)) (A p).m = true := by
  have hxl := lt_of_get he
  by_cases hin : (x, p) ∈ needsOf E l
  · exact .inr (hr.need x p e he h.le hin)
  · refine .inl ?_
    have hform : ∀ v, (match nth l x with
        | none => none
        | some ex => bif isEff E ex.o.op then none else
          bif Nat.blt x p then
            (bif (match nth l p with | none => true | some ep => isEff E ep.o.op) then (bif between E ex ((l.take p).drop (x + 1)) then none else some (x, p)) else none)
          else bif Nat.blt p x then
            (match nth l p with | none => none | some ep => bif isEff E ep.o.op && !(ex.mask.testBit ep.i) then some (x, p) else none)
          else none) = some v → v ≠ (x, p) := by
      intro v hv hvv
      subst hvv
      apply hin
      unfold needsOf
      rw [List.mem_flatMap]
      refine ⟨x, List.mem_range.2 hxl, ?_⟩
      rw [List.mem_filterMap]
      exact ⟨p, List.mem_range.2 (by have := h.le; omega), hv⟩
    simp only [nth_eq, he, hne, cond_false] at hform
    rcases Nat.lt_trichotomy x p with hlt | heq | hgt
    · refine ⟨hlt, ?_⟩
      have hb : Nat.blt x p = true := by simpa [Nat.blt_eq] using hlt
      simp only [hb, cond_true] at hform
      have hpe : (match l[p]? with | none => true | some ep => isEff E ep.o.op) = true := by
        cases hq : l[p]? with
        | none => rfl
        | some ep => exact hp ep hq
      simp only [hpe, cond_true] at hform
      cases hbt : between E e ((l.take p).drop (x + 1)) with
      | false => simp only [hbt, cond_false] at hform; exact absurd rfl (hform _ rfl)
      | true =>
        have hmem : ∀ y f, x < y → y < p → l[y]? = some f → f ∈ (l.take p).drop (x + 1) := by
          intro y f h1 h2 hf
          apply List.mem_of_getElem? (i := y - (x + 1))
          rw [List.getElem?_drop, List.getElem?_take, if_pos (by omega), show x + 1 + (y - (x + 1)) = y by omega]
          exact hf
        simp only [between, Bool.or_eq_true] at hbt
        rcases hbt with hbt | hbt
        · intro y f h1 h2 hf
          rcases Nat.lt_or_ge x y with hxy | hxy
          · have := List.all_eq_true.1 hbt f (hmem y f hxy h2 hf)
            simpa using this
          · obtain rfl : x = y := by omega
            rw [he] at hf; cases hf; exact hne
        · obtain ⟨f, hf, hff⟩ := List.any_eq_true.1 hbt
          simp only [Bool.and_eq_true] at hff
          obtain ⟨y, hy⟩ := List.getElem?_of_mem hf
          rw [List.getElem?_drop, List.getElem?_take] at hy
          split at hy
          · have := h.ahead _ f (by assumption) hy hff.1
            exact absurd (hr.plan.bit hS hy this hff.2) hn
          · cases hy
    · subst heq
      have := hp e he
      rw [hne] at this; cases this
    · exfalso
      have hb : Nat.blt x p = false := by
        cases hb : Nat.blt x p
        · rfl
        · have : x < p := by simpa [Nat.blt_eq] using hb
          omega
      have hb2 : Nat.blt p x = true := by simpa [Nat.blt_eq] using hgt
      simp only [hb, hb2, cond_false, cond_true] at hform
      have hpl : p < l.length := by omega
      have hpe : l[p]? = some l[p] := List.getElem?_eq_getElem hpl
      have hpp := hp _ hpe
      simp only [hpe, hpp, Bool.true_and] at hform
      cases hbit : e.mask.testBit l[p].i with
      | true =>
        have := hr.plan.bit hS' he (.inr rfl) hbit
        rcases this with this | this
        · exact h.after p _ (Nat.le_refl _) hpe hpp this
        · have := hr.plan.inj hpe he this
          omega
      | false => simp only [hbit, Bool.not_false, cond_true] at hform; exact absurd rfl (hform _ rfl)

end
end Go.Ev
