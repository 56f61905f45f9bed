/- Part of an evaluator for closed runs, and of its proof (EvG1). -/
import Derived.Test.YtihokakelnfdgaaDoorEvH
namespace Go.Ev
open Go.RowKit
set_option linter.unusedVariables false
set_option linter.unusedSectionVars false
variable [Sym]

/-- all that stood stands. -/
def Mem.sub (m m' : Mem) : Prop := ∀ b o, m.get b = some o → m'.get b = some o

theorem Mem.sub_refl (m : Mem) : m.sub m := fun _ _ h => h
theorem Mem.sub.trans {a b c : Mem} (h : a.sub b) (k : b.sub c) : a.sub c := fun x o e => k x o (h x o e)

section
variable {E : Env} {m m' : Mem} {ρ : Rho}

theorem notStr_mono (h : m.sub m') {b : Nat} (hb : notStr m b = true) : notStr m' b = true := by
  unfold notStr at *
  split at hb
  · rename_i n c e hm; simp only [h _ _ hm]
  · cases hb

theorem eqPtr_mono (h : m.sub m') {t : TypeId} {x y : Value} {r : Bool} (hr : eqPtr E m t x y = some r) : eqPtr E m' t x y = some r := by
  unfold eqPtr at *
  split at hr <;> try exact hr
  split at hr
  · rename_i k hk
    revert hr
    cases hb : Nat.beq _ _ with
    | true => exact fun hr => hr
    | false =>
      simp only [cond_false]
      cases hn : notStr m _ && notStr m _ with
      | false => intro hr; simp at hr
      | true =>
        simp only [Bool.and_eq_true] at hn
        rw [notStr_mono h hn.1, notStr_mono h hn.2]
        exact fun hr => hr
  · cases hr

theorem eqAny_mono (h : m.sub m') {t : TypeId} {x y : Value} {r : Bool} (hr : eqAny E m t x y = some r) : eqAny E m' t x y = some r := by
  unfold eqAny at *
  split at hr
  · exact hr
  · exact hr
  · exact eqPtr_mono h hr

theorem binOp0_mono (h : m.sub m') {op : BinOp} {t : TypeId} {x y v : Value} (hr : binOp0 E m op t x y = some v) : binOp0 E m' op t x y = some v := by
  unfold binOp0 at *
  split at hr
  · exact hr
  · exact hr
  · exact hr
  · exact hr
  · split at hr
    · cases hr
    · rename_i r he; rw [eqAny_mono h he]; exact hr
  · split at hr
    · cases hr
    · rename_i r he; rw [eqAny_mono h he]; exact hr
  · cases hr

theorem binOp_mono (h : m.sub m') {op : BinOp} {t : TypeId} {x y v : Value} (hr : binOp E m op t x y = some v) : binOp E m' op t x y = some v := by
  unfold binOp at *
  split at hr
  · exact hr
  · exact binOp0_mono h hr

theorem loadAt_mono (h : m.sub m') {t : TypeId} {b o : Nat} {v : Value} (hr : loadAt E m t b o = some v) : loadAt E m' t b o = some v := by
  unfold loadAt at *
  split at hr
  · rename_i d n c e kd hd hm
    simp only [hd, h _ _ hm]
    exact hr
  · cases hr

theorem eqKey_mono (h : m.sub m') {t : TypeId} {x y : Value} {r : Bool} (hr : quiet.eqKey E m t x y = some r) : quiet.eqKey E m' t x y = some r := by
  unfold quiet.eqKey at *
  split at hr
  · exact hr
  · exact hr
  · exact eqPtr_mono h hr
  · cases hr

theorem find_mono (h : m.sub m') {t : TypeId} {k : Value} : ∀ (es : List (Value × Value)) (r : Option Value), quiet.find E m t k es = some r → quiet.find E m' t k es = some r
  | [], r, hr => hr
  | (k', v) :: es, r, hr => by
    simp only [quiet.find] at hr ⊢
    split at hr
    · cases hr
    · rename_i he; rw [eqKey_mono h he]; exact hr
    · rename_i he; rw [eqKey_mono h he]; exact find_mono h es r hr

theorem find_mono' (h : m.sub m') {t : TypeId} {k : Value} {es : List (Value × Value)} {f : Option Value → Value} {v : Value} (hr : (match quiet.find E m t k es with | none => none | some r => some (f r)) = some v) :
    (match quiet.find E m' t k es with | none => none | some r => some (f r)) = some v := by
  split at hr
  · cases hr
  · rename_i r he; rw [find_mono h es r he]; exact hr

theorem quiet_mono (h : m.sub m') (o : Op) {v : Value} (hr : quiet E m ρ o = some v) : quiet E m' ρ o = some v := by
  cases o with
  | load t a =>
    simp only [quiet] at hr ⊢
    split at hr
    · exact loadAt_mono h hr
    · cases hr
  | binOp op t x y u => simp only [quiet] at hr ⊢; exact binOp_mono h hr
  | convert s d x =>
    simp only [quiet] at hr ⊢
    split at hr
    · exact hr
    · exact hr
    · exact hr
    · split at hr
      · rename_i he hm
        simp only [he, h _ _ hm]
        exact hr
      · cases hr
    · cases hr
  | lookup t x i ok =>
    simp only [quiet] at hr ⊢
    split at hr
    · rename_i kt et ht
      split at hr
      · rename_i es z hes hz
        revert hes
        cases hx : ρ x <;> intro hes <;> try cases hes
        rename_i mr
        cases mr with
        | none => cases hes; simp only [hz]; exact (find_mono' h hr)
        | some r =>
          simp only at hes ⊢
          split at hes
          · rename_i es2 hm
            simp only [h _ _ hm]
            cases hes
            simp only [hz]
            exact (find_mono' h hr)
          · cases hes
      · cases hr
    · cases hr
  | call c =>
    cases hc : c.callee with
    | value f => simp [quiet, hc] at hr
    | invoke r n => simp [quiet, hc] at hr
    | builtin b =>
      cases b <;> simp only [quiet, hc] at hr ⊢ <;> try exact hr
      split at hr
      · split at hr
        · exact hr
        · exact hr
        · exact hr
        · exact hr
        · split at hr
          · rename_i hm; simp only [h _ _ hm]; exact hr
          · cases hr
        · cases hr
      · cases hr
  | _ => exact hr

end

/-! ## The plan -/

theorem masks_len : ∀ (l : List Oper) (ms : List Nat), (masks ms l).length = ms.length + l.length
  | [], ms => by simp [masks]
  | o :: l, ms => by simp only [masks]; rw [masks_len l]; simp; omega

theorem masks_get : ∀ (l : List Oper) (ms : List Nat) (i : Nat), i < ms.length → (masks ms l)[i]? = ms[i]?
  | [], ms, i, h => rfl
  | o :: l, ms, i, h => by
    simp only [masks]
    rw [masks_get l _ i (by simp; omega), List.getElem?_append_left h]

/-- each mask is made of what stands ahead. -/
theorem masks_spec : ∀ (l : List Oper) (ms : List Nat) (i : Nat) (o : Oper), l[i]? = some o → (masks ms l)[ms.length + i]? = some (maskOf ((masks ms l).take (ms.length + i)) (depsOf o))
  | [], ms, i, o, h => by simp at h
  | p :: l, ms, 0, o, h => by
    obtain rfl : p = o := by simpa using h
    simp only [masks, Nat.add_zero]
    rw [masks_get l _ _ (by simp)]
    have : (masks (ms ++ [maskOf ms (depsOf p)]) l).take ms.length = ms := by
      apply List.ext_getElem?
      intro j
      rw [List.getElem?_take]
      split
      · rename_i hj
        rw [masks_get l _ _ (by simp; omega), List.getElem?_append_left hj]
      · rw [List.getElem?_eq_none (by omega)]
    rw [this]
    simp
  | p :: l, ms, i + 1, o, h => by
    simp only [masks]
    have := masks_spec l (ms ++ [maskOf ms (depsOf p)]) i o (by simpa using h)
    rw [List.length_append, List.length_singleton] at this
    rw [show ms.length + (i + 1) = ms.length + 1 + i by omega]
    exact this

theorem maskOf_bit {ms : List Nat} {j : Nat} : ∀ (ds : List Nat), (maskOf ms ds).testBit j = true → ∃ d ∈ ds, d = j ∨ ∃ x, ms[d]? = some x ∧ x.testBit j = true
  | [], h => by simp [maskOf] at h
  | d :: ds, h => by
    simp only [maskOf, Nat.testBit_or, Bool.or_eq_true] at h
    rcases h with (h | h) | h
    · rw [Nat.testBit_two_pow] at h
      exact ⟨d, by simp, .inl (by simpa using h)⟩
    · rw [nth_eq] at h
      split at h
      · rename_i x hx; exact ⟨d, by simp, .inr ⟨x, hx, h⟩⟩
      · simp at h
    · obtain ⟨d', h1, h2⟩ := maskOf_bit ds h
      exact ⟨d', by simp [h1], h2⟩

/-- a mask tells only what must be ahead: whatever is closed under that holds it. -/
theorem mask_closed {ops : List Oper} {S : Nat → Prop} (hS : ∀ k o, ops[k]? = some o → S k → ∀ d ∈ depsOf o, S d) :
    ∀ (i : Nat) (x : Nat), (masks [] ops)[i]? = some x → S i → ∀ j, x.testBit j = true → S j := by
  intro i
  induction i using Nat.strongRecOn with
  | _ i ih =>
    intro x hx hSi j hj
    have hlen := masks_len ops []
    have hi : i < ops.length := by
      rcases Nat.lt_or_ge i ops.length with h | h
      · exact h
      · rw [List.getElem?_eq_none (by simp at hlen; omega)] at hx; cases hx
    have ho : ops[i]? = some ops[i] := List.getElem?_eq_getElem hi
    have hsp := masks_spec ops [] i _ ho
    simp only [List.length_nil, Nat.zero_add] at hsp
    rw [hsp] at hx
    cases hx
    obtain ⟨d, hd, hdj | ⟨y, hy, hyj⟩⟩ := maskOf_bit _ hj
    · subst hdj; exact hS i _ ho hSi d hd
    · rw [List.getElem?_take] at hy
      split at hy
      · rename_i hdi
        exact ih d hdi y hy (hS i _ ho hSi d hd) j hyj
      · cases hy

theorem entsFrom_mem : ∀ (i : Nat) (ms : List Nat) (l : List Oper) (e : Ent), e ∈ entsFrom i ms l → ∃ k, e.i = i + k ∧ l[k]? = some e.o ∧ ms[k]? = some e.mask
  | i, [], l, e, h => by simp [entsFrom] at h
  | i, m :: ms, [], e, h => by simp [entsFrom] at h
  | i, m :: ms, o :: l, e, h => by
    simp only [entsFrom, List.mem_cons] at h
    rcases h with rfl | h
    · exact ⟨0, rfl, rfl, rfl⟩
    · obtain ⟨k, h1, h2, h3⟩ := entsFrom_mem (i + 1) ms l e h
      exact ⟨k + 1, by omega, by simpa using h2, by simpa using h3⟩

theorem entsFrom_all : ∀ (i : Nat) (ms : List Nat) (l : List Oper), ms.length = l.length → ∀ k, k < l.length → ∃ e ∈ entsFrom i ms l, e.i = i + k
  | i, [], [], _, k, h => by simp at h
  | i, m :: ms, o :: l, hl, 0, h => ⟨⟨i, o, m⟩, by simp [entsFrom], rfl⟩
  | i, m :: ms, o :: l, hl, k + 1, h => by
    obtain ⟨e, h1, h2⟩ := entsFrom_all (i + 1) ms l (by simpa using hl) k (by simpa using h)
    exact ⟨e, by simp [entsFrom, h1], by omega⟩
  | i, [], _ :: _, hl, _, _ => by simp at hl
  | i, _ :: _, [], hl, _, _ => by simp at hl

theorem allPairs_spec {E : Env} {all : List Oper} : ∀ (l : List Ent), allPairs E all l = true → ∀ (x y : Nat) (e f : Ent), x < y → l[x]? = some e → l[y]? = some f → pairOk E all e f = true := by
  intro l
  induction l with
  | nil => intro _ x y e f _ h _; simp at h
  | cons p l ih =>
    intro h x y e f hxy he hf
    simp only [allPairs, Bool.and_eq_true] at h
    cases y with
    | zero => omega
    | succ y =>
      rw [List.getElem?_cons_succ] at hf
      cases x with
      | zero =>
        rw [List.getElem?_cons_zero] at he
        cases he
        exact List.all_eq_true.1 h.1 f (List.mem_of_getElem? hf)
      | succ x =>
        rw [List.getElem?_cons_succ] at he
        exact ih h.2 x y e f (by omega) he hf

/-- what a plan says. -/
structure Plan (E : Env) (ops : List Oper) (l : List Ent) : Prop where
  len : l.length = ops.length
  at_ : ∀ e ∈ l, ops[e.i]? = some e.o ∧ (masks [] ops)[e.i]? = some e.mask
  all : ∀ k, k < ops.length → ∃ (x : Nat) (e : Ent), l[x]? = some e ∧ e.i = k
  low : ∀ k o, ops[k]? = some o → ∀ d ∈ depsOf o, d < k
  pair : ∀ (x y : Nat) (e f : Ent), x < y → l[x]? = some e → l[y]? = some f → pairOk E ops e f = true

theorem plan_some {E : Env} {ops : List Oper} {l : List Ent} {needs : List (Nat × Nat)} (h : plan E ops = some (l, needs)) : Plan E ops l ∧ needs = needsOf E l := by
  unfold plan at h
  simp only at h
  generalize hl : ordered (entsFrom 0 (masks [] ops) ops) = l' at h
  cases hb : (Nat.beq l'.length ops.length && l'.all (fun e => (depsOf e.o).all fun d => Nat.blt d e.i) && allPairs E ops l') with
  | false => simp [hb] at h
  | true =>
    simp only [hb, cond_true, Option.some.injEq, Prod.mk.injEq] at h
    obtain ⟨rfl, rfl⟩ := h
    simp only [Bool.and_eq_true] at hb
    obtain ⟨⟨b1, b2⟩, b3⟩ := hb
    have hmem : ∀ e, e ∈ l' ↔ e ∈ entsFrom 0 (masks [] ops) ops := by
      intro e
      rw [← hl, ordered, List.mem_append, List.mem_filter, List.mem_filter]
      constructor
      · rintro (h | h) <;> exact h.1
      · intro h
        rcases Bool.eq_false_or_eq_true (loose e) with hlo | hlo
        · exact .inl ⟨h, hlo⟩
        · exact .inr ⟨h, by rw [hlo]; rfl⟩
    have hat : ∀ e ∈ l', ops[e.i]? = some e.o ∧ (masks [] ops)[e.i]? = some e.mask := by
      intro e he
      obtain ⟨k, h1, h2, h3⟩ := entsFrom_mem _ _ _ _ ((hmem e).1 he)
      rw [Nat.zero_add] at h1
      rw [h1]
      exact ⟨h2, h3⟩
    have hall : ∀ k, k < ops.length → ∃ (x : Nat) (e : Ent), l'[x]? = some e ∧ e.i = k := by
      intro k hk
      obtain ⟨e, h1, h2⟩ := entsFrom_all 0 (masks [] ops) ops (by rw [masks_len]; simp) k hk
      obtain ⟨x, hx⟩ := List.getElem?_of_mem ((hmem e).2 h1)
      exact ⟨x, e, hx, by omega⟩
    refine ⟨⟨Nat.eq_of_beq_eq_true b1, hat, hall, ?_, allPairs_spec l' b3⟩, rfl⟩
    intro k o ho d hd
    have hk : k < ops.length := by
      rcases Nat.lt_or_ge k ops.length with h | h
      · exact h
      · rw [List.getElem?_eq_none h] at ho; cases ho
    obtain ⟨x, e, h1, h2⟩ := hall k hk
    have he := List.mem_of_getElem? h1
    have := List.all_eq_true.1 b2 e he
    have e2 := (hat e he).1
    rw [h2, ho] at e2
    cases e2
    have := List.all_eq_true.1 this d hd
    rw [h2] at this
    simpa [Nat.blt_eq] using this

/-! ## The trace -/

theorem trace_len {E : Env} {call : CallFn} {all : List Oper} : ∀ (l : List Ent) (a : Act) (tr : List Act), trace E call all l a = some tr → tr.length = l.length + 1 ∧ tr[0]? = some a
  | [], a, tr, h => by simp only [trace, Option.some.injEq] at h; subst h; exact ⟨rfl, rfl⟩
  | e :: l, a, tr, h => by
    simp only [trace] at h
    split at h
    · cases h
    · rename_i k a' hs
      cases hc : (isEff E e.o.op || Nat.beq k 0 || (Nat.beq k 1 && isAl e.o.op)) with
      | false => simp [hc] at h
      | true =>
        simp only [hc, cond_true] at h
        split at h
        · cases h
        · rename_i r hr
          cases h
          obtain ⟨h1, h2⟩ := trace_len l a' r hr
          exact ⟨by simp [h1], rfl⟩

theorem trace_step {E : Env} {call : CallFn} {all : List Oper} : ∀ (l : List Ent) (a : Act) (tr : List Act), trace E call all l a = some tr → ∀ (x : Nat) (e : Ent), l[x]? = some e →
    ∃ ax ax' k, tr[x]? = some ax ∧ tr[x + 1]? = some ax' ∧ stepOp E call all ax e.o = some (k, ax') ∧ (isEff E e.o.op = true ∨ k = 0 ∨ (k = 1 ∧ isAl e.o.op = true))
  | [], a, tr, h, x, e, he => by simp at he
  | p :: l, a, tr, h, x, e, he => by
    simp only [trace] at h
    split at h
    · cases h
    · rename_i k a' hs
      cases hc : (isEff E p.o.op || Nat.beq k 0 || (Nat.beq k 1 && isAl p.o.op)) with
      | false => simp [hc] at h
      | true =>
        simp only [hc, cond_true] at h
        split at h
        · cases h
        · rename_i r hr
          cases h
          cases x with
          | zero =>
            obtain rfl : p = e := by simpa using he
            obtain ⟨h1, h2⟩ := trace_len l a' r hr
            refine ⟨a, a', k, rfl, by simpa using h2, hs, ?_⟩
            simp only [Bool.or_eq_true, Bool.and_eq_true] at hc
            rcases hc with (h | h) | h
            · exact .inl h
            · exact .inr (.inl (Nat.eq_of_beq_eq_true h))
            · exact .inr (.inr ⟨Nat.eq_of_beq_eq_true h.1, h.2⟩)
          | succ x =>
            obtain ⟨ax, ax', k', h1, h2, h3, h4⟩ := trace_step l a' r hr x e (by simpa using he)
            exact ⟨ax, ax', k', by simpa using h1, by simpa using h2, h3, h4⟩

theorem last_eq : ∀ (tr : List Act), last tr = tr[tr.length - 1]?
  | [] => rfl
  | [a] => rfl
  | a :: b :: l => by simp only [last]; rw [last_eq (b :: l)]; simp

end Go.Ev
