/- Part of an evaluator for closed runs, and of its proof (EvShut). -/
import Derived.Test.YtihokakelnfdgaaDoorEvLaid
namespace Go.Ev
open Go.RowKit
set_option linter.unusedVariables false
set_option linter.unusedSectionVars false

/-- a closed run where nothing is known ahead. -/
theorem closed {E : Env} {gs : List (Option (Nat × TypeId × List Value))} (hE : ∀ [Sym], EnvOk E gs.length) (hk : E.known = []) (hgs : gs.length ≤ 1000000000) {n f : Nat} {args : List Value} {v : Value} (h : back (call E n f args (startMem gs)) = some v) (ha : args.all plainV = true) (hv : plainV v = true) {w : World} (hw : Fits gs w) :
    Calls E.P f ⟨args⟩ w fun e w' => e = .returned v ∧ Below w.heap.size w w' :=
  letI : Sym := ⟨fun _ => none⟩
  closed_at hE hgs h ha hv hw (known_none hk w)

variable [Sym]

theorem bytesSame_eq {a b : Value} (h : bytesSame a b = true) : a = b := by
  unfold bytesSame at h
  split at h
  · rw [eq_of_beq h]
  · simp only [Bool.and_eq_true, decide_eq_true_eq] at h; rw [h.1, h.2]
  · rw [bytesEq_eq] at h; rw [eq_of_beq h]
  · rw [Nat.eq_of_beq_eq_true h]
  · cases h

theorem argsSame_eq : ∀ {a b : List Value}, argsSame a b = true → a = b
  | [], [], _ => rfl
  | [], _ :: _, h => by simp [argsSame] at h
  | _ :: _, [], h => by simp [argsSame] at h
  | a :: l, b :: r, h => by
    simp only [argsSame, Bool.and_eq_true] at h
    rw [bytesSame_eq h.1, argsSame_eq h.2]

theorem factOf_mem {op : BinOp} {x y r : Value} : ∀ {l : List (BinOp × Value × Value × Value)}, factOf l op x y = some r → (op, x, y, r) ∈ l
  | [], h => by simp [factOf] at h
  | (op', x', y', r') :: l, h => by
    simp only [factOf] at h
    cases hb : decide (op' = op) && (bytesSame x' x && bytesSame y' y) with
    | false => rw [hb] at h; exact List.mem_cons_of_mem _ (factOf_mem h)
    | true =>
      rw [hb] at h
      cases h
      simp only [Bool.and_eq_true, decide_eq_true_eq] at hb
      obtain ⟨rfl, h1, h2⟩ := hb
      rw [bytesSame_eq h1, bytesSame_eq h2]
      exact List.mem_cons_self

theorem knownOf_mem {f : Nat} {args : List Value} {v : Value} : ∀ {l : List (Nat × List Value × Value)}, knownOf l f args = some v → (f, args, v) ∈ l
  | [], h => by simp [knownOf] at h
  | (g, as, u) :: l, h => by
    simp only [knownOf] at h
    cases hb : Nat.beq g f && argsSame as args with
    | false => rw [hb] at h; exact List.mem_cons_of_mem _ (knownOf_mem h)
    | true =>
      rw [hb] at h
      cases h
      simp only [Bool.and_eq_true] at hb
      rw [Nat.eq_of_beq_eq_true hb.1, argsSame_eq hb.2]
      exact List.mem_cons_self

/-- what a sign, or a value without addresses, stands for. -/
def Stands (x u : Value) : Prop := (∃ n, x = .chan (some n) ∧ Sym.val n = some u ∧ tokOk u = true) ∨ (x = u ∧ plainV u = true)

theorem Stands.plain {x u : Value} (h : Stands x u) : plainV u = true := by
  rcases h with ⟨n, _, _, h⟩ | ⟨_, h⟩
  · cases u <;> first | rfl | (simp [tokOk] at h)
  · exact h

theorem Stands.only {x u : Value} (h : Stands x u) {φ : Phi} {x' : Value} (hx : VR φ x x') : x' = u := by
  rcases h with ⟨n, rfl, hn, _⟩ | ⟨rfl, h⟩
  · cases hx with
    | tok _ h1 _ => exact Option.some.inj (h1.symm.trans hn)
  · exact hx.plain_eq h

theorem Stands.rel {x u : Value} (h : Stands x u) (φ : Phi) : VR φ x u := by
  rcases h with ⟨n, rfl, hn, ho⟩ | ⟨rfl, h⟩
  · exact .tok n hn ho
  · exact VR.plain _ h

theorem Stands.tok {n : Nat} {u : Value} (h : Sym.val n = some u) (ho : tokOk u = true) : Stands (.chan (some n)) u := .inl ⟨n, rfl, h, ho⟩
theorem Stands.val {u : Value} (h : plainV u = true) : Stands u u := .inr ⟨rfl, h⟩

inductive StandsL : List Value → List Value → Prop where
  | nil : StandsL [] []
  | cons {x u : Value} {l r : List Value} (h : Stands x u) (hl : StandsL l r) : StandsL (x :: l) (u :: r)

theorem StandsL.only {φ : Phi} : ∀ {l r l' : List Value}, StandsL l r → VRs φ l l' → l' = r
  | _, _, _, .nil, .nil => rfl
  | _, _, _, .cons h hl, .cons h' hl' => by rw [h.only h', StandsL.only hl hl']

theorem StandsL.rel (φ : Phi) : ∀ {l r : List Value}, StandsL l r → VRs φ l r
  | _, _, .nil => .nil
  | _, _, .cons h hl => .cons (h.rel φ) (StandsL.rel φ hl)

/-- the facts of a list, one by one. -/
theorem facts_of {E : Env} (h : ∀ q ∈ E.facts, ∃ u v, Stands q.2.1 u ∧ Stands q.2.2.1 v ∧ ∀ m t, binOp0 E m q.1 t u v = some q.2.2.2) :
    ∀ op x y r, factOf E.facts op x y = some r → ∃ u v, (∀ φ x', VR φ x x' → x' = u) ∧ (∀ φ y', VR φ y y' → y' = v) ∧ plainV u = true ∧ plainV v = true ∧ ∀ m t, binOp0 E m op t u v = some r := by
  intro op x y r hf
  obtain ⟨u, v, h1, h2, h3⟩ := h _ (factOf_mem hf)
  exact ⟨u, v, fun φ x' hx => h1.only hx, fun φ y' hy => h2.only hy, h1.plain, h2.plain, h3⟩

/-- the known calls of a list, one by one. -/
theorem known_of {E : Env} {w0 : World} (h : ∀ q ∈ E.known, (∃ fn, E.funcs.get q.1 = some fn ∧ fn.body.isSome = true) ∧ ∃ us v, StandsL q.2.1 us ∧ (∀ φ, VR φ q.2.2 v) ∧ ∀ w, Below w0.heap.size w0 w → Calls E.P q.1 ⟨us⟩ w fun e w' => e = .returned v ∧ Below w.heap.size w w') : KnownOk E w0 := by
  intro f args v hf
  obtain ⟨h1, us, u, h2, h3, h4⟩ := h _ (knownOf_mem hf)
  refine ⟨h1, fun φ args' w hr hw => ?_⟩
  rw [h2.only hr]
  exact (h4 w hw).mono fun e w' ⟨he, hb⟩ => ⟨u, he, h3 φ, hb⟩

end Go.Ev
