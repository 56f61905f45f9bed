/- Part of an evaluator for closed runs, and of its proof (EvUse). -/
import Derived.Test.YtihokakelnfdgaaDoorEvG5
namespace Go.Ev
open Go.RowKit
set_option linter.unusedVariables false
set_option linter.unusedSectionVars false
variable [Sym]

/-- things laid from i on, but for those that are left out. -/
def layFrom {α : Type} (c : Tree α) (i : Nat) : List (Option α) → Tree α
  | [] => c
  | some v :: l => layFrom (c.set D i v) (i + 1) l
  | none :: l => layFrom c (i + 1) l

theorem get_layFrom {α : Type} : ∀ (l : List (Option α)) (c : Tree α) (i j : Nat) (x : α), i + l.length ≤ 2000000000 →
    (layFrom c i l).get j = some x → (i ≤ j ∧ l[j - i]? = some (some x)) ∨ c.get j = some x
  | [], c, i, j, x, _, h => .inr h
  | some v :: l, c, i, j, x, hl, h => by
    simp only [List.length_cons] at hl
    simp only [layFrom] at h
    rcases get_layFrom l _ _ _ _ (by omega) h with ⟨h1, h2⟩ | h
    · refine .inl ⟨by omega, ?_⟩
      rw [show j - i = (j - (i + 1)) + 1 by omega]
      simpa using h2
    · by_cases hij : i = j
      · subst hij
        rw [get_set_D _ _ _ (by omega)] at h
        refine .inl ⟨Nat.le_refl _, ?_⟩
        simpa using h
      · rw [Tree.get_set_other _ _ _ _ _ hij] at h
        exact .inr h
  | none :: l, c, i, j, x, hl, h => by
    simp only [List.length_cons] at hl
    simp only [layFrom] at h
    rcases get_layFrom l _ _ _ _ (by omega) h with ⟨h1, h2⟩ | h
    · refine .inl ⟨by omega, ?_⟩
      rw [show j - i = (j - (i + 1)) + 1 by omega]
      simpa using h2
    · exact .inr h

theorem get_lay {α : Type} {l : List (Option α)} (h : l.length ≤ 2000000000) {j : Nat} {x : α} (hx : (layFrom .leaf 0 l).get j = some x) : l[j]? = some (some x) := by
  rcases get_layFrom _ _ _ _ _ (by omega) hx with ⟨_, h2⟩ | h2
  · simpa using h2
  · rw [Tree.get_leaf] at h2; cases h2

/-- those that pass. -/
def pass {α : Type} (f : α → Bool) (l : List α) : List (Option α) := l.map fun x => bif f x then some x else none

theorem get_pass {α : Type} {f : α → Bool} {l : List α} (h : l.length ≤ 2000000000) {j : Nat} {x : α} (hx : (layFrom .leaf 0 (pass f l)).get j = some x) : l[j]? = some x ∧ f x = true := by
  have := get_lay (by simpa [pass] using h) hx
  unfold pass at this
  rw [List.getElem?_map] at this
  cases hl : l[j]? with
  | none => rw [hl] at this; cases this
  | some y =>
    rw [hl] at this
    simp only [Option.map_some, Option.some.injEq] at this
    cases hf : f y with
    | false => rw [hf] at this; cases this
    | true => rw [hf] at this; cases this; exact ⟨rfl, hf⟩

def fnOk (G : Nat) (fn : Func) : Bool := !(fn.name == "runtime.NumGoroutine") && (match fn.body with | some c => codeOk G c | none => true)
def zeroOk (i : TypeInfo) : Bool := match i.zero with | some z => plainV z | none => true
def eqOk (P : Program) (t : TypeId) : Bool := !(P.stoodInHeld t) && !(P.eqGuardType P.depth t)

/-- what a program must be that the evaluator may speak of it: closed facts. -/
theorem envOk_of {E : Env} {G : Nat} {ts : List TypeInfo} {fs : List Func} (hts : E.P.types.toList = ts) (hfs : E.P.funcs.toList = fs) (hT : E.types = layFrom .leaf 0 (pass zeroOk ts)) (hF : E.funcs = layFrom .leaf 0 (pass (fnOk G) fs))
    (hTl : ts.length ≤ 2000000000) (hFl : fs.length ≤ 2000000000) (he : E.eqs.all (eqOk E.P) = true) (hm : E.P.follows .mixedOrders = true)
    (hfa : ∀ op x y r, factOf E.facts op x y = some r → ∃ u v, (∀ φ x', VR φ x x' → x' = u) ∧ (∀ φ y', VR φ y y' → y' = v) ∧ plainV u = true ∧ plainV v = true ∧ ∀ m t, binOp0 E m op t u v = some r) : EnvOk E G where
  facts := hfa
  types := fun t i h => by
    rw [hT] at h
    have := (get_pass hTl h).1
    rw [← hts] at this
    have this2 : E.P.types[t]? = some i := by simpa using this
    have hlt : t < E.P.types.size := (Array.getElem?_eq_some_iff.1 this2).1
    unfold Tables.info?
    rw [if_pos hlt]
    exact this2
  funcs := fun f fn h => by
    rw [hF] at h
    obtain ⟨h1, h2⟩ := get_pass hFl h
    simp only [fnOk, Bool.and_eq_true, Bool.not_eq_true'] at h2
    refine ⟨by rw [← hfs] at h1; simpa using h1, h2.1, fun c hc => ?_⟩
    have h3 := h2.2
    rw [hc] at h3
    exact h3
  eqs := fun t h => by
    obtain ⟨u, hu, htu⟩ := List.any_eq_true.1 h
    obtain rfl : t = u := Nat.eq_of_beq_eq_true htu
    have := List.all_eq_true.1 he t hu
    simp only [eqOk, Bool.and_eq_true, Bool.not_eq_true'] at this
    exact this
  mixed := hm
  zeros := fun t z h => by
    unfold Env.zero at h
    split at h
    · cases h
    · rename_i i hi
      unfold Env.ti at hi
      rw [hT] at hi
      have := (get_pass hTl hi).2
      unfold zeroOk at this
      rw [h] at this
      exact this

/-! ## Values without addresses -/
theorem VR.cell_eq {φ : Phi} {v v' : Value} (h : VR φ v v') (hp : Ev.plainCell v = true) : v' = v := by
  cases h <;> first | rfl | (simp [Ev.plainCell] at hp)

theorem VRs.plain_eq {φ : Phi} : ∀ {l l' : List Value}, VRs φ l l' → l.all Ev.plainCell = true → l' = l
  | _, _, .nil, _ => rfl
  | _, _, .cons h hl, hp => by
    simp only [List.all_cons, Bool.and_eq_true] at hp
    rw [VR.cell_eq h hp.1, VRs.plain_eq hl hp.2]

theorem VR.plain_eq {φ : Phi} {v v' : Value} (h : VR φ v v') (hp : Ev.plainV v = true) : v' = v := by
  cases h with
  | agg hl => rw [VRs.plain_eq hl hp]
  | tuple hl => rw [VRs.plain_eq hl hp]
  | bool b => rfl
  | int k n => rfl
  | float k n => rfl
  | complex k n m => rfl
  | string s => rfl
  | pnil => rfl
  | snil n c => rfl
  | mnil => rfl
  | cnil => rfl
  | nilFunc => rfl
  | nilIface => rfl
  | _ => simp [Ev.plainV, Ev.plainCell] at hp

theorem VRs.plains_eq {φ : Phi} : ∀ {l l' : List Value}, VRs φ l l' → l.all Ev.plainV = true → l' = l
  | _, _, .nil, _ => rfl
  | _, _, .cons h hl, hp => by
    simp only [List.all_cons, Bool.and_eq_true] at hp
    rw [VR.plain_eq h hp.1, VRs.plains_eq hl hp.2]

theorem VRs.plainV {φ : Phi} : ∀ (l : List Value), l.all Ev.plainV = true → VRs φ l l
  | [], _ => .nil
  | v :: l, h => by
    simp only [List.all_cons, Bool.and_eq_true] at h
    exact .cons (VR.plain v h.1) (VRs.plainV l h.2)

/-! ## The start -/

/-- the memory at the start: package-level variables that are told, and others that are not looked at. -/
def startMem : List (Option (Nat × TypeId × List Value)) → Mem
  | gs => { t := layFrom .leaf 0 (gs.map fun | some (n, e, l) => some (.cells n (ofListFrom .leaf 0 l) e 1) | none => some .dead), next := gs.length }

/-- a world that fits it. -/
def Fits (gs : List (Option (Nat × TypeId × List Value))) (w : World) : Prop :=
  gs.length ≤ w.heap.size ∧ ∀ (g n : Nat) (e : TypeId) (l : List Value), gs[g]? = some (some (n, e, l)) → ∃ (c : Array Value) (fr : Nat × Nat), w.heap[g]? = some (Obj.cells c e fr) ∧ n ≤ c.size ∧ l.length ≤ 1000000000 ∧ n ≤ l.length ∧ l.all plainCell = true ∧ ∀ i, i < n → c[i]? = l[i]?

theorem Fits.below {gs : List (Option (Nat × TypeId × List Value))} {w w' : World} {B : Nat} (h : Fits gs w) (hb : Below B w w') (hB : gs.length ≤ B) : Fits gs w' := by
  refine ⟨Nat.le_trans h.1 hb.size, fun g n e l hg => ?_⟩
  have hlt : g < gs.length := (List.getElem?_eq_some_iff.1 hg).1
  rw [hb.block g (by omega)]
  exact h.2 g n e l hg

theorem startMem_rel {P : Program} {gs : List (Option (Nat × TypeId × List Value))} {w : World} (hgs : gs.length ≤ 1000000000) (h : Fits gs w) :
    Rel P gs.length w ⟨fun b => if b < gs.length then some b else none, fun _ => 0⟩ (startMem gs) w := by
  have hget : ∀ b o, (startMem gs).get b = some o → b < gs.length ∧ ((o = .dead) ∨ ∃ n e l, gs[b]? = some (some (n, e, l)) ∧ o = .cells n (ofListFrom .leaf 0 l) e 1) := by
    intro b o hb
    have := get_lay (by rw [List.length_map]; omega) (show (layFrom .leaf 0 (gs.map fun | some (n, e, l) => some (AObj.cells n (ofListFrom .leaf 0 l) e 1) | none => some .dead)).get b = some o from hb)
    rw [List.getElem?_map] at this
    cases hg : gs[b]? with
    | none => rw [hg] at this; cases this
    | some x =>
      rw [hg] at this
      refine ⟨(List.getElem?_eq_some_iff.1 hg).1, ?_⟩
      simp only [Option.map_some, Option.some.injEq] at this
      cases x with
      | none => exact .inl (Option.some.inj this).symm
      | some y => obtain ⟨n, e, l⟩ := y; exact .inr ⟨n, e, l, rfl, (Option.some.inj this).symm⟩
  have hphi : ∀ b b', (⟨fun b => if b < gs.length then some b else none, fun _ => 0⟩ : Phi) b = some b' → b' = b ∧ b < gs.length := by
    intro b b' hb
    have hb' : (if b < gs.length then some b else none) = some b' := hb
    split at hb'
    · cases hb'; exact ⟨rfl, by assumption⟩
    · cases hb'
  refine ⟨fun g hg => if_pos hg, fun b b' hb => ?_, fun b o b' ho hb => ?_, fun b₁ b₂ o₁ o₂ b' _ _ _ _ h1 h2 => ?_, fun b o b' ho hr hb => ?_, fun b o ho => (hget b o ho).1, Below.refl _ _⟩
  · obtain ⟨rfl, hlt⟩ := hphi b b' hb
    exact ⟨hlt, Nat.lt_of_lt_of_le hlt h.1⟩
  · obtain ⟨rfl, hlt⟩ := hphi b b' hb
    rcases (hget _ o ho).2 with rfl | ⟨n, e, l, hg, rfl⟩
    · trivial
    · obtain ⟨c, fr, h1, h2, h3, h4, h5, h6⟩ := h.2 _ n e l hg
      refine ⟨c, fr, h1, h2, fun i hi => ?_, fun hk => absurd hk (by decide), fun hk => absurd rfl hk⟩
      have hi' : i < l.length := by omega
      have e1 : l[i]? = some l[i] := List.getElem?_eq_getElem hi'
      refine ⟨l[i], l[i], ?_, (h6 i hi).trans e1, VR.plainCell _ (List.all_eq_true.1 h5 _ (List.getElem_mem hi'))⟩
      rw [get_ofListFrom _ _ _ _ (by omega), if_pos (by omega), Nat.sub_zero]
      exact e1
  · obtain ⟨rfl, _⟩ := hphi _ _ h1
    obtain ⟨rfl, _⟩ := hphi _ _ h2
    rfl
  · rcases (hget b o ho).2 with rfl | ⟨n, e, l, hg, rfl⟩ <;> cases hr

/-- what a call gives back. -/
def back : Option (Value × Mem) → Option Value
  | some (v, _) => some v
  | none => none

/-- a closed run; the arguments may be signs. -/
theorem closed_args {E : Env} {gs : List (Option (Nat × TypeId × List Value))} (hE : EnvOk E gs.length) (hgs : gs.length ≤ 1000000000) {n f : Nat} {args args' : List Value} {v : Value} (h : back (call E n f args (startMem gs)) = some v) (ha : ∀ φ, VRs φ args args') {w : World} (hw : Fits gs w) (hKn : KnownOk E w) :
    Calls E.P f ⟨args'⟩ w fun e w' => ∃ φ v', e = .returned v' ∧ VR φ v v' ∧ Below w.heap.size w w' := by
  cases hc : call E n f args (startMem gs) with
  | none => rw [hc] at h; cases h
  | some r =>
    obtain ⟨v1, m'⟩ := r
    rw [hc] at h
    cases h
    obtain ⟨_, hcalls⟩ := (ev_sound (w0 := w) hE hKn n).2.2.1 f args args' (startMem gs) m' v _ w hc (ha _) (startMem_rel hgs hw)
    refine hcalls.mono fun e w' he => ?_
    obtain ⟨φ', v', rfl, _, hv', hr⟩ := he
    exact ⟨φ', v', rfl, hv', hr.below⟩

/-- a closed run. -/
theorem closed_at {E : Env} {gs : List (Option (Nat × TypeId × List Value))} (hE : EnvOk E gs.length) (hgs : gs.length ≤ 1000000000) {n f : Nat} {args : List Value} {v : Value} (h : back (call E n f args (startMem gs)) = some v) (ha : args.all plainV = true) (hv : plainV v = true) {w : World} (hw : Fits gs w) (hKn : KnownOk E w) :
    Calls E.P f ⟨args⟩ w fun e w' => e = .returned v ∧ Below w.heap.size w w' := by
  refine (closed_args hE hgs h (fun φ => VRs.plainV args ha) hw hKn).mono fun e w' he => ?_
  obtain ⟨φ', v', rfl, hv', hb⟩ := he
  rw [hv'.plain_eq hv]
  exact ⟨rfl, hb⟩

/-- nothing is known ahead. -/
theorem known_none {E : Env} (hk : E.known = []) (w : World) : KnownOk E w := fun f args v hf => by rw [hk] at hf; cases hf

/-- what is known of one call without signs. -/
theorem known_plain {E : Env} {w0 : World} {f : Nat} {args : List Value} {v : Value} (ha : args.all plainV = true) (hv : plainV v = true) (h : ∀ w, Below w0.heap.size w0 w → Calls E.P f ⟨args⟩ w fun e w' => e = .returned v ∧ Below w.heap.size w w') :
    ∀ φ args' w, VRs φ args args' → Below w0.heap.size w0 w → Calls E.P f ⟨args'⟩ w fun e w' => ∃ v', e = .returned v' ∧ VR φ v v' ∧ Below w.heap.size w w' := by
  intro φ args' w hr hw
  rw [hr.plains_eq ha]
  exact (h w hw).mono fun e w' ⟨he, hb⟩ => ⟨v, he, VR.plain v hv, hb⟩

end Go.Ev
