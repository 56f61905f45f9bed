/- Part of a verified evaluator of the model's programs and of runs by it: EvUse EvLaid EvShut EvSym EvMono EvWp EvOps EvRow EvApp EvCut EvGo. -/
import Derived.Test.YtihokakelnfdgaaDoorEvG
import Derived.OpenShut
import Derived.LaidMore
import Derived.Test.YtihokakelnfdgaaDoorEvA
namespace Go.Ev
set_option linter.unusedSimpArgs false
open Go.RowKit
set_option linter.unusedVariables false
set_option linter.unusedSectionVars false
variable [Sym]

/-- things laid from i on, but for those that are left out. -/
def layFrom {α : Type} (c : Tree α) (i : Nat) : List (Option α) → Tree α
 | [] => c
 | some v :: l => layFrom (c.set D i v) (i + 1) l
 | none :: l => layFrom c (i + 1) l

theorem get_layFrom {α : Type} : ∀ (l : List (Option α)) (c : Tree α) (i j : Nat) (x : α), i + l.length ≤ 2000000000 →
  (layFrom c i l).get j = some x → (i ≤ j ∧ l[j - i]? = some (some x)) ∨ c.get j = some x
 | [], c, i, j, x, _, h => .inr h
 | some v :: l, c, i, j, x, hl, h => by
  simp only [List.length_cons] at hl
  simp only [layFrom] at h
  rcases get_layFrom l _ _ _ _ (by omega) h with ⟨h1, h2⟩ | h
  ·refine .inl ⟨by omega, ?_⟩
   rw [show j - i = (j - (i + 1)) + 1 by omega]
   simpa using h2
  ·by_cases hij : i = j
   ·subst hij
    rw [get_set_D _ _ _ (by omega)] at h
    refine .inl ⟨Nat.le_refl _, ?_⟩
    simpa using h
   ·rw [Tree.get_set_other _ _ _ _ _ hij] at h
    exact .inr h
 | none :: l, c, i, j, x, hl, h => by
  simp only [List.length_cons] at hl
  simp only [layFrom] at h
  rcases get_layFrom l _ _ _ _ (by omega) h with ⟨h1, h2⟩ | h
  ·refine .inl ⟨by omega, ?_⟩
   rw [show j - i = (j - (i + 1)) + 1 by omega]
   simpa using h2
  ·exact .inr h

theorem get_lay {α : Type} {l : List (Option α)} (h : l.length ≤ 2000000000) {j : Nat} {x : α} (hx : (layFrom .leaf 0 l).get j = some x) : l[j]? = some (some x) := by
 rcases get_layFrom _ _ _ _ _ (by omega) hx with ⟨_, h2⟩ | h2
 ·simpa using h2
 ·rw [Tree.get_leaf] at h2; cases h2

/-- those that pass. -/
def pass {α : Type} (f : α → Bool) (l : List α) : List (Option α) := l.map fun x => bif f x then some x else none

theorem get_pass {α : Type} {f : α → Bool} {l : List α} (h : l.length ≤ 2000000000) {j : Nat} {x : α} (hx : (layFrom .leaf 0 (pass f l)).get j = some x) : l[j]? = some x ∧ f x = true := by
 have := get_lay (by simpa [pass] using h) hx
 unfold pass at this
 rw [List.getElem?_map] at this
 cases hl : l[j]? with
 | none => rw [hl] at this; cases this
 | some y =>
  rw [hl] at this
  simp only [Option.map_some, Option.some.injEq] at this
  cases hf : f y with
  | false => rw [hf] at this; cases this
  | true => rw [hf] at this; cases this; exact ⟨rfl, hf⟩

def fnOk (G : Nat) (fn : Func) : Bool := !(fn.name == "runtime.NumGoroutine") && (match fn.body with | some c => codeOk G c | none => true)
def zeroOk (i : TypeInfo) : Bool := match i.zero with | some z => plainV z | none => true
def eqOk (P : Program) (t : TypeId) : Bool := !(P.stoodInHeld t) && !(P.eqGuardType P.depth t)

/-- what a program must be that the evaluator may speak of it: closed facts. -/
theorem envOk_of {E : Env} {G : Nat} {ts : List TypeInfo} {fs : List Func} (hts : E.P.types.toList = ts) (hfs : E.P.funcs.toList = fs) (hT : E.types = layFrom .leaf 0 (pass zeroOk ts)) (hF : E.funcs = layFrom .leaf 0 (pass (fnOk G) fs))
  (hTl : ts.length ≤ 2000000000) (hFl : fs.length ≤ 2000000000) (he : E.eqs.all (eqOk E.P) = true) (hm : E.P.follows .mixedOrders = true)
  (hfa : ∀ op x y r, factOf E.facts op x y = some r → ∃ u v, (∀ φ x', VR φ x x' → x' = u) ∧ (∀ φ y', VR φ y y' → y' = v) ∧ plainV u = true ∧ plainV v = true ∧ ∀ m t, binOp0 E m op t u v = some r) : EnvOk E G where
 facts := hfa
 types := fun t i h => by
  rw [hT] at h
  have := (get_pass hTl h).1
  rw [← hts] at this
  have this2 : E.P.types[t]? = some i := by simpa using this
  have hlt : t < E.P.types.size := (Array.getElem?_eq_some_iff.1 this2).1
  unfold Tables.info?
  rw [if_pos hlt]
  exact this2
 funcs := fun f fn h => by
  rw [hF] at h
  obtain ⟨h1, h2⟩ := get_pass hFl h
  simp only [fnOk, Bool.and_eq_true, Bool.not_eq_true'] at h2
  refine ⟨by rw [← hfs] at h1; simpa using h1, h2.1, fun c hc => ?_⟩
  have h3 := h2.2
  rw [hc] at h3
  exact h3
 eqs := fun t h => by
  obtain ⟨u, hu, htu⟩ := List.any_eq_true.1 h
  obtain rfl : t = u := Nat.eq_of_beq_eq_true htu
  have := List.all_eq_true.1 he t hu
  simp only [eqOk, Bool.and_eq_true, Bool.not_eq_true'] at this
  exact this
 mixed := hm
 zeros := fun t z h => by
  unfold Env.zero at h
  split at h
  ·cases h
  ·rename_i i hi
   unfold Env.ti at hi
   rw [hT] at hi
   have := (get_pass hTl hi).2
   unfold zeroOk at this
   rw [h] at this
   exact this

/-! ## Values without addresses -/
theorem VR.cell_eq {φ : Phi} {v v' : Value} (h : VR φ v v') (hp : Ev.plainCell v = true) : v' = v := by
 cases h <;> first | rfl | (simp [Ev.plainCell] at hp)

theorem VRs.plain_eq {φ : Phi} : ∀ {l l' : List Value}, VRs φ l l' → l.all Ev.plainCell = true → l' = l
 | _, _, .nil, _ => rfl
 | _, _, .cons h hl, hp => by
  simp only [List.all_cons, Bool.and_eq_true] at hp
  rw [VR.cell_eq h hp.1, VRs.plain_eq hl hp.2]

theorem VR.plain_eq {φ : Phi} {v v' : Value} (h : VR φ v v') (hp : Ev.plainV v = true) : v' = v := by
 cases h with
 | agg hl => rw [VRs.plain_eq hl hp]
 | tuple hl => rw [VRs.plain_eq hl hp]
 | bool b => rfl
 | int k n => rfl
 | float k n => rfl
 | complex k n m => rfl
 | string s => rfl
 | pnil => rfl
 | snil n c => rfl
 | mnil => rfl
 | cnil => rfl
 | nilFunc => rfl
 | nilIface => rfl
 | _ => simp [Ev.plainV, Ev.plainCell] at hp

theorem VRs.plains_eq {φ : Phi} : ∀ {l l' : List Value}, VRs φ l l' → l.all Ev.plainV = true → l' = l
 | _, _, .nil, _ => rfl
 | _, _, .cons h hl, hp => by
  simp only [List.all_cons, Bool.and_eq_true] at hp
  rw [VR.plain_eq h hp.1, VRs.plains_eq hl hp.2]

theorem VRs.plainV {φ : Phi} : ∀ (l : List Value), l.all Ev.plainV = true → VRs φ l l
 | [], _ => .nil
 | v :: l, h => by
  simp only [List.all_cons, Bool.and_eq_true] at h
  exact .cons (VR.plain v h.1) (VRs.plainV l h.2)

/-! ## The start -/

/-- the memory at the start: package-level variables that are told, and others that are not looked at. -/
def startMem : List (Option (Nat × TypeId × List Value)) → Mem
 | gs => { t := layFrom .leaf 0 (gs.map fun | some (n, e, l) => some (.cells n (ofListFrom .leaf 0 l) e 1) | none => some .dead), next := gs.length }

/-- a world that fits it. -/
def Fits (gs : List (Option (Nat × TypeId × List Value))) (w : World) : Prop :=
 gs.length ≤ w.heap.size ∧ ∀ (g n : Nat) (e : TypeId) (l : List Value), gs[g]? = some (some (n, e, l)) → ∃ (c : Array Value) (fr : Nat × Nat), w.heap[g]? = some (Obj.cells c e fr) ∧ n ≤ c.size ∧ l.length ≤ 1000000000 ∧ n ≤ l.length ∧ l.all plainCell = true ∧ ∀ i, i < n → c[i]? = l[i]?

theorem Fits.below {gs : List (Option (Nat × TypeId × List Value))} {w w' : World} {B : Nat} (h : Fits gs w) (hb : Below B w w') (hB : gs.length ≤ B) : Fits gs w' := by
 refine ⟨Nat.le_trans h.1 hb.size, fun g n e l hg => ?_⟩
 have hlt : g < gs.length := (List.getElem?_eq_some_iff.1 hg).1
 rw [hb.block g (by omega)]
 exact h.2 g n e l hg

theorem startMem_rel {P : Program} {gs : List (Option (Nat × TypeId × List Value))} {w : World} (hgs : gs.length ≤ 1000000000) (h : Fits gs w) :
  Rel P gs.length w ⟨fun b => if b < gs.length then some b else none, fun _ => 0⟩ (startMem gs) w := by
 have hget : ∀ b o, (startMem gs).get b = some o → b < gs.length ∧ ((o = .dead) ∨ ∃ n e l, gs[b]? = some (some (n, e, l)) ∧ o = .cells n (ofListFrom .leaf 0 l) e 1) := by
  intro b o hb
  have := get_lay (by rw [List.length_map]; omega) (show (layFrom .leaf 0 (gs.map fun | some (n, e, l) => some (AObj.cells n (ofListFrom .leaf 0 l) e 1) | none => some .dead)).get b = some o from hb)
  rw [List.getElem?_map] at this
  cases hg : gs[b]? with
  | none => rw [hg] at this; cases this
  | some x =>
   rw [hg] at this
   refine ⟨(List.getElem?_eq_some_iff.1 hg).1, ?_⟩
   simp only [Option.map_some, Option.some.injEq] at this
   cases x with
   | none => exact .inl (Option.some.inj this).symm
   | some y => obtain ⟨n, e, l⟩ := y; exact .inr ⟨n, e, l, rfl, (Option.some.inj this).symm⟩
 have hphi : ∀ b b', (⟨fun b => if b < gs.length then some b else none, fun _ => 0⟩ : Phi) b = some b' → b' = b ∧ b < gs.length := by
  intro b b' hb
  have hb' : (if b < gs.length then some b else none) = some b' := hb
  split at hb'
  ·cases hb'; exact ⟨rfl, by assumption⟩
  ·cases hb'
 refine ⟨fun g hg => if_pos hg, fun b b' hb => ?_, fun b o b' ho hb => ?_, fun b₁ b₂ o₁ o₂ b' _ _ _ _ h1 h2 => ?_, fun b o b' ho hr hb => ?_, fun b o ho => (hget b o ho).1, Below.refl _ _⟩
 ·obtain ⟨rfl, hlt⟩ := hphi b b' hb
  exact ⟨hlt, Nat.lt_of_lt_of_le hlt h.1⟩
 ·obtain ⟨rfl, hlt⟩ := hphi b b' hb
  rcases (hget _ o ho).2 with rfl | ⟨n, e, l, hg, rfl⟩
  ·trivial
  ·obtain ⟨c, fr, h1, h2, h3, h4, h5, h6⟩ := h.2 _ n e l hg
   refine ⟨c, fr, ⟨_, h1, fun _ => rfl⟩, h2, fun i hi _ => ?_, fun hk => absurd hk (by decide), fun hk => absurd rfl hk⟩
   have hi' : i < l.length := by omega
   have e1 : l[i]? = some l[i] := List.getElem?_eq_getElem hi'
   refine ⟨l[i], l[i], ?_, (h6 i hi).trans e1, VR.plainCell _ (List.all_eq_true.1 h5 _ (List.getElem_mem hi'))⟩
   rw [get_ofListFrom _ _ _ _ (by omega), if_pos (by omega), Nat.sub_zero]
   exact e1
 ·obtain ⟨rfl, _⟩ := hphi _ _ h1
  obtain ⟨rfl, _⟩ := hphi _ _ h2
  rfl
 ·rcases (hget b o ho).2 with rfl | ⟨n, e, l, hg, rfl⟩ <;> cases hr

/-- what a call gives back. -/
def back : Option (Value × Mem) → Option Value
 | some (v, _) => some v
 | none => none

/-- a closed run; the arguments may be signs. -/
theorem closed_args {E : Env} {gs : List (Option (Nat × TypeId × List Value))} (hE : EnvOk E gs.length) (hgs : gs.length ≤ 1000000000) {n f : Nat} {args args' : List Value} {v : Value} (h : back (call E n f args (startMem gs)) = some v) (ha : ∀ φ, VRs φ args args') {w : World} (hw : Fits gs w) (hKn : KnownOk E w) :
  Calls E.P f ⟨args'⟩ w fun e w' => ∃ φ v', e = .returned v' ∧ VR φ v v' ∧ Below w.heap.size w w' := by
 cases hc : call E n f args (startMem gs) with
 | none => rw [hc] at h; cases h
 | some r =>
  obtain ⟨v1, m'⟩ := r
  rw [hc] at h
  cases h
  obtain ⟨_, hcalls⟩ := (ev_sound (w0 := w) hE hKn n).2.2.1 f args args' (startMem gs) m' v _ w hc (ha _) (startMem_rel hgs hw)
  refine hcalls.mono fun e w' he => ?_
  obtain ⟨φ', v', rfl, _, hv', hr⟩ := he
  exact ⟨φ', v', rfl, hv', hr.below⟩

/-- a closed run. -/
theorem closed_at {E : Env} {gs : List (Option (Nat × TypeId × List Value))} (hE : EnvOk E gs.length) (hgs : gs.length ≤ 1000000000) {n f : Nat} {args : List Value} {v : Value} (h : back (call E n f args (startMem gs)) = some v) (ha : args.all plainV = true) (hv : plainV v = true) {w : World} (hw : Fits gs w) (hKn : KnownOk E w) :
  Calls E.P f ⟨args⟩ w fun e w' => e = .returned v ∧ Below w.heap.size w w' := by
 refine (closed_args hE hgs h (fun φ => VRs.plainV args ha) hw hKn).mono fun e w' he => ?_
 obtain ⟨φ', v', rfl, hv', hb⟩ := he
 rw [hv'.plain_eq hv]
 exact ⟨rfl, hb⟩

/-- nothing is known ahead. -/
theorem known_none {E : Env} (hk : E.known = []) (w : World) : KnownOk E w := fun f args v hf => by rw [hk] at hf; cases hf

/-- what is known of one call without signs. -/
theorem known_plain {E : Env} {w0 : World} {f : Nat} {args : List Value} {v : Value} (ha : args.all plainV = true) (hv : plainV v = true) (h : ∀ w, Below w0.heap.size w0 w → Calls E.P f ⟨args⟩ w fun e w' => e = .returned v ∧ Below w.heap.size w w') :
  ∀ φ args' w, VRs φ args args' → Below w0.heap.size w0 w → Calls E.P f ⟨args'⟩ w fun e w' => ∃ v', e = .returned v' ∧ VR φ v v' ∧ Below w.heap.size w w' := by
 intro φ args' w hr hw
 rw [hr.plains_eq ha]
 exact (h w hw).mono fun e w' ⟨he, hb⟩ => ⟨v, he, VR.plain v hv, hb⟩

end Go.Ev

namespace Go.Ev
set_option linter.unusedSimpArgs false
open Go.RowKit
set_option linter.unusedVariables false
set_option linter.unusedSectionVars false
variable [Sym]

section
variable {H : Type} {enc : TypeId × Value → H} {P : Program} {w : World} {base : Nat} {spare : Nat → Bool} {held : Bool} {fuel n : Nat} {t e : TypeId} {cs : List Value} {x : DataW H × List MemPlace}

/-- a row of strings that is told. -/
theorem cells_strings (ht : P.underlying t = some (.array n e)) (he : P.underlying e = some .string) (ce : P.cellsOf e = 1) (h : DataW.trod enc P w base spare held fuel t cs = some x) {bs : List (List UInt8)} (hx : x.1 = .agg (bs.map fun b => .lit (.string b))) (hn : bs.length = n) :
  cs.length = P.cellsOf t ∧ ∀ i, i < n → cs[i]? = (bs.map fun l => Value.string ⟨⟨l⟩⟩)[i]? := by
 obtain ⟨xs, m1, rfl, rfl, hlen, hxn, hel⟩ := DataW.trod_array ht h
 simp only [DataW.agg.injEq] at hx
 refine ⟨hlen, fun i hi => ?_⟩
 have h1 := hel i hi
 rw [ce, Nat.mul_one] at h1
 have hxi : xs[i]? = some xs[i] := List.getElem?_eq_getElem (by omega)
 rw [hxi] at h1
 obtain ⟨s, e1, e2, _⟩ := DataW.trod_string he h1
 have e3 : cs[i]? = some (.string s) := by
  have := congrArg (·[0]?) e1
  simp only [List.getElem?_take, List.getElem?_drop] at this
  simpa using this
 have e4 := congrArg (·[i]?) hx
 simp only [List.getElem?_map, hxi, Option.map_some, e2] at e4
 rw [e3, List.getElem?_map]
 cases hb : bs[i]? with
 | none => rw [hb] at e4; cases e4
 | some b =>
  rw [hb] at e4
  simp only [Option.map_some, Option.some.injEq, DataW.lit.injEq, Lit.string.injEq] at e4
  subst e4
  rfl

/-- a row of integers that is told. -/
theorem cells_ints {k : IntKind} (ht : P.underlying t = some (.array n e)) (he : P.underlying e = some (.int k)) (ce : P.cellsOf e = 1) (h : DataW.trod enc P w base spare held fuel t cs = some x) {bs : List Int} (hx : x.1 = .agg (bs.map fun b => .lit (.int k b))) (hn : bs.length = n) :
  cs.length = P.cellsOf t ∧ ∀ i, i < n → cs[i]? = (bs.map fun l => Value.int k l)[i]? := by
 obtain ⟨xs, m1, rfl, rfl, hlen, hxn, hel⟩ := DataW.trod_array ht h
 simp only [DataW.agg.injEq] at hx
 refine ⟨hlen, fun i hi => ?_⟩
 have h1 := hel i hi
 rw [ce, Nat.mul_one] at h1
 have hxi : xs[i]? = some xs[i] := List.getElem?_eq_getElem (by omega)
 rw [hxi] at h1
 obtain ⟨s, e1, e2, _⟩ := DataW.trod_int he h1
 have e3 : cs[i]? = some (.int k s) := by
  have := congrArg (·[0]?) e1
  simp only [List.getElem?_take, List.getElem?_drop] at this
  simpa using this
 have e4 := congrArg (·[i]?) hx
 simp only [List.getElem?_map, hxi, Option.map_some, e2] at e4
 rw [e3, List.getElem?_map]
 cases hb : bs[i]? with
 | none => rw [hb] at e4; cases e4
 | some b =>
  rw [hb] at e4
  simp only [Option.map_some, Option.some.injEq, DataW.lit.injEq, Lit.int.injEq, true_and] at e4
  subst e4
  rfl

/-- a variable's block. -/
theorem var_block {w : World} {nm : String} {g : Nat} {cs : Array Value} (hg : P.globalNamed nm = some g) (hv : w.var? P nm = some cs) : ∃ e fr, w.heap[g]? = some (Obj.cells cs e fr) := by
 unfold World.var? at hv
 rw [hg, Option.bind_some] at hv
 split at hv
 ·rename_i c e fr hh
  cases hv
  exact ⟨e, fr, hh⟩
 ·cases hv
end
end Go.Ev

namespace Go.Ev
set_option linter.unusedSimpArgs false
open Go.RowKit
set_option linter.unusedVariables false
set_option linter.unusedSectionVars false

/-- a closed run where nothing is known ahead. -/
theorem closed {E : Env} {gs : List (Option (Nat × TypeId × List Value))} (hE : ∀ [Sym], EnvOk E gs.length) (hk : E.known = []) (hgs : gs.length ≤ 1000000000) {n f : Nat} {args : List Value} {v : Value} (h : back (call E n f args (startMem gs)) = some v) (ha : args.all plainV = true) (hv : plainV v = true) {w : World} (hw : Fits gs w) :
  Calls E.P f ⟨args⟩ w fun e w' => e = .returned v ∧ Below w.heap.size w w' :=
 letI : Sym := ⟨fun _ => none⟩
 closed_at hE hgs h ha hv hw (known_none hk w)

variable [Sym]

theorem bytesSame_eq {a b : Value} (h : bytesSame a b = true) : a = b := by
 unfold bytesSame at h
 split at h
 ·rw [eq_of_beq h]
 ·simp only [Bool.and_eq_true, decide_eq_true_eq] at h; rw [h.1, h.2]
 ·rw [bytesEq_eq] at h; rw [eq_of_beq h]
 ·rw [Nat.eq_of_beq_eq_true h]
 ·cases h

theorem argsSame_eq : ∀ {a b : List Value}, argsSame a b = true → a = b
 | [], [], _ => rfl
 | [], _ :: _, h => by simp [argsSame] at h
 | _ :: _, [], h => by simp [argsSame] at h
 | a :: l, b :: r, h => by
  simp only [argsSame, Bool.and_eq_true] at h
  rw [bytesSame_eq h.1, argsSame_eq h.2]

theorem factOf_mem {op : BinOp} {x y r : Value} : ∀ {l : List (BinOp × Value × Value × Value)}, factOf l op x y = some r → (op, x, y, r) ∈ l
 | [], h => by simp [factOf] at h
 | (op', x', y', r') :: l, h => by
  simp only [factOf] at h
  cases hb : decide (op' = op) && (bytesSame x' x && bytesSame y' y) with
  | false => rw [hb] at h; exact List.mem_cons_of_mem _ (factOf_mem h)
  | true =>
   rw [hb] at h
   cases h
   simp only [Bool.and_eq_true, decide_eq_true_eq] at hb
   obtain ⟨rfl, h1, h2⟩ := hb
   rw [bytesSame_eq h1, bytesSame_eq h2]
   exact List.mem_cons_self

theorem knownOf_mem {f : Nat} {args : List Value} {v : Value} : ∀ {l : List (Nat × List Value × Value)}, knownOf l f args = some v → (f, args, v) ∈ l
 | [], h => by simp [knownOf] at h
 | (g, as, u) :: l, h => by
  simp only [knownOf] at h
  cases hb : Nat.beq g f && argsSame as args with
  | false => rw [hb] at h; exact List.mem_cons_of_mem _ (knownOf_mem h)
  | true =>
   rw [hb] at h
   cases h
   simp only [Bool.and_eq_true] at hb
   rw [Nat.eq_of_beq_eq_true hb.1, argsSame_eq hb.2]
   exact List.mem_cons_self

/-- what a sign, or a value without addresses, stands for. -/
def Stands (x u : Value) : Prop := (∃ n, x = .chan (some n) ∧ Sym.val n = some u ∧ tokOk u = true) ∨ (x = u ∧ plainV u = true)

theorem Stands.plain {x u : Value} (h : Stands x u) : plainV u = true := by
 rcases h with ⟨n, _, _, h⟩ | ⟨_, h⟩
 ·cases u <;> first | rfl | (simp [tokOk] at h)
 ·exact h

theorem Stands.only {x u : Value} (h : Stands x u) {φ : Phi} {x' : Value} (hx : VR φ x x') : x' = u := by
 rcases h with ⟨n, rfl, hn, _⟩ | ⟨rfl, h⟩
 ·cases hx with
  | tok _ h1 _ => exact Option.some.inj (h1.symm.trans hn)
 ·exact hx.plain_eq h

theorem Stands.rel {x u : Value} (h : Stands x u) (φ : Phi) : VR φ x u := by
 rcases h with ⟨n, rfl, hn, ho⟩ | ⟨rfl, h⟩
 ·exact .tok n hn ho
 ·exact VR.plain _ h

theorem Stands.tok {n : Nat} {u : Value} (h : Sym.val n = some u) (ho : tokOk u = true) : Stands (.chan (some n)) u := .inl ⟨n, rfl, h, ho⟩
theorem Stands.val {u : Value} (h : plainV u = true) : Stands u u := .inr ⟨rfl, h⟩

inductive StandsL : List Value → List Value → Prop where
 | nil : StandsL [] []
 | cons {x u : Value} {l r : List Value} (h : Stands x u) (hl : StandsL l r) : StandsL (x :: l) (u :: r)

theorem StandsL.only {φ : Phi} : ∀ {l r l' : List Value}, StandsL l r → VRs φ l l' → l' = r
 | _, _, _, .nil, .nil => rfl
 | _, _, _, .cons h hl, .cons h' hl' => by rw [h.only h', StandsL.only hl hl']

theorem StandsL.rel (φ : Phi) : ∀ {l r : List Value}, StandsL l r → VRs φ l r
 | _, _, .nil => .nil
 | _, _, .cons h hl => .cons (h.rel φ) (StandsL.rel φ hl)

/-- the facts of a list, one by one. -/
theorem facts_of {E : Env} (h : ∀ q ∈ E.facts, ∃ u v, Stands q.2.1 u ∧ Stands q.2.2.1 v ∧ ∀ m t, binOp0 E m q.1 t u v = some q.2.2.2) :
  ∀ op x y r, factOf E.facts op x y = some r → ∃ u v, (∀ φ x', VR φ x x' → x' = u) ∧ (∀ φ y', VR φ y y' → y' = v) ∧ plainV u = true ∧ plainV v = true ∧ ∀ m t, binOp0 E m op t u v = some r := by
 intro op x y r hf
 obtain ⟨u, v, h1, h2, h3⟩ := h _ (factOf_mem hf)
 exact ⟨u, v, fun φ x' hx => h1.only hx, fun φ y' hy => h2.only hy, h1.plain, h2.plain, h3⟩

/-- the known calls of a list, one by one. -/
theorem known_of {E : Env} {w0 : World} (h : ∀ q ∈ E.known, (∃ fn, E.funcs.get q.1 = some fn ∧ fn.body.isSome = true) ∧ ∃ us v, StandsL q.2.1 us ∧ (∀ φ, VR φ q.2.2 v) ∧ ∀ w, Below w0.heap.size w0 w → Calls E.P q.1 ⟨us⟩ w fun e w' => e = .returned v ∧ Below w.heap.size w w') : KnownOk E w0 := by
 intro f args v hf
 obtain ⟨h1, us, u, h2, h3, h4⟩ := h _ (knownOf_mem hf)
 refine ⟨h1, fun φ args' w hr hw => ?_⟩
 rw [h2.only hr]
 exact (h4 w hw).mono fun e w' ⟨he, hb⟩ => ⟨u, he, h3 φ, hb⟩

end Go.Ev

namespace Go.Ev
set_option linter.unusedSimpArgs false
set_option linter.unusedVariables false

/-- the operations of a region that draws, one by one. -/
def runL (E : Env) (call : CallFn) (all : List Oper) : List Ent → Act → Option Act
 | [], a => some a
 | e :: l, a => match stepOp E call all a e.o with
  | none => none
  | some (k, a') => bif isEff E e.o.op || Nat.beq k 0 || (Nat.beq k 1 && isAl e.o.op) then runL E call all l a' else none

theorem trace_runL {E : Env} {call : CallFn} {all : List Oper} : ∀ (l : List Ent) (a : Act), (match trace E call all l a with | none => none | some tr => last tr) = runL E call all l a
 | [], a => rfl
 | e :: l, a => by
  simp only [trace, runL]
  cases hs : stepOp E call all a e.o with
  | none => rfl
  | some r =>
   obtain ⟨k, a'⟩ := r
   simp only
   cases hc : (isEff E e.o.op || Nat.beq k 0 || (Nat.beq k 1 && isAl e.o.op)) with
   | false => rfl
   | true =>
    simp only [cond_true]
    rw [← trace_runL l a']
    cases ht : trace E call all l a' with
    | none => rfl
    | some tr =>
     letI : Sym := ⟨fun _ => none⟩
     obtain ⟨hlen, _⟩ := trace_len l a' tr ht
     match tr, hlen with
     | b :: bs, _ => rfl

theorem drawn_runL {E : Env} {call : CallFn} {ops : List Oper} {l : List Ent} (hp : plan E ops = some (l, [])) (a : Act) : drawn E call ops a = runL E call ops l a := by
 rw [← trace_runL l a]
 unfold drawn
 rw [hp]
 cases ht : trace E call ops l a with
 | none => simp [ht]
 | some tr => simp [ht]

/-- operations, one by one, in this order. -/
def runO (E : Env) (call : CallFn) (all : List Oper) : List Oper → Act → Option Act
 | [], a => some a
 | o :: l, a => match stepOp E call all a o with
  | none => none
  | some (k, a') => bif isEff E o.op || Nat.beq k 0 || (Nat.beq k 1 && isAl o.op) then runO E call all l a' else none

theorem runL_runO {E : Env} {call : CallFn} {all : List Oper} : ∀ (l : List Ent) (a : Act), runL E call all l a = runO E call all (l.map fun e => e.o) a
 | [], a => rfl
 | e :: l, a => by
  simp only [runL, runO, List.map_cons]
  cases hs : stepOp E call all a e.o with
  | none => rfl
  | some r =>
   obtain ⟨k, a'⟩ := r
   simp only
   rw [runL_runO l a']

/-- in the text's order, nothing to be asked again. -/
def planText (E : Env) (ops : List Oper) : Bool :=
 match plan E ops with
 | some (l, []) => decide ((l.map fun e => e.i) = List.range ops.length)
 | _ => false

theorem drawn_text {E : Env} {call : CallFn} {ops : List Oper} (h : planText E ops = true) (a : Act) : drawn E call ops a = runO E call ops ops a := by
 unfold planText at h
 split at h
 ·rename_i l hp
  have hi := of_decide_eq_true h
  letI : Sym := ⟨fun _ => none⟩
  obtain ⟨hpl, _⟩ := plan_some hp
  rw [drawn_runL hp, runL_runO]
  have : (l.map fun e => e.o) = ops := by
   apply List.ext_getElem?
   intro j
   have hj := congrArg (·[j]?) hi
   simp only [List.getElem?_map] at hj ⊢
   cases hl : l[j]? with
   | none =>
    have : l.length ≤ j := List.getElem?_eq_none_iff.1 hl
    rw [List.getElem?_eq_none (by rw [← hpl.len]; exact this)]
    rfl
   | some e =>
    rw [hl] at hj
    have hlt : j < l.length := (List.getElem?_eq_some_iff.1 hl).1
    rw [List.getElem?_range (by rw [← hpl.len]; exact hlt)] at hj
    simp only [Option.map_some, Option.some.injEq] at hj
    have := (hpl.at_ e (List.mem_of_getElem? hl)).1
    rw [hj] at this
    rw [this]
    rfl
  rw [this]
 ·cases h

end Go.Ev

namespace Go.Ev
set_option linter.unusedSimpArgs false
set_option linter.unusedVariables false

/-- more fuel, the same answers. -/
def CLe (c d : CallFn) : Prop := ∀ f args m r, c f args m = some r → d f args m = some r
def KLe (c d : Code → Act → Option (Ex × Act)) : Prop := ∀ x a r, c x a = some r → d x a = some r

variable {E : Env}

theorem oper_mono {c d : CallFn} (h : CLe c d) {a : Act} {o : Oper} {r : Nat × Act} (hr : oper E c a o = some r) : oper E d a o = some r := by
 unfold oper at hr ⊢
 split at hr
 ·exact hr
 ·split at hr
  ·rename_i hq _ cc hop
   skip
   split at hr
   ·cases hr
   ·rename_i g args ht
    split at hr
    ·cases hr
    ·rename_i v m' hc
     simp only [h _ _ _ _ hc]
     exact hr
  ·rename_i hq _ cc hop
   exact hr
  ·cases hr

theorem stepOp_mono {c d : CallFn} (h : CLe c d) {all : List Oper} {a : Act} {o : Oper} {r : Nat × Act} (hr : stepOp E c all a o = some r) : stepOp E d all a o = some r := by
 unfold stepOp at hr ⊢
 cases hw : wanted a all o with
 | false => rw [hw] at hr; exact hr
 | true => rw [hw] at hr; exact oper_mono h hr

theorem opers_mono {c d : CallFn} (h : CLe c d) {all : List Oper} : ∀ {l : List Oper} {a r : Act}, opers E c all l a = some r → opers E d all l a = some r
 | [], _, _, hr => hr
 | o :: l, a, r, hr => by
  simp only [opers] at hr ⊢
  split at hr
  ·cases hr
  ·rename_i k a' hs
   rw [stepOp_mono h hs]
   exact opers_mono h hr

theorem trace_mono {c d : CallFn} (h : CLe c d) {all : List Oper} : ∀ {l : List Ent} {a : Act} {r : List Act}, trace E c all l a = some r → trace E d all l a = some r
 | [], _, _, hr => hr
 | e :: l, a, r, hr => by
  simp only [trace] at hr ⊢
  split at hr
  ·cases hr
  ·rename_i k a' hs
   rw [stepOp_mono h hs]
   simp only
   cases hb : (isEff E e.o.op || Nat.beq k 0 || Nat.beq k 1 && isAl e.o.op) with
   | false => rw [hb] at hr; cases hr
   | true =>
    rw [hb] at hr
    simp only [cond_true] at hr ⊢
    split at hr
    ·cases hr
    ·rename_i tr ht
     rw [trace_mono h ht]
     exact hr

theorem drawn_mono {c d : CallFn} (h : CLe c d) {all : List Oper} {a r : Act} (hr : drawn E c all a = some r) : drawn E d all a = some r := by
 unfold drawn at hr ⊢
 split at hr
 ·cases hr
 ·rename_i l needs hp
  skip
  split at hr
  ·cases hr
  ·rename_i tr ht
   rw [trace_mono h ht]
   exact hr

theorem jumps_mono {c d : Code → Act → Option (Ex × Act)} (h : KLe c d) {body : Code} : ∀ {k k' : Nat} {q q' : Option (Ex × Act)} {r : Ex × Act}, k ≤ k' → (∀ s, q = some s → q' = some s) → jumps c body k q = some r → jumps d body k' q' = some r
 | 0, _, _, _, _, _, _, hr => by simp [jumps] at hr
 | k + 1, 0, _, _, _, hk, _, _ => by omega
 | k + 1, k' + 1, q, q', r, hk, hq, hr => by
  simp only [jumps] at hr ⊢
  split at hr
  ·rename_i l a
   rw [hq _ rfl]
   simp only
   split at hr
   ·rename_i rest hf
    try simp only [hf]
    exact jumps_mono h (by omega) (fun s hs => h _ _ _ hs) hr
   ·rename_i hf
    try simp only [hf]
    exact hr
  ·rename_i hno
   have := hq _ hr
   rw [this]
   split
   ·rename_i l a he
    cases he
    exact absurd hr (hno _ _)
   ·rfl

theorem defers_mono {c d : CallDFn} (h : ∀ f args m r, c f args m = some r → d f args m = some r) : ∀ {l : List (Nat × List Value)} {m r : Mem}, defers c l m = some r → defers d l m = some r
 | [], _, _, hr => hr
 | (f, args) :: l, m, r, hr => by
  simp only [defers] at hr ⊢
  split at hr
  ·cases hr
  ·rename_i m' hc
   rw [h _ _ _ _ hc]
   exact defers_mono h hr

theorem fuel (n : Nat) : (∀ n', n ≤ n' → KLe (code E n) (code E n')) ∧ (∀ n', n ≤ n' → CLe (call E n) (call E n')) ∧ (∀ n', n ≤ n' → ∀ f args m r, callD E n f args m = some r → callD E n' f args m = some r) := by
 induction n with
 | zero => exact ⟨fun _ _ x a r h => by simp [code] at h, fun _ _ f args m r h => by simp [call] at h, fun _ _ f args m r h => by simp [callD] at h⟩
 | succ n ih =>
  obtain ⟨ik, ic, id⟩ := ih
  refine ⟨fun n' hn x a r h => ?_, fun n' hn f args m r h => ?_, fun n' hn f args m r h => ?_⟩
  ·obtain ⟨n', rfl⟩ : ∃ k, n' = k + 1 := ⟨n' - 1, by omega⟩
   have hle : n ≤ n' := by omega
   have hk := ik n' hle
   have hc := ic n' hle
   cases x <;> simp only [code] at h ⊢ <;> first | exact h | skip
   case region i ops b =>
    cases b
    ·simp only at h ⊢
     split at h
     ·cases h
     ·rename_i a' ho; rw [opers_mono hc ho]; exact h
    ·simp only at h ⊢
     split at h
     ·cases h
     ·rename_i a' ho; rw [drawn_mono hc ho]; exact h
   case seq x y =>
    split at h
    ·rename_i a' hx; rw [hk _ _ _ hx]; exact hk _ _ _ h
    ·rename_i hno
     rw [hk _ _ _ h]
     split
     ·rename_i a' he; cases he; exact absurd h (hno _)
     ·rfl
   case cond c x y =>
    split at h
    ·exact hk _ _ _ h
    ·exact hk _ _ _ h
    ·cases h
   case block i x =>
    split at h
    ·rename_i id' a' hx; rw [hk _ _ _ hx]; exact h
    ·rename_i hno
     rw [hk _ _ _ h]
     split
     ·rename_i id' a' he; cases he; exact absurd h (hno _ _)
     ·rfl
   case loop x =>
    split at h
    ·rename_i a' hx; rw [hk _ _ _ hx]; exact hk _ _ _ h
    ·rename_i hno
     rw [hk _ _ _ h]
     split
     ·rename_i a' he; cases he; exact absurd h (hno _)
     ·rfl
   case scope x => exact jumps_mono hk hle (fun s hs => hk _ _ _ hs) h
  ·obtain ⟨n', rfl⟩ : ∃ k, n' = k + 1 := ⟨n' - 1, by omega⟩
   have hle : n ≤ n' := by omega
   have hk := ik n' hle
   have hd := id n' hle
   simp only [call] at h ⊢
   split at h
   ·rename_i v hv; exact h
   ·rename_i hv
    try simp only [hv]
    split at h
    ·cases h
    ·rename_i fn hf
     try simp only [hf]
     split at h
     ·cases h
     ·rename_i c hb
      try simp only [hb]
      cases hg : (Nat.ble args.length fn.ntmps && Nat.ble fn.ntmps 1000000000) with
      | false => rw [hg] at h; cases h
      | true =>
       rw [hg] at h
       simp only [cond_true] at h ⊢
       split at h
       ·cases h
       ·rename_i a' he
        have : ended (code E n' c { tmps := ofListFrom .leaf 0 args, n := fn.ntmps, defers := [], m := m }) = some a' := by
         unfold ended at he ⊢
         split at he
         ·rename_i hx; rw [hk _ _ _ hx]; exact he
         ·rename_i hx; rw [hk _ _ _ hx]; exact he
         ·cases he
        simp only [this]
        split at h
        ·cases h
        ·rename_i m' hm
         rw [defers_mono hd hm]
         exact h
  ·obtain ⟨n', rfl⟩ : ∃ k, n' = k + 1 := ⟨n' - 1, by omega⟩
   have hle : n ≤ n' := by omega
   have hk := ik n' hle
   simp only [callD] at h ⊢
   split at h
   ·cases h
   ·rename_i fn hf
    try simp only [hf]
    split at h
    ·cases h
    ·rename_i c hb
     try simp only [hb]
     cases hg : (Nat.ble args.length fn.ntmps && Nat.ble fn.ntmps 1000000000) with
     | false => rw [hg] at h; cases h
     | true =>
      rw [hg] at h
      simp only [cond_true] at h ⊢
      split at h
      ·cases h
      ·rename_i a' he
       have : ended (code E n' c { tmps := ofListFrom .leaf 0 args, n := fn.ntmps, defers := [], m := m }) = some a' := by
        unfold ended at he ⊢
        split at he
        ·rename_i hx; rw [hk _ _ _ hx]; exact he
        ·rename_i hx; rw [hk _ _ _ hx]; exact he
        ·cases he
       simp only [this]
       exact h

theorem code_fuel {n n' : Nat} (h : n ≤ n') {c : Code} {a : Act} {r : Ex × Act} (hr : code E n c a = some r) : code E n' c a = some r := (fuel n).1 n' h _ _ _ hr
theorem call_fuel {n n' : Nat} (h : n ≤ n') {f : Nat} {args : List Value} {m : Mem} {r : Value × Mem} (hr : call E n f args m = some r) : call E n' f args m = some r := (fuel n).2.1 n' h _ _ _ _ hr
theorem callD_fuel {n n' : Nat} (h : n ≤ n') {f : Nat} {args : List Value} {m r : Mem} (hr : callD E n f args m = some r) : callD E n' f args m = some r := (fuel n).2.2 n' h _ _ _ _ hr
theorem cle {n n' : Nat} (h : n ≤ n') : CLe (call E n) (call E n') := (fuel n).2.1 n' h
end Go.Ev

namespace Go.Ev
set_option linter.unusedSimpArgs false
set_option linter.unusedVariables false
variable {E : Env}

/-- a call comes to an end, and what it leaves fits. -/
def Runs (E : Env) (f : Nat) (args : List Value) (m : Mem) (Q : Value → Mem → Prop) : Prop := ∃ n v m', call E n f args m = some (v, m') ∧ Q v m'
def RunsD (E : Env) (f : Nat) (args : List Value) (m : Mem) (Q : Mem → Prop) : Prop := ∃ n m', callD E n f args m = some m' ∧ Q m'
theorem Runs.mono {f : Nat} {args : List Value} {m : Mem} {Q R : Value → Mem → Prop} (h : Runs E f args m Q) (hR : ∀ v m', Q v m' → R v m') : Runs E f args m R :=
 let ⟨n, v, m', h1, h2⟩ := h; ⟨n, v, m', h1, hR v m' h2⟩
theorem RunsD.mono {f : Nat} {args : List Value} {m : Mem} {Q R : Mem → Prop} (h : RunsD E f args m Q) (hR : ∀ m', Q m' → R m') : RunsD E f args m R :=
 let ⟨n, m', h1, h2⟩ := h; ⟨n, m', h1, hR m' h2⟩

inductive Kont where
 | seq (y : Code) | block (id : Nat) | loop (x : Code)

def wpC (E : Env) (c : Code) (a : Act) (Q : Ex → Act → Prop) : Prop := ∃ n ex a', code E n c a = some (ex, a') ∧ Q ex a'

def ret (E : Env) : List Kont → Ex → Act → (Ex → Act → Prop) → Prop
 | [], ex, a, Q => Q ex a
 | .seq y :: k, ex, a, Q => match ex with
  | .normal => wpC E y a (fun ex a => ret E k ex a Q)
  | ex => ret E k ex a Q
 | .block id :: k, ex, a, Q => match ex with
  | .exit id' => if id' = id then ret E k .normal a Q else ret E k (.exit id') a Q
  | ex => ret E k ex a Q
 | .loop x :: k, ex, a, Q => match ex with
  | .normal => wpC E (.loop x) a (fun ex a => ret E k ex a Q)
  | ex => ret E k ex a Q

def wp (E : Env) (c : Code) (k : List Kont) (a : Act) (Q : Ex → Act → Prop) : Prop := wpC E c a (fun ex a' => ret E k ex a' Q)

section
variable {k : List Kont} {a : Act} {Q : Ex → Act → Prop} {x y : Code}
theorem ewp_skip (h : ret E k .normal a Q) : wp E .skip k a Q := ⟨1, _, _, rfl, h⟩
theorem ewp_label {l : Nat} (h : ret E k .normal a Q) : wp E (.label l) k a Q := ⟨1, _, _, rfl, h⟩
theorem ewp_exit {i : Nat} (h : ret E k (.exit i) a Q) : wp E (.exit i) k a Q := ⟨1, _, _, rfl, h⟩
theorem ewp_ret (h : ret E k .ret a Q) : wp E .ret k a Q := ⟨1, _, _, rfl, h⟩

theorem ewp_seq (h : wp E x (.seq y :: k) a Q) : wp E (.seq x y) k a Q := by
 obtain ⟨n, ex, a', h1, h2⟩ := h
 cases ex with
 | normal =>
  obtain ⟨n2, ex2, a2, h3, h4⟩ := h2
  refine ⟨max n n2 + 1, ex2, a2, ?_, h4⟩
  simp only [code]
  rw [code_fuel (Nat.le_max_left n n2) h1]
  exact code_fuel (Nat.le_max_right n n2) h3
 | exit i => exact ⟨n + 1, _, a', by simp only [code]; rw [h1], h2⟩
 | ret => exact ⟨n + 1, _, a', by simp only [code]; rw [h1], h2⟩
 | goto l => exact ⟨n + 1, _, a', by simp only [code]; rw [h1], h2⟩

theorem ewp_block {i : Nat} (h : wp E x (.block i :: k) a Q) : wp E (.block i x) k a Q := by
 obtain ⟨n, ex, a', h1, h2⟩ := h
 cases ex with
 | exit j =>
  simp only [ret] at h2
  by_cases hj : j = i
  ·rw [if_pos hj] at h2
   exact ⟨n + 1, _, a', by simp only [code]; rw [h1]; simp only [Tree.beq_true hj, cond_true], h2⟩
  ·rw [if_neg hj] at h2
   exact ⟨n + 1, _, a', by simp only [code]; rw [h1]; simp only [Tree.beq_false hj, cond_false], h2⟩
 | normal => exact ⟨n + 1, _, a', by simp only [code]; rw [h1], h2⟩
 | ret => exact ⟨n + 1, _, a', by simp only [code]; rw [h1], h2⟩
 | goto l => exact ⟨n + 1, _, a', by simp only [code]; rw [h1], h2⟩

theorem ewp_loop1 (h : wp E x (.loop x :: k) a Q) : wp E (.loop x) k a Q := by
 obtain ⟨n, ex, a', h1, h2⟩ := h
 cases ex with
 | normal =>
  obtain ⟨n2, ex2, a2, h3, h4⟩ := h2
  refine ⟨max n n2 + 1, ex2, a2, ?_, h4⟩
  simp only [code]
  rw [code_fuel (Nat.le_max_left n n2) h1]
  exact code_fuel (Nat.le_max_right n n2) h3
 | exit i => exact ⟨n + 1, _, a', by simp only [code]; rw [h1], h2⟩
 | ret => exact ⟨n + 1, _, a', by simp only [code]; rw [h1], h2⟩
 | goto l => exact ⟨n + 1, _, a', by simp only [code]; rw [h1], h2⟩

theorem ewp_condT {c : Operand} (hc : a.eval c = .bool true) (h : wp E x k a Q) : wp E (.cond c x y) k a Q := by
 obtain ⟨n, ex, a', h1, h2⟩ := h
 exact ⟨n + 1, ex, a', by simp only [code, hc]; exact h1, h2⟩
theorem ewp_condF {c : Operand} (hc : a.eval c = .bool false) (h : wp E y k a Q) : wp E (.cond c x y) k a Q := by
 obtain ⟨n, ex, a', h1, h2⟩ := h
 exact ⟨n + 1, ex, a', by simp only [code, hc]; exact h1, h2⟩
theorem ewp_cond {c : Operand} {b : Bool} (hc : a.eval c = .bool b) (h1 : b = true → wp E x k a Q) (h2 : b = false → wp E y k a Q) : wp E (.cond c x y) k a Q := by
 cases b
 ·exact ewp_condF hc (h2 rfl)
 ·exact ewp_condT hc (h1 rfl)

theorem eret_seq (h : wp E y k a Q) : ret E (.seq y :: k) .normal a Q := h
theorem eret_seq_exit {i : Nat} (h : ret E k (.exit i) a Q) : ret E (.seq y :: k) (.exit i) a Q := h
theorem eret_seq_ret (h : ret E k .ret a Q) : ret E (.seq y :: k) .ret a Q := h
theorem eret_block {i : Nat} (h : ret E k .normal a Q) : ret E (.block i :: k) .normal a Q := h
theorem eret_block_same {i : Nat} (h : ret E k .normal a Q) : ret E (.block i :: k) (.exit i) a Q := by simp only [ret, if_true]; exact h
theorem eret_block_other {i j : Nat} (hj : Nat.beq j i = false) (h : ret E k (.exit j) a Q) : ret E (.block i :: k) (.exit j) a Q := by
 have : j ≠ i := fun e => by rw [e, Nat.beq_refl] at hj; cases hj
 simp only [ret, if_neg this]; exact h
theorem eret_block_ret {i : Nat} (h : ret E k .ret a Q) : ret E (.block i :: k) .ret a Q := h
theorem eret_loop (h : wp E (.loop x) k a Q) : ret E (.loop x :: k) .normal a Q := h
theorem eret_loop_exit {i : Nat} (h : ret E k (.exit i) a Q) : ret E (.loop x :: k) (.exit i) a Q := h
theorem eret_loop_ret (h : ret E k .ret a Q) : ret E (.loop x :: k) .ret a Q := h
theorem eret_nil {ex : Ex} (h : Q ex a) : ret E [] ex a Q := h

/-- a loop, by what holds at its head and what becomes less. -/
theorem ewp_loop {ι : Type} (I : ι → Act → Prop) (μ : ι → Nat) (i0 : ι) (h0 : I i0 a)
  (hs : ∀ i a, I i a → (∀ j a', I j a' → μ j < μ i → ret E (.loop x :: k) .normal a' Q) → wp E x (.loop x :: k) a Q) : wp E (.loop x) k a Q := by
 have H : ∀ d i a, μ i ≤ d → I i a → wp E (.loop x) k a Q := by
  intro d
  induction d with
  | zero => exact fun i a hd hi => ewp_loop1 (hs i a hi fun j a' _ hj => by omega)
  | succ d ih => exact fun i a hd hi => ewp_loop1 (hs i a hi fun j a' hI hj => ih j a' (by omega) hI)
 exact H _ _ _ (Nat.le_refl _) h0

/-! Regions. -/
def wpO (E : Env) (all l : List Oper) (k : List Kont) (a : Act) (Q : Ex → Act → Prop) : Prop := ∃ n a', opers E (call E n) all l a = some a' ∧ ret E k .normal a' Q

theorem ewp_region {i : Nat} {ops : Array Oper} (h : wpO E ops.toList ops.toList k a Q) : wp E (.region i ops false) k a Q := by
 obtain ⟨n, a', h1, h2⟩ := h
 exact ⟨n + 1, .normal, a', by simp only [code, h1], h2⟩

theorem kind_ok {call : CallFn} {all : List Oper} {a a' : Act} {o : Oper} {q : Nat} (h : stepOp E call all a o = some (q, a')) : (isEff E o.op || Nat.beq q 0 || (Nat.beq q 1 && isAl o.op)) = true := by
 unfold stepOp at h
 cases hw : wanted a all o with
 | false =>
  rw [hw] at h
  simp only [cond_false] at h
  split at h
  ·cases h
  ·simp only [Option.some.injEq, Prod.mk.injEq] at h; rw [← h.1]; simp [Nat.beq]
 | true =>
  rw [hw] at h
  simp only [cond_true] at h
  unfold oper at h
  split at h
  ·rename_i q' v m' hp
   split at h
   ·cases h
   ·simp only [Option.some.injEq, Prod.mk.injEq] at h
    obtain ⟨rfl, _⟩ := h
    unfold plainOp at hp
    split at hp
    ·simp only [Option.some.injEq, Prod.mk.injEq] at hp; rw [← hp.1]; simp [Nat.beq]
    ·split at hp
     ·rename_i hal
      simp only [Option.some.injEq, Prod.mk.injEq] at hp
      rw [← hp.1]
      have : isAl o.op = true := by
       cases hop : o.op <;> rw [hop] at hal <;> simp [allocs] at hal <;> rfl
      rw [this]; simp [Nat.beq]
     ·split at hp
      ·rename_i hef
       have : isEff E o.op = true := by
        cases hop : o.op <;> rw [hop] at hef <;> first | rfl | (simp [effect] at hef; done) | skip
        case convert s d x =>
         simp only [effect] at hef
         simp only [isEff]
         split at hef
         ·split at hef
          ·rename_i h1 h2; rw [h2]
          ·cases hef
         ·split at hef
          ·rename_i h1 h2; rw [h2]
          ·cases hef
         ·cases hef
        case call c =>
         simp only [effect] at hef
         simp only [isEff]
         split at hef
         ·rename_i hc; rw [hc]
         ·cases hef
       rw [this]; simp
      ·cases hp
  ·split at h
   ·rename_i c hop
    have : isEff E o.op = true := by
     rw [hop]
     split at h
     ·cases h
     ·rename_i g args ht
      unfold target at ht
      simp only [isEff]
      split at ht
      ·rename_i hcl; rw [hcl]
      ·cases ht
    rw [this]; simp
   ·rename_i c hop
    rw [hop]; simp [isEff]
   ·cases h

theorem runO_opers {call : CallFn} {all : List Oper} : ∀ (l : List Oper) (a : Act), runO E call all l a = opers E call all l a
 | [], a => rfl
 | o :: l, a => by
  simp only [runO, opers]
  cases hs : stepOp E call all a o with
  | none => rfl
  | some r =>
   obtain ⟨q, a'⟩ := r
   simp only
   rw [kind_ok hs, cond_true, runO_opers l a']

theorem ewp_regionD {i : Nat} {ops : Array Oper} (hp : planText E ops.toList = true) (h : wpO E ops.toList ops.toList k a Q) : wp E (.region i ops true) k a Q := by
 obtain ⟨n, a', h1, h2⟩ := h
 exact ⟨n + 1, .normal, a', by simp only [code, drawn_text hp, runO_opers, h1], h2⟩

/-- the order of a region that draws, where nothing is asked again. -/
def planOrder (E : Env) (ops : List Oper) : List Oper := match plan E ops with | some (l, _) => l.map fun e => e.o | none => []
def planQuiet (E : Env) (ops : List Oper) : Bool := match plan E ops with | some (_, []) => true | _ => false

theorem ewp_regionP {i : Nat} {ops : Array Oper} {l : List Oper} (hp : planQuiet E ops.toList = true) (hl : planOrder E ops.toList = l) (h : wpO E ops.toList l k a Q) : wp E (.region i ops true) k a Q := by
 obtain ⟨n, a', h1, h2⟩ := h
 unfold planQuiet at hp
 split at hp
 ·rename_i es hpl
  unfold planOrder at hl
  rw [hpl] at hl
  subst hl
  exact ⟨n + 1, .normal, a', by simp only [code, drawn_runL hpl, runL_runO, runO_opers, h1], h2⟩
 ·cases hp

/-- one operation that is no call. -/
def pstep (E : Env) (all : List Oper) (a : Act) (o : Oper) : Option Act :=
 bif wanted a all o then (match plainOp E a.m a.eval o.op with | some (_, v, m') => ({ a with m := m' } : Act).put o.dst v | none => none) else a.put o.dst undef

theorem pstep_step {call : CallFn} {all : List Oper} {a a' : Act} {o : Oper} (h : pstep E all a o = some a') : ∃ q, stepOp E call all a o = some (q, a') := by
 unfold pstep at h
 unfold stepOp
 cases hw : wanted a all o with
 | false => rw [hw] at h; simp only [cond_false] at h ⊢; rw [h]; exact ⟨_, rfl⟩
 | true =>
  rw [hw] at h
  simp only [cond_true] at h ⊢
  unfold oper
  split at h
  ·rename_i q v m' hp
   simp only [hp, h]
   exact ⟨_, rfl⟩
  ·cases h

theorem ewpO_nil {all : List Oper} (h : ret E k .normal a Q) : wpO E all [] k a Q := ⟨0, a, rfl, h⟩
theorem ewpO_plain {all l : List Oper} {o : Oper} {a' : Act} (hp : pstep E all a o = some a') (h : wpO E all l k a' Q) : wpO E all (o :: l) k a Q := by
 obtain ⟨n, a2, h1, h2⟩ := h
 obtain ⟨q, hq⟩ := pstep_step (call := call E n) hp
 exact ⟨n, a2, by simp only [opers, hq]; exact h1, h2⟩

theorem plainOp_value {m : Mem} {ρ : Rho} {c : Go.Call} {f : Operand} (hc : c.callee = .value f) : plainOp E m ρ (.call c) = none := by
 unfold plainOp
 simp only [quiet, hc, allocs, effect]

theorem ewpO_call {all l : List Oper} {d : Option Tmp} {c : Go.Call} {f : Operand} {t : TypeId} {pos : String} {af : Array Edge} {gd : Option (Nat × Bool)} {g : Nat} {args : List Value} {R : Value → Mem → Prop}
  (hw : wanted a all ⟨d, .call c, t, pos, af, gd⟩ = true) (hc : c.callee = .value f) (ht : target a.eval c = some (g, args))
  (hr : Runs E g args a.m R) (h : ∀ v m', R v m' → ∃ a', ({ a with m := m' } : Act).put d v = some a' ∧ wpO E all l k a' Q) : wpO E all (⟨d, .call c, t, pos, af, gd⟩ :: l) k a Q := by
 obtain ⟨n, v, m', h1, h2⟩ := hr
 obtain ⟨a', h3, n2, a2, h4, h5⟩ := h v m' h2
 refine ⟨max n n2, a2, ?_, h5⟩
 have hs : stepOp E (call E (max n n2)) all a ⟨d, .call c, t, pos, af, gd⟩ = some (2, a') := by
  unfold stepOp
  rw [hw, cond_true]
  unfold oper
  rw [plainOp_value hc]
  simp only [ht, call_fuel (Nat.le_max_left n n2) h1, h3]
 simp only [opers, hs]
 exact opers_mono (cle (Nat.le_max_right n n2)) h4

theorem ewpO_defer {all l : List Oper} {d : Option Tmp} {c : Go.Call} {t : TypeId} {pos : String} {af : Array Edge} {gd : Option (Nat × Bool)} {a' : Act} {q : Nat × List Value}
  (hw : wanted a all ⟨d, .defer c, t, pos, af, gd⟩ = true) (ht : target a.eval c = some q) (hput : ({ a with defers := q :: a.defers } : Act).put d undef = some a') (h : wpO E all l k a' Q) : wpO E all (⟨d, .defer c, t, pos, af, gd⟩ :: l) k a Q := by
 obtain ⟨n, a2, h4, h5⟩ := h
 refine ⟨n, a2, ?_, h5⟩
 have hs : stepOp E (call E n) all a ⟨d, .defer c, t, pos, af, gd⟩ = some (2, a') := by
  unfold stepOp
  rw [hw, cond_true]
  unfold oper plainOp
  simp only [quiet, allocs, effect, ht, hput]
 simp only [opers, hs]
 exact h4
end

/-- deferred calls, the last one first. -/
def runsDs (E : Env) : List (Nat × List Value) → Mem → (Mem → Prop) → Prop
 | [], m, Q => Q m
 | (f, args) :: l, m, Q => RunsD E f args m fun m' => runsDs E l m' Q

theorem runsDs_some : ∀ {l : List (Nat × List Value)} {m : Mem} {Q : Mem → Prop}, runsDs E l m Q → ∃ n m', defers (callD E n) l m = some m' ∧ Q m'
 | [], m, Q, h => ⟨0, m, rfl, h⟩
 | (f, args) :: l, m, Q, h => by
  obtain ⟨n, m', h1, h2⟩ := h
  obtain ⟨n2, m2, h3, h4⟩ := runsDs_some h2
  refine ⟨max n n2, m2, ?_, h4⟩
  simp only [defers, callD_fuel (Nat.le_max_left n n2) h1]
  exact defers_mono (fun f args m r h => callD_fuel (Nat.le_max_right n n2) h) h3

/-- the end of a function. -/
def fin (E : Env) (rs : List ResultVar) (Q : Value → Mem → Prop) (ex : Ex) (a : Act) : Prop :=
 (match ex with | .normal => True | .ret => True | _ => False) ∧ runsDs E a.defers a.m fun m' => ∃ vs, results E { a with m := m' } rs = some vs ∧ Q (one vs) m'

theorem runs_of {f : Nat} {fn : Func} {c : Code} {args : List Value} {m : Mem} {Q : Value → Mem → Prop} (hk : knownOf E.known f args = none) (hf : E.funcs.get f = some fn) (hb : fn.body = some c)
  (hn : (Nat.ble args.length fn.ntmps && Nat.ble fn.ntmps 1000000000) = true) (h : wp E c [] { tmps := ofListFrom .leaf 0 args, n := fn.ntmps, defers := [], m := m } (fin E fn.results.toList Q)) : Runs E f args m Q := by
 obtain ⟨n, ex, a', h1, h2, h3⟩ := h
 obtain ⟨n2, m2, h4, vs, h5, h6⟩ := runsDs_some h3
 refine ⟨max n n2 + 1, one vs, m2, ?_, h6⟩
 simp only [call, hk, hf, hb, hn, cond_true]
 have : ended (code E (max n n2) c { tmps := ofListFrom .leaf 0 args, n := fn.ntmps, defers := [], m := m }) = some a' := by
  rw [code_fuel (Nat.le_max_left n n2) h1]
  cases ex <;> first | rfl | exact absurd h2 id
 simp only [this, defers_mono (fun f args m r h => callD_fuel (Nat.le_max_right n n2) h) h4, h5]

/-- the end of a deferred function. -/
def finD (E : Env) (rs : List ResultVar) (Q : Mem → Prop) (ex : Ex) (a : Act) : Prop :=
 (match ex with | .normal => True | .ret => True | _ => False) ∧ a.defers = [] ∧ (∃ vs, results E a rs = some vs) ∧ Q a.m

theorem runsD_of {f : Nat} {fn : Func} {c : Code} {args : List Value} {m : Mem} {Q : Mem → Prop} (hf : E.funcs.get f = some fn) (hb : fn.body = some c)
  (hn : (Nat.ble args.length fn.ntmps && Nat.ble fn.ntmps 1000000000) = true) (h : wp E c [] { tmps := ofListFrom .leaf 0 args, n := fn.ntmps, defers := [], m := m } (finD E fn.results.toList Q)) : RunsD E f args m Q := by
 obtain ⟨n, ex, a', h1, h2, h3, ⟨vs, h5⟩, h6⟩ := h
 refine ⟨n + 1, a'.m, ?_, h6⟩
 simp only [callD, hf, hb, hn, cond_true, h1]
 cases ex <;> first | exact absurd h2 id | (simp only [ended, h3, List.isEmpty_nil, cond_true, h5])
end Go.Ev

namespace Go.Ev
set_option linter.unusedSimpArgs false
set_option linter.unusedVariables false
variable {E : Env}

def Act.upd (a : Act) (d : Nat) (v : Value) : Act := { a with tmps := a.tmps.set (d + 1) d v }
def Act.mem (a : Act) (m : Mem) : Act := { a with m := m }
def Act.push (a : Act) (q : Nat × List Value) : Act := { a with defers := q :: a.defers }
def Act.start (args : List Value) (n : Nat) (m : Mem) : Act := { tmps := ofListFrom .leaf 0 args, n := n, defers := [], m := m }

theorem tmp_upd (a : Act) (d j : Nat) (v : Value) : (a.upd d v).tmp j = if d = j then v else a.tmp j := by
 unfold Act.tmp Act.upd
 by_cases h : d = j
 ·subst h
  simp only [if_true]
  rw [Tree.get_set_same _ _ _ _ Nat.lt_two_pow_self]
 ·simp only [if_neg h]
  rw [Tree.get_set_other _ _ _ _ _ h]
theorem tmp_mem (a : Act) (m : Mem) (j : Nat) : (a.mem m).tmp j = a.tmp j := rfl
theorem tmp_push (a : Act) (q : Nat × List Value) (j : Nat) : (a.push q).tmp j = a.tmp j := rfl
theorem m_upd (a : Act) (d : Nat) (v : Value) : (a.upd d v).m = a.m := rfl
theorem m_mem (a : Act) (m : Mem) : (a.mem m).m = m := rfl
theorem m_push (a : Act) (q : Nat × List Value) : (a.push q).m = a.m := rfl
theorem n_upd (a : Act) (d : Nat) (v : Value) : (a.upd d v).n = a.n := rfl
theorem n_mem (a : Act) (m : Mem) : (a.mem m).n = a.n := rfl
theorem n_push (a : Act) (q : Nat × List Value) : (a.push q).n = a.n := rfl
theorem d_upd (a : Act) (d : Nat) (v : Value) : (a.upd d v).defers = a.defers := rfl
theorem d_mem (a : Act) (m : Mem) : (a.mem m).defers = a.defers := rfl
theorem d_push (a : Act) (q : Nat × List Value) : (a.push q).defers = q :: a.defers := rfl
theorem m_start (args : List Value) (n : Nat) (m : Mem) : (Act.start args n m).m = m := rfl
theorem n_start (args : List Value) (n : Nat) (m : Mem) : (Act.start args n m).n = n := rfl
theorem d_start (args : List Value) (n : Nat) (m : Mem) : (Act.start args n m).defers = [] := rfl

theorem get_ofList : ∀ (l : List Value) (c : Tree Value) (i j : Nat), (ofListFrom c i l).get j = if i ≤ j ∧ j < i + l.length then l[j - i]? else c.get j
 | [], c, i, j => by simp only [ofListFrom, List.length_nil, Nat.add_zero]; rw [if_neg (by omega)]
 | v :: l, c, i, j => by
  simp only [ofListFrom]
  rw [get_ofList l]
  simp only [List.length_cons]
  by_cases hj : i + 1 ≤ j ∧ j < i + 1 + l.length
  ·rw [if_pos hj, if_pos (by omega), show j - i = (j - (i + 1)) + 1 by omega]; rfl
  ·rw [if_neg hj]
   by_cases hij : i = j
   ·subst hij
    rw [Tree.get_set_same _ _ _ _ Nat.lt_two_pow_self, if_pos (by omega)]; simp
   ·rw [Tree.get_set_other _ _ _ _ _ hij, if_neg (by omega)]

theorem tmp_start (args : List Value) (n : Nat) (m : Mem) (j : Nat) : (Act.start args n m).tmp j = args.getD j undef := by
 unfold Act.tmp Act.start
 simp only
 rw [get_ofList]
 by_cases h : j < args.length
 ·rw [if_pos ⟨Nat.zero_le _, by omega⟩, Nat.sub_zero, List.getD, List.getElem?_eq_getElem h]; rfl
 ·rw [if_neg (by omega), Tree.get_leaf, List.getD, List.getElem?_eq_none (by omega)]; rfl

theorem ev_tmp (a : Act) (t : Nat) : a.eval (.tmp t) = a.tmp t := rfl
theorem ev_const (a : Act) (v : Value) : a.eval (.const v) = v := rfl
theorem ev_global (a : Act) (g : Nat) : a.eval (.global g) = .pointer (some ⟨g, 0, none⟩) := rfl
theorem ev_func (a : Act) (f : Nat) : a.eval (.func f) = .func (.func f) #[] #[] := rfl

section
variable {all l : List Oper} {k : List Kont} {a : Act} {Q : Ex → Act → Prop} {d : Nat} {op : Op} {t : TypeId} {pos : String} {af : Array Edge} {gd : Option (Nat × Bool)} {v : Value}

/-- wanted: no guard. -/
theorem want_none {dst : Option Tmp} : wanted a all ⟨dst, op, t, pos, af, none⟩ = true := rfl
theorem want_some {dst : Option Tmp} {j : Nat} {r b b' : Bool} {oj : Oper} {dj : Nat} (h1 : nth all j = some oj) (h2 : oj.dst = some dj) (h3 : a.tmp dj = .bool b) (h4 : (b == b') = r) : wanted a all ⟨dst, op, t, pos, af, some (j, b')⟩ = r := by
 unfold wanted
 simp only [h1, h2, h3, h4]

theorem want_undef {dst : Option Tmp} {j : Nat} {b' : Bool} {oj : Oper} {dj : Nat} (h1 : nth all j = some oj) (h2 : oj.dst = some dj) (h3 : a.tmp dj = undef) : wanted a all ⟨dst, op, t, pos, af, some (j, b')⟩ = false := by
 unfold wanted
 simp only [h1, h2, h3]
 rfl

theorem put_some (h : Nat.blt d a.n = true) : a.put (some d) v = some (a.upd d v) := by
 simp only [Act.put, h, cond_true]; rfl

theorem ewpO_quiet (hw : wanted a all ⟨some d, op, t, pos, af, gd⟩ = true) (hq : quiet E a.m a.eval op = some v) (hd : Nat.blt d a.n = true) (h : wpO E all l k (a.upd d v) Q) :
  wpO E all (⟨some d, op, t, pos, af, gd⟩ :: l) k a Q := by
 refine ewpO_plain (a' := a.upd d v) ?_ h
 unfold pstep
 rw [hw, cond_true]
 simp only [plainOp, hq]
 exact put_some hd
theorem ewpO_quiet0 (hw : wanted a all ⟨none, op, t, pos, af, gd⟩ = true) (hq : quiet E a.m a.eval op = some v) (h : wpO E all l k a Q) :
  wpO E all (⟨none, op, t, pos, af, gd⟩ :: l) k a Q := by
 refine ewpO_plain (a' := a) ?_ h
 unfold pstep
 rw [hw, cond_true]
 simp only [plainOp, hq]
 rfl
theorem ewpO_skip (hw : wanted a all ⟨some d, op, t, pos, af, gd⟩ = false) (hd : Nat.blt d a.n = true) (h : wpO E all l k (a.upd d undef) Q) :
  wpO E all (⟨some d, op, t, pos, af, gd⟩ :: l) k a Q := by
 refine ewpO_plain (a' := a.upd d undef) ?_ h
 unfold pstep
 rw [hw, cond_false]
 exact put_some hd
theorem ewpO_skip0 (hw : wanted a all ⟨none, op, t, pos, af, gd⟩ = false) (h : wpO E all l k a Q) :
  wpO E all (⟨none, op, t, pos, af, gd⟩ :: l) k a Q := by
 refine ewpO_plain (a' := a) ?_ h
 unfold pstep
 rw [hw, cond_false]
 rfl
theorem ewpO_alloc {m' : Mem} (hw : wanted a all ⟨some d, op, t, pos, af, gd⟩ = true) (hn : quiet E a.m a.eval op = none) (hq : allocs E a.m a.eval op = some (v, m')) (hd : Nat.blt d a.n = true) (h : wpO E all l k ((a.mem m').upd d v) Q) :
  wpO E all (⟨some d, op, t, pos, af, gd⟩ :: l) k a Q := by
 refine ewpO_plain (a' := (a.mem m').upd d v) ?_ h
 unfold pstep
 rw [hw, cond_true]
 simp only [plainOp, hn, hq]
 exact put_some (a := a.mem m') hd
theorem ewpO_effect {m' : Mem} (hw : wanted a all ⟨some d, op, t, pos, af, gd⟩ = true) (hn : quiet E a.m a.eval op = none) (hn2 : allocs E a.m a.eval op = none) (hq : effect E a.m a.eval op = some (v, m')) (hd : Nat.blt d a.n = true) (h : wpO E all l k ((a.mem m').upd d v) Q) :
  wpO E all (⟨some d, op, t, pos, af, gd⟩ :: l) k a Q := by
 refine ewpO_plain (a' := (a.mem m').upd d v) ?_ h
 unfold pstep
 rw [hw, cond_true]
 simp only [plainOp, hn, hn2, hq]
 exact put_some (a := a.mem m') hd
theorem ewpO_effect0 {m' : Mem} (hw : wanted a all ⟨none, op, t, pos, af, gd⟩ = true) (hn : quiet E a.m a.eval op = none) (hn2 : allocs E a.m a.eval op = none) (hq : effect E a.m a.eval op = some (v, m')) (h : wpO E all l k (a.mem m') Q) :
  wpO E all (⟨none, op, t, pos, af, gd⟩ :: l) k a Q := by
 refine ewpO_plain (a' := a.mem m') ?_ h
 unfold pstep
 rw [hw, cond_true]
 simp only [plainOp, hn, hn2, hq]
 rfl
theorem ewpO_run {c : Go.Call} {f : Operand} {g : Nat} {args : List Value} {R : Value → Mem → Prop} (hw : wanted a all ⟨some d, .call c, t, pos, af, gd⟩ = true) (hc : c.callee = .value f) (ht : target a.eval c = some (g, args))
  (hr : Runs E g args a.m R) (hd : Nat.blt d a.n = true) (h : ∀ v m', R v m' → wpO E all l k ((a.mem m').upd d v) Q) : wpO E all (⟨some d, .call c, t, pos, af, gd⟩ :: l) k a Q :=
 ewpO_call hw hc ht hr fun v m' hv => ⟨_, put_some (a := a.mem m') hd, h v m' hv⟩
theorem ewpO_run0 {c : Go.Call} {f : Operand} {g : Nat} {args : List Value} {R : Value → Mem → Prop} (hw : wanted a all ⟨none, .call c, t, pos, af, gd⟩ = true) (hc : c.callee = .value f) (ht : target a.eval c = some (g, args))
  (hr : Runs E g args a.m R) (h : ∀ v m', R v m' → wpO E all l k (a.mem m') Q) : wpO E all (⟨none, .call c, t, pos, af, gd⟩ :: l) k a Q :=
 ewpO_call hw hc ht hr fun v m' hv => ⟨_, rfl, h v m' hv⟩
end

/-! The quiet operations, by their kinds. -/
section
variable {m : Mem} {ρ : Rho} {v : Value} {x y : Operand} {t : TypeId}
theorem sq_move (h : ρ x = v) : quiet E m ρ (.move x) = some v := by rw [← h]; rfl
theorem sq_assign (h : ρ x = v) : quiet E m ρ (.assign x) = some v := by rw [← h]; rfl
theorem sq_pickT {c : Operand} (hc : ρ c = .bool true) (h : ρ x = v) : quiet E m ρ (.pick c x y) = some v := by simp only [quiet, hc, h]
theorem sq_pickF {c : Operand} (hc : ρ c = .bool false) (h : ρ y = v) : quiet E m ρ (.pick c x y) = some v := by simp only [quiet, hc, h]
theorem sq_load {b o : Nat} (h : ρ x = .pointer (some ⟨b, o, none⟩)) (hl : loadAt E m t b o = some v) : quiet E m ρ (.load t x) = some v := by simp only [quiet, h, hl]
theorem sq_nil {a : Addr} (h : ρ x = .pointer (some a)) : quiet E m ρ (.nilCheck x) = some (.pointer (some a)) := by simp only [quiet, h]
theorem sq_bin {op : BinOp} {p q : Value} {ty : TypeId} (hx : ρ x = p) (hy : ρ y = q) (h : binOp E m op t p q = some v) : quiet E m ρ (.binOp op t x y ty) = some v := by simp only [quiet, hx, hy, h]
theorem sq_un {op : UnOp} {p : Value} (hx : ρ x = p) (h : unOp op p = some v) : quiet E m ρ (.unOp op t x) = some v := by simp only [quiet, hx, h]
theorem sq_extract {l : List Value} {i : Nat} (hx : ρ x = .tuple ⟨l⟩) (h : nth l i = some v) : quiet E m ρ (.extract x i) = some v := by simp only [quiet, hx, h]
theorem sq_fieldAddr {fs : Array Field} {b o f : Nat} {fd : Field} {sz : Nat} (hu : E.under t = some (.struct fs)) (hx : ρ x = .pointer (some ⟨b, o, none⟩)) (hf : nth fs.toList f = some fd) (hs : E.size fd.type = some (sz + 1)) :
  quiet E m ρ (.fieldAddr t x f) = some (.pointer (some ⟨b, o + fd.offset, none⟩)) := by simp only [quiet, hu, hx, hf, hs]
theorem sq_indexAddr {e b o len cap j sz : Nat} {kd : IntKind} (hu : E.under t = some (.slice e)) (hx : ρ x = .slice (some ⟨b, o, none⟩) len cap) (hi : ρ y = .int kd (Int.ofNat j)) (hj : j < len) (hs : E.size e = some sz) :
  quiet E m ρ (.indexAddr t x y) = some (.pointer (some ⟨b, o + j * sz, none⟩)) := by
 simp only [quiet, hu, hx, hi, hs, show Nat.blt j len = true by simpa [Nat.blt_eq] using hj, cond_true]
theorem sq_indexAddrA {e b o len j sz : Nat} {kd : IntKind} (hu : E.under t = some (.array len e)) (hx : ρ x = .pointer (some ⟨b, o, none⟩)) (hi : ρ y = .int kd (Int.ofNat j)) (hj : j < len) (hs : E.size e = some sz) :
  quiet E m ρ (.indexAddr t x y) = some (.pointer (some ⟨b, o + j * sz, none⟩)) := by
 simp only [quiet, hu, hx, hi, hs, show Nat.blt j len = true by simpa [Nat.blt_eq] using hj, cond_true]
theorem sq_indexS {s : List UInt8} {j : Nat} {kd : IntKind} {c : UInt8} (hu : E.under t = some .string) (hx : ρ x = .string ⟨⟨s⟩⟩) (hi : ρ y = .int kd (Int.ofNat j)) (hc : nth s j = some c) :
  quiet E m ρ (.index t x y) = some (.int .u8 c.toNat) := by simp only [quiet, hu, hx, hi, hc]
theorem sq_field1 {fs : Array Field} {l : List Value} {f : Nat} {fd : Field} {k : Nat} {d : TypeDesc} (hu : E.under t = some (.struct fs)) (hx : ρ x = .agg ⟨l⟩) (hf : nth fs.toList f = some fd) (hs : E.size fd.type = some k) (hd : E.under fd.type = some d) (ha : isAggD d = false) (hv : nth l fd.offset = some v) :
  quiet E m ρ (.field t x f) = some v := by simp only [quiet, hu, hx, hf, hs, hd, ha, cond_false, hv]
theorem sq_fieldA {fs : Array Field} {l : List Value} {f : Nat} {fd : Field} {k : Nat} {d : TypeDesc} {l' : List Value} (hu : E.under t = some (.struct fs)) (hx : ρ x = .agg ⟨l⟩) (hf : nth fs.toList f = some fd) (hs : E.size fd.type = some k) (hd : E.under fd.type = some d) (ha : isAggD d = true) (hv : (l.drop fd.offset).take k = l') :
  quiet E m ρ (.field t x f) = some (.agg ⟨l'⟩) := by simp only [quiet, hu, hx, hf, hs, hd, ha, cond_true, hv]
theorem sq_lenS {c : Go.Call} {s : List UInt8} (hc : c.callee = .builtin .len) (ht : c.argTypes.toList = [t]) (hx : c.args.toList = [x]) (hu : E.under t = some .string) (h : ρ x = .string ⟨⟨s⟩⟩) : quiet E m ρ (.call c) = some (.int .i64 s.length) := by
 simp only [quiet, hc, ht, hx, hu, h]
theorem sq_len {c : Go.Call} {a : Option Addr} {n cap e : Nat} (hc : c.callee = .builtin .len) (ht : c.argTypes.toList = [t]) (hx : c.args.toList = [x]) (hu : E.under t = some (.slice e)) (h : ρ x = .slice a n cap) : quiet E m ρ (.call c) = some (.int .i64 n) := by
 simp only [quiet, hc, ht, hx, hu, h]
theorem sq_max {c : Go.Call} {kd kd' : IntKind} {p q r : Int} (hc : c.callee = .builtin .max) (hx : c.args.toList = [x, y]) (h1 : ρ x = .int kd p) (h2 : ρ y = .int kd' q) (hr : max p q = r) : quiet E m ρ (.call c) = some (.int kd r) := by
 simp only [quiet, hc, hx, h1, h2, ← hr]
 congr 2
 by_cases h : q > p
 ·rw [if_pos h, Int.max_eq_right (by omega)]
 ·rw [if_neg h, Int.max_eq_left (by omega)]
theorem sq_min {c : Go.Call} {kd kd' : IntKind} {p q r : Int} (hc : c.callee = .builtin .min) (hx : c.args.toList = [x, y]) (h1 : ρ x = .int kd p) (h2 : ρ y = .int kd' q) (hr : min p q = r) : quiet E m ρ (.call c) = some (.int kd r) := by
 simp only [quiet, hc, hx, h1, h2, ← hr]
 congr 2
 by_cases h : q < p
 ·rw [if_pos h, Int.min_eq_right (by omega)]
 ·rw [if_neg h, Int.min_eq_left (by omega)]

/-! Numbers. -/
def in64 (n : Int) : Prop := -9223372036854775808 ≤ n ∧ n ≤ 9223372036854775807
theorem b_add {a b r : Int} (hr : a + b = r) (h : -9223372036854775808 ≤ r ∧ r ≤ 9223372036854775807) : binOp E m .add t (.int .i64 a) (.int .i64 b) = some (.int .i64 r) := by
 subst hr
 simp only [binOp, isTok, Bool.or_self, cond_false, binOp0, intOp, if_true]
 rw [show IntKind.i64.wrap (a + b) = a + b by unfold IntKind.wrap; simp [IntKind.bits, IntKind.signed]; omega]
theorem b_sub {a b r : Int} (hr : a - b = r) (h : -9223372036854775808 ≤ r ∧ r ≤ 9223372036854775807) : binOp E m .sub t (.int .i64 a) (.int .i64 b) = some (.int .i64 r) := by
 subst hr
 simp only [binOp, isTok, Bool.or_self, cond_false, binOp0, intOp, if_true]
 rw [show IntKind.i64.wrap (a - b) = a - b by unfold IntKind.wrap; simp [IntKind.bits, IntKind.signed]; omega]
theorem b_lss {kd : IntKind} {a b : Int} {r : Bool} (hr : decide (a < b) = r) : binOp E m .lss t (.int kd a) (.int kd b) = some (.bool r) := by subst hr; simp only [binOp, isTok, Bool.or_self, cond_false, binOp0, intOp, if_true]
theorem b_leq {kd : IntKind} {a b : Int} {r : Bool} (hr : decide (a ≤ b) = r) : binOp E m .leq t (.int kd a) (.int kd b) = some (.bool r) := by subst hr; simp only [binOp, isTok, Bool.or_self, cond_false, binOp0, intOp, if_true]
theorem b_gtr {kd : IntKind} {a b : Int} {r : Bool} (hr : decide (b < a) = r) : binOp E m .gtr t (.int kd a) (.int kd b) = some (.bool r) := by subst hr; simp only [binOp, isTok, Bool.or_self, cond_false, binOp0, intOp, if_true, GT.gt]
theorem b_geq {kd : IntKind} {a b : Int} {r : Bool} (hr : decide (b ≤ a) = r) : binOp E m .geq t (.int kd a) (.int kd b) = some (.bool r) := by subst hr; simp only [binOp, isTok, Bool.or_self, cond_false, binOp0, intOp, if_true, GE.ge]
theorem b_eql {kd : IntKind} {a b : Int} {r : Bool} (hr : decide (a = b) = r) : binOp E m .eql t (.int kd a) (.int kd b) = some (.bool r) := by subst hr; simp only [binOp, isTok, Bool.or_self, cond_false, binOp0, intOp, if_true]; rfl
theorem b_neq {kd : IntKind} {a b : Int} {r : Bool} (hr : (!decide (a = b)) = r) : binOp E m .neq t (.int kd a) (.int kd b) = some (.bool r) := by subst hr; simp only [binOp, isTok, Bool.or_self, cond_false, binOp0, intOp, if_true]; rfl
theorem b_seql {a b : List UInt8} {r : Bool} (hr : bytesEq a b = r) : binOp E m .eql t (.string ⟨⟨a⟩⟩) (.string ⟨⟨b⟩⟩) = some (.bool r) := by subst hr; simp only [binOp, isTok, Bool.or_self, cond_false, binOp0, strOp]
theorem b_sneq {a b : List UInt8} {r : Bool} (hr : (!bytesEq a b) = r) : binOp E m .neq t (.string ⟨⟨a⟩⟩) (.string ⟨⟨b⟩⟩) = some (.bool r) := by subst hr; simp only [binOp, isTok, Bool.or_self, cond_false, binOp0, strOp]
theorem u_not {b r : Bool} (hr : (!b) = r) : unOp .not (.bool b) = some (.bool r) := by subst hr; rfl

/-! Loads. -/
theorem load_cell {b o n ty kd : Nat} {c : Tree Value} {d : TypeDesc} (hu : E.under t = some d) (ha : isAggD d = false) (hm : m.get b = some (.cells n c ty kd)) (ho : o < n) (hv : c.get o = some v) : loadAt E m t b o = some v := by
 simp only [loadAt, hu, hm, ha, cond_false, show Nat.blt o n = true by simpa [Nat.blt_eq] using ho, cond_true, hv]
theorem load_agg {b o n ty kd k : Nat} {c : Tree Value} {d : TypeDesc} {l : List Value} (hu : E.under t = some d) (ha : isAggD d = true) (hs : E.size t = some k) (hm : m.get b = some (.cells n c ty kd)) (ho : o + k ≤ n) (hv : cellsFrom c o k = some l) : loadAt E m t b o = some (.agg ⟨l⟩) := by
 simp only [loadAt, hu, hm, ha, hs, cond_true, Nat.ble_eq_true_of_le ho, hv]
end

theorem runs_start {f : Nat} {fn : Func} {c : Code} {args : List Value} {m : Mem} {Q : Value → Mem → Prop} (hk : knownOf E.known f args = none) (hf : E.funcs.get f = some fn) (hb : fn.body = some c)
  (hn : (Nat.ble args.length fn.ntmps && Nat.ble fn.ntmps 1000000000) = true) (h : wp E c [] (Act.start args fn.ntmps m) (fin E fn.results.toList Q)) : Runs E f args m Q := runs_of hk hf hb hn h

/-- the end of a function that defers nothing and whose results are temporaries. -/
theorem fin_ret {rs : List ResultVar} {Q : Value → Mem → Prop} {a : Act} {vs : List Value} (hd : a.defers = []) (hr : results E a rs = some vs) (h : Q (one vs) a.m) : fin E rs Q .ret a := by
 obtain ⟨tm, n, ds, m⟩ := a
 cases hd
 exact ⟨trivial, vs, hr, h⟩
theorem fin_normal {rs : List ResultVar} {Q : Value → Mem → Prop} {a : Act} {vs : List Value} (hd : a.defers = []) (hr : results E a rs = some vs) (h : Q (one vs) a.m) : fin E rs Q .normal a := by
 obtain ⟨tm, n, ds, m⟩ := a
 cases hd
 exact ⟨trivial, vs, hr, h⟩
theorem res_nil {a : Act} : results E a [] = some [] := rfl
theorem res_tmp {a : Act} {t : Nat} {l : List ResultVar} {r : List Value} {v : Value} (hv : a.tmp t = v) (h : results E a l = some r) : results E a (.tmp t :: l) = some (v :: r) := by simp only [results, h, hv]
theorem res_cell {a : Act} {t ty b o : Nat} {l : List ResultVar} {r : List Value} {v : Value} (hv : a.tmp t = .pointer (some ⟨b, o, none⟩)) (hl : loadAt E a.m ty b o = some v) (h : results E a l = some r) : results E a (.cell t ty :: l) = some (v :: r) := by simp only [results, hv, hl, h]

inductive EvalL (ρ : Rho) : List Operand → List Value → Prop where
 | nil : EvalL ρ [] []
 | cons {x : Operand} {v : Value} {l : List Operand} {r : List Value} (h : ρ x = v) (hl : EvalL ρ l r) : EvalL ρ (x :: l) (v :: r)
theorem EvalL.map {ρ : Rho} : ∀ {l : List Operand} {r : List Value}, EvalL ρ l r → l.map ρ = r
 | _, _, .nil => rfl
 | _, _, .cons h hl => by rw [List.map_cons, h, EvalL.map hl]
theorem target_of {ρ : Rho} {c : Go.Call} {f : Operand} {g : Nat} {first cap vs : List Value} (hc : c.callee = .value f) (hf : ρ f = .func (.func g) ⟨first⟩ ⟨cap⟩) (ha : EvalL ρ c.args.toList vs) : target ρ c = some (g, first ++ vs ++ cap) := by
 simp only [target, hc, hf, ha.map]

theorem nadd1 (x : Nat) : (x : Int) + 1 = ((x + 1 : Nat) : Int) := rfl
theorem nadd2 (x : Nat) : (x : Int) + 2 = ((x + 2 : Nat) : Int) := rfl
theorem nadd3 (x : Nat) : (x : Int) + 3 = ((x + 3 : Nat) : Int) := rfl
theorem nadd (x y : Nat) : (x : Int) + (y : Int) = ((x + y : Nat) : Int) := rfl
theorem nladd1 (x : Nat) : 1 + (x : Int) = ((x + 1 : Nat) : Int) := by omega
theorem nladd2 (x : Nat) : 2 + (x : Int) = ((x + 2 : Nat) : Int) := by omega
theorem nladd3 (x : Nat) : 3 + (x : Int) = ((x + 3 : Nat) : Int) := by omega
theorem nsub1 (x : Nat) (h : 1 ≤ x) : (x : Int) - 1 = ((x - 1 : Nat) : Int) := by omega
theorem nsub (x y : Nat) (h : y ≤ x) : (x : Int) - (y : Int) = ((x - y : Nat) : Int) := by omega
theorem neq_true {a b : Int} (h : a ≠ b) : (!decide (a = b)) = true := by simp [h]
theorem neq_false {a b : Int} (h : a = b) : (!decide (a = b)) = false := by simp [h]
attribute [irreducible] Act.upd Act.mem Act.push Act.start
end Go.Ev

namespace Go.Ev
set_option linter.unusedSimpArgs false
set_option linter.unusedVariables false
variable {E : Env}

theorem beqb (a b : List UInt8) : bytesEq a b = decide (a = b) := by
 letI : Sym := ⟨fun _ => none⟩
 rw [bytesEq_eq]
 by_cases h : a = b <;> simp [h]

def rowObj (l : List Value) (e kd : Nat) : AObj := .cells l.length (ofListFrom .leaf 0 l) e kd

/-- a block holds just these cells. -/
def Row (m : Mem) (b : Nat) (l : List Value) (e kd : Nat) : Prop := b < m.next ∧ ∃ c, m.get b = some (.cells l.length c e kd) ∧ ∀ i, i < l.length → c.get i = l[i]?

theorem mget_new (m : Mem) (o : AObj) : (m.new o).get m.next = some o := Tree.get_set_same _ _ _ _ Nat.lt_two_pow_self
theorem mget_new' (m : Mem) (o : AObj) {b : Nat} (h : b < m.next) : (m.new o).get b = m.get b := Tree.get_set_other _ _ _ _ _ (by omega)
theorem mget_put (m : Mem) (b : Nat) (o : AObj) : (m.put b o).get b = some o := Tree.get_set_same _ _ _ _ Nat.lt_two_pow_self
theorem mget_put' (m : Mem) (b : Nat) (o : AObj) {x : Nat} (h : x ≠ b) : (m.put b o).get x = m.get x := Tree.get_set_other _ _ _ _ _ (by omega)
theorem next_new (m : Mem) (o : AObj) : (m.new o).next = m.next + 1 := rfl
theorem next_put (m : Mem) (b : Nat) (o : AObj) : (m.put b o).next = m.next := rfl

section
variable {m m' : Mem} {b e kd : Nat} {l : List Value}
theorem row_new (m : Mem) (l : List Value) (e kd : Nat) : Row (m.new (rowObj l e kd)) m.next l e kd := by
 refine ⟨Nat.lt_succ_self _, _, mget_new _ _, fun i hi => ?_⟩
 rw [get_ofList, if_pos (by omega), Nat.sub_zero]
theorem Row.keep_new (h : Row m b l e kd) (o : AObj) : Row (m.new o) b l e kd := by
 obtain ⟨h1, c, h2, h3⟩ := h
 exact ⟨Nat.lt_succ_of_lt h1, c, by rw [mget_new' _ _ h1]; exact h2, h3⟩
theorem Row.keep (h : Row m b l e kd) (hn : m.next ≤ m'.next) (hg : m'.get b = m.get b) : Row m' b l e kd := by
 obtain ⟨h1, c, h2, h3⟩ := h
 exact ⟨by omega, c, by rw [hg]; exact h2, h3⟩
theorem Row.load1 (h : Row m b l e kd) {t o : Nat} {d : TypeDesc} {v : Value} (hu : E.under t = some d) (ha : isAggD d = false) (hv : l[o]? = some v) : loadAt E m t b o = some v := by
 obtain ⟨h1, c, h2, h3⟩ := h
 have : o < l.length := (List.getElem?_eq_some_iff.1 hv).1
 exact load_cell hu ha h2 this (by rw [h3 o this, hv])
theorem cellsFrom_list {c : Tree Value} : ∀ (k o : Nat) (l : List Value), (∀ i, i < l.length → c.get i = l[i]?) → o + k ≤ l.length → cellsFrom c o k = some ((l.drop o).take k)
 | 0, o, l, h, hk => by simp [cellsFrom]
 | k + 1, o, l, h, hk => by
  have ho : o < l.length := by omega
  simp only [cellsFrom, h o ho, List.getElem?_eq_getElem ho]
  rw [cellsFrom_list k (o + 1) l h (by omega)]
  simp only [Option.some.injEq]
  rw [List.drop_eq_getElem_cons ho, List.take_succ_cons]
theorem Row.loadA (h : Row m b l e kd) {t o k : Nat} {d : TypeDesc} {l' : List Value} (hu : E.under t = some d) (ha : isAggD d = true) (hs : E.size t = some k) (ho : o + k ≤ l.length) (hv : (l.drop o).take k = l') : loadAt E m t b o = some (.agg ⟨l'⟩) := by
 obtain ⟨h1, c, h2, h3⟩ := h
 subst hv
 exact load_agg hu ha hs h2 ho (cellsFrom_list k o l h3 ho)

/-- cells put over others. -/
def put (l : List Value) (o : Nat) : List Value → List Value
 | [] => l
 | v :: r => put (l.set o v) (o + 1) r
theorem put_length : ∀ (r l : List Value) (o : Nat), (put l o r).length = l.length
 | [], l, o => rfl
 | v :: r, l, o => by rw [put, put_length r]; simp
theorem storeFrom_put : ∀ (r : List Value) (l : List Value) (c : Tree Value) (o : Nat), (∀ i, i < l.length → c.get i = l[i]?) → o + r.length ≤ l.length → r.all oneCell = true →
  ∃ c', storeFrom c o l.length r = some c' ∧ ∀ i, i < l.length → c'.get i = (put l o r)[i]?
 | [], l, c, o, h, hk, ha => ⟨c, rfl, h⟩
 | v :: r, l, c, o, h, hk, ha => by
  simp only [List.length_cons] at hk
  simp only [List.all_cons, Bool.and_eq_true] at ha
  have h2 : ∀ i, i < (l.set o v).length → (c.set (o + 1) o v).get i = (l.set o v)[i]? := by
   intro i hi
   simp only [List.length_set] at hi
   by_cases hio : o = i
   ·subst hio
    rw [Tree.get_set_same _ _ _ _ Nat.lt_two_pow_self, List.getElem?_set_self hi]
   ·rw [Tree.get_set_other _ _ _ _ _ hio, List.getElem?_set_ne hio, h i hi]
  obtain ⟨c', h3, h4⟩ := storeFrom_put r (l.set o v) (c.set (o + 1) o v) (o + 1) h2 (by simp; omega) ha.2
  simp only [List.length_set] at h3 h4
  refine ⟨c', ?_, fun i hi => by rw [h4 i hi]; rfl⟩
  simp only [storeFrom, show Nat.blt o l.length = true by simp [Nat.blt_eq]; omega, ha.1, Bool.and_self, cond_true]
  exact h3
/-- a store. -/
theorem Row.store (h : Row m b l e kd) (hk : kd ≠ 1) {t o k : Nat} {v : Value} {r : List Value} (hs : E.size t = some k) (hr : cellsOf v = r) (hrl : r.length = k) (ho : o + k ≤ l.length) (ha : r.all oneCell = true) :
  ∃ m', storeAt E m t b o v = some m' ∧ Row m' b (put l o r) e kd ∧ (∀ x, x ≠ b → m'.get x = m.get x) ∧ m'.next = m.next := by
 obtain ⟨h1, c, h2, h3⟩ := h
 subst hr
 obtain ⟨c', h4, h5⟩ := storeFrom_put (cellsOf v) l c o h3 (by omega) ha
 refine ⟨m.put b (.cells l.length c' e kd), ?_, ⟨h1, c', by rw [mget_put, put_length], fun i hi => h5 i (by rw [put_length] at hi; exact hi)⟩, fun x hx => mget_put' _ _ _ hx, rfl⟩
 simp only [storeAt, hs, h2, hrl, Nat.beq_refl, show Nat.beq kd 1 = false from Tree.beq_false hk, Bool.not_false, Bool.and_self, cond_true, h4]
end

theorem put_take : ∀ (r l : List Value) (o : Nat), o + r.length = l.length → put l o r = l.take o ++ r
 | [], l, o, h => by simp only [List.length_nil, Nat.add_zero] at h; simp [put, h]
 | v :: r, l, o, h => by
  simp only [List.length_cons] at h
  rw [put, put_take r (l.set o v) (o + 1) (by simp; omega), List.take_succ_eq_append_getElem (by simp; omega)]
  simp [List.take_set_of_le]
/-- a store over all of a block. -/
theorem Row.fill {m : Mem} {b e kd : Nat} {l : List Value} (h : Row m b l e kd) (hk : kd ≠ 1) {t k : Nat} {v : Value} {r : List Value} (hs : E.size t = some k) (hr : cellsOf v = r) (hrl : r.length = k) (hl : l.length = k) (ha : r.all oneCell = true) :
  ∃ m', storeAt E m t b 0 v = some m' ∧ Row m' b r e kd ∧ (∀ x, x ≠ b → m'.get x = m.get x) ∧ m'.next = m.next := by
 obtain ⟨m', h1, h2, h3, h4⟩ := h.store hk (o := 0) hs hr hrl (by omega) ha
 rw [put_take r l 0 (by omega), List.take_zero, List.nil_append] at h2
 exact ⟨m', h1, h2, h3, h4⟩

/-- nothing that was there has changed. -/
def Grow (m m' : Mem) : Prop := m.next ≤ m'.next ∧ ∀ b, b < m.next → m'.get b = m.get b
theorem Grow.refl (m : Mem) : Grow m m := ⟨Nat.le_refl _, fun _ _ => rfl⟩
theorem Grow.trans {m m' m2 : Mem} (h : Grow m m') (k : Grow m' m2) : Grow m m2 := ⟨Nat.le_trans h.1 k.1, fun b hb => (k.2 b (Nat.lt_of_lt_of_le hb h.1)).trans (h.2 b hb)⟩
theorem Grow.new {m m' : Mem} (h : Grow m m') (o : AObj) : Grow m (m'.new o) := ⟨Nat.le_trans h.1 (Nat.le_succ _), fun b hb => (mget_new' _ _ (Nat.lt_of_lt_of_le hb h.1)).trans (h.2 b hb)⟩
theorem Grow.wrote {m m' m2 : Mem} {b : Nat} (h : Grow m m') (hb : m.next ≤ b) (ho : ∀ x, x ≠ b → m2.get x = m'.get x) (hn : m2.next = m'.next) : Grow m m2 :=
 ⟨by rw [hn]; exact h.1, fun x hx => (ho x (by omega)).trans (h.2 x hx)⟩
theorem Row.grow {m m' : Mem} {b e kd : Nat} {l : List Value} (h : Row m b l e kd) (g : Grow m m') : Row m' b l e kd := h.keep g.1 (g.2 b h.1)

/-! Operations that make memory. -/
section
variable {all l : List Oper} {k : List Kont} {a : Act} {Q : Ex → Act → Prop} {d : Nat} {t : TypeId} {pos : String} {af : Array Edge} {gd : Option (Nat × Bool)} {v : Value}
theorem ewpO_box {e : TypeId} {x : Operand} {r : List Value} (hw : wanted a all ⟨some d, .box e x, t, pos, af, gd⟩ = true) (hx : a.eval x = v) (hl : cellsOf v = r) (hn : Nat.ble r.length 1000000000 = true) (hd : Nat.blt d a.n = true)
  (h : wpO E all l k ((a.mem (a.m.new (rowObj r e 0))).upd d (.pointer (some ⟨a.m.next, 0, none⟩))) Q) : wpO E all (⟨some d, .box e x, t, pos, af, gd⟩ :: l) k a Q := by
 refine ewpO_alloc hw rfl ?_ hd h
 simp only [allocs, hx, hl, newCells, hn, cond_true, withAddr]
 rfl
theorem ewpO_new {e : TypeId} {z : Value} {r : List Value} (hw : wanted a all ⟨some d, .alloc e, t, pos, af, gd⟩ = true) (hz : E.zero e = some z) (hl : cellsOf z = r) (hn : Nat.ble r.length 1000000000 = true) (hd : Nat.blt d a.n = true)
  (h : wpO E all l k ((a.mem (a.m.new (rowObj r e 0))).upd d (.pointer (some ⟨a.m.next, 0, none⟩))) Q) : wpO E all (⟨some d, .alloc e, t, pos, af, gd⟩ :: l) k a Q := by
 refine ewpO_alloc hw rfl ?_ hd h
 simp only [allocs, hz, hl, newCells, hn, cond_true, withAddr]
 rfl
inductive EvalP (ρ : Rho) : List (Nat × Operand) → List (Nat × Value) → Prop where
 | nil : EvalP ρ [] []
 | cons {i : Nat} {x : Operand} {v : Value} {l : List (Nat × Operand)} {r : List (Nat × Value)} (h : ρ x = v) (hl : EvalP ρ l r) : EvalP ρ ((i, x) :: l) ((i, v) :: r)
theorem EvalP.map {ρ : Rho} : ∀ {l : List (Nat × Operand)} {r : List (Nat × Value)}, EvalP ρ l r → (l.map fun p => (p.1, ρ p.2)) = r
 | _, _, .nil => rfl
 | _, _, .cons h hl => by rw [List.map_cons, h, EvalP.map hl]
theorem ewpO_buildSlice {ts : TypeId} {len e sz : Nat} {z : Value} {parts : Array (Nat × Operand)} {ps : List (Nat × Value)} {r : List Value} (hw : wanted a all ⟨some d, .buildSlice ts len parts, t, pos, af, gd⟩ = true)
  (hu : E.under ts = some (.slice e)) (hs : E.size e = some sz) (hz : E.zero e = some z) (hb : (Nat.ble (len * sz) 10000000 && Nat.beq (cellsOf z).length sz) = true) (hp : EvalP a.eval parts.toList ps)
  (hf : fill (fun i => some (i * sz, sz)) (repeatList (cellsOf z) len) ps = some r) (hn : Nat.ble r.length 1000000000 = true) (hd : Nat.blt d a.n = true)
  (h : wpO E all l k ((a.mem (a.m.new (rowObj r e 0))).upd d (.slice (some ⟨a.m.next, 0, none⟩) len len)) Q) : wpO E all (⟨some d, .buildSlice ts len parts, t, pos, af, gd⟩ :: l) k a Q := by
 refine ewpO_alloc hw rfl ?_ hd h
 simp only [allocs, hu, hs, hz, hb, cond_true, hp.map, hf, newCells, hn, withAddr]
 rfl
theorem ewpO_makeMap {ty : TypeId} (hw : wanted a all ⟨some d, .makeMap ty none, t, pos, af, gd⟩ = true) (hd : Nat.blt d a.n = true)
  (h : wpO E all l k ((a.mem (a.m.new (.map []))).upd d (.map (some a.m.next))) Q) : wpO E all (⟨some d, .makeMap ty none, t, pos, af, gd⟩ :: l) k a Q :=
 ewpO_alloc hw rfl rfl hd h
theorem ewpO_store {ts : TypeId} {x y : Operand} {b o : Nat} {m' : Mem} (hw : wanted a all ⟨none, .store ts x y, t, pos, af, gd⟩ = true) (hx : a.eval x = .pointer (some ⟨b, o, none⟩)) (hy : a.eval y = v) (hs : storeAt E a.m ts b o v = some m')
  (h : wpO E all l k (a.mem m') Q) : wpO E all (⟨none, .store ts x y, t, pos, af, gd⟩ :: l) k a Q := by
 refine ewpO_effect0 (v := undef) hw rfl rfl ?_ h
 simp only [effect, hx, hy, hs]
end

section
variable {m : Mem} {ρ : Rho} {v : Value} {x y : Operand} {t : TypeId}
theorem sq_build {fs : Array Field} {z : Value} {pl : List (Nat × Nat)} {parts : Array (Nat × Operand)} {ps : List (Nat × Value)} {r : List Value} (hz : E.zero t = some z) (hu : E.under t = some (.struct fs)) (hpl : places E fs.toList = some pl) (hp : EvalP ρ parts.toList ps) (hf : fill (nth pl) (cellsOf z) ps = some r) :
  quiet E m ρ (.build t parts) = some (.agg ⟨r⟩) := by simp only [quiet, hz, hu, hpl, hp.map, hf]
theorem sq_buildA {n e sz : Nat} {z : Value} {parts : Array (Nat × Operand)} {ps : List (Nat × Value)} {r : List Value} (hz : E.zero t = some z) (hu : E.under t = some (.array n e)) (hs : E.size e = some sz) (hp : EvalP ρ parts.toList ps) (hf : fill (fun i => some (i * sz, sz)) (cellsOf z) ps = some r) :
  quiet E m ρ (.build t parts) = some (.agg ⟨r⟩) := by simp only [quiet, hz, hu, hs, hp.map, hf]
theorem sq_sliceHi {e b o len cap h sz : Nat} {kd : IntKind} (hu : E.under t = some (.slice e)) (hx : ρ x = .slice (some ⟨b, o, none⟩) len cap) (hy : ρ y = .int kd (Int.ofNat h)) (hh : h ≤ cap) (hs : E.size e = some sz) :
  quiet E m ρ (.slice t x none (some y) none) = some (.slice (some ⟨b, o, none⟩) h cap) := by
 simp only [quiet, hu, hx, bound, hy, Nat.ble_eq_true_of_le (Nat.zero_le h), Nat.ble_eq_true_of_le hh, Bool.and_self, cond_true, Nat.beq_refl, Bool.true_or, hs, Nat.zero_mul, Nat.add_zero, Nat.sub_zero]
theorem b_pne0 {ts : TypeId} {e : Nat} {n c : Nat} (hu : E.under ts = some (.slice e)) : binOp E m .neq ts (.slice none n c) (.slice none 0 0) = some (.bool false) := by
 simp [binOp, isTok, binOp0, eqAny, eqPtr, hu]
theorem b_pne1 {ts : TypeId} {e : Nat} {p : Addr} {n c : Nat} (hu : E.under ts = some (.slice e)) : binOp E m .neq ts (.slice (some p) n c) (.slice none 0 0) = some (.bool true) := by
 simp [binOp, isTok, binOp0, eqAny, eqPtr, hu]
theorem b_peq0 {ts : TypeId} {e : Nat} {n c : Nat} (hu : E.under ts = some (.slice e)) : binOp E m .eql ts (.slice none n c) (.slice none 0 0) = some (.bool true) := by
 simp [binOp, isTok, binOp0, eqAny, eqPtr, hu]
theorem b_peq1 {ts : TypeId} {e : Nat} {p : Addr} {n c : Nat} (hu : E.under ts = some (.slice e)) : binOp E m .eql ts (.slice (some p) n c) (.slice none 0 0) = some (.bool false) := by
 simp [binOp, isTok, binOp0, eqAny, eqPtr, hu]
theorem b_peqNil {ts : TypeId} {e : Nat} {s : Option Addr} {n c : Nat} {r : Bool} (hu : E.under ts = some (.slice e)) (hr : s.isNone = r) : binOp E m .eql ts (.slice s n c) (.slice none 0 0) = some (.bool r) := by
 subst hr
 cases s <;> simp [binOp, isTok, binOp0, eqAny, eqPtr, hu]
theorem b_pneNil {ts : TypeId} {e : Nat} {s : Option Addr} {n c : Nat} {r : Bool} (hu : E.under ts = some (.slice e)) (hr : s.isSome = r) : binOp E m .neq ts (.slice s n c) (.slice none 0 0) = some (.bool r) := by
 subst hr
 cases s <;> simp [binOp, isTok, binOp0, eqAny, eqPtr, hu]
end
section
variable {all l : List Oper} {k : List Kont} {a : Act} {Q : Ex → Act → Prop} {d : Nat} {t : TypeId} {pos : String} {af : Array Edge} {gd : Option (Nat × Bool)} {v : Value}
theorem ewpO_lss {x y : Operand} {kd : IntKind} {p q : Int} {ts ty : TypeId} (hw : wanted a all ⟨some d, .binOp .lss ts x y ty, t, pos, af, gd⟩ = true) (hx : a.eval x = .int kd p) (hy : a.eval y = .int kd q) (hd : Nat.blt d a.n = true)
  (h1 : p < q → wpO E all l k (a.upd d (.bool true)) Q) (h2 : ¬ (p < q) → wpO E all l k (a.upd d (.bool false)) Q) : wpO E all (⟨some d, .binOp .lss ts x y ty, t, pos, af, gd⟩ :: l) k a Q := by
 by_cases h : p < q
 ·exact ewpO_quiet hw (sq_bin hx hy (b_lss (decide_eq_true h))) hd (h1 h)
 ·exact ewpO_quiet hw (sq_bin hx hy (b_lss (decide_eq_false h))) hd (h2 h)
theorem ewpO_geq {x y : Operand} {kd : IntKind} {p q : Int} {ts ty : TypeId} (hw : wanted a all ⟨some d, .binOp .geq ts x y ty, t, pos, af, gd⟩ = true) (hx : a.eval x = .int kd p) (hy : a.eval y = .int kd q) (hd : Nat.blt d a.n = true)
  (h1 : q ≤ p → wpO E all l k (a.upd d (.bool true)) Q) (h2 : ¬ (q ≤ p) → wpO E all l k (a.upd d (.bool false)) Q) : wpO E all (⟨some d, .binOp .geq ts x y ty, t, pos, af, gd⟩ :: l) k a Q := by
 by_cases h : q ≤ p
 ·exact ewpO_quiet hw (sq_bin hx hy (b_geq (decide_eq_true h))) hd (h1 h)
 ·exact ewpO_quiet hw (sq_bin hx hy (b_geq (decide_eq_false h))) hd (h2 h)
theorem ewpO_gtr {x y : Operand} {kd : IntKind} {p q : Int} {ts ty : TypeId} (hw : wanted a all ⟨some d, .binOp .gtr ts x y ty, t, pos, af, gd⟩ = true) (hx : a.eval x = .int kd p) (hy : a.eval y = .int kd q) (hd : Nat.blt d a.n = true)
  (h1 : q < p → wpO E all l k (a.upd d (.bool true)) Q) (h2 : ¬ (q < p) → wpO E all l k (a.upd d (.bool false)) Q) : wpO E all (⟨some d, .binOp .gtr ts x y ty, t, pos, af, gd⟩ :: l) k a Q := by
 by_cases h : q < p
 ·exact ewpO_quiet hw (sq_bin hx hy (b_gtr (decide_eq_true h))) hd (h1 h)
 ·exact ewpO_quiet hw (sq_bin hx hy (b_gtr (decide_eq_false h))) hd (h2 h)
theorem ewpO_leq {x y : Operand} {kd : IntKind} {p q : Int} {ts ty : TypeId} (hw : wanted a all ⟨some d, .binOp .leq ts x y ty, t, pos, af, gd⟩ = true) (hx : a.eval x = .int kd p) (hy : a.eval y = .int kd q) (hd : Nat.blt d a.n = true)
  (h1 : p ≤ q → wpO E all l k (a.upd d (.bool true)) Q) (h2 : ¬ (p ≤ q) → wpO E all l k (a.upd d (.bool false)) Q) : wpO E all (⟨some d, .binOp .leq ts x y ty, t, pos, af, gd⟩ :: l) k a Q := by
 by_cases h : p ≤ q
 ·exact ewpO_quiet hw (sq_bin hx hy (b_leq (decide_eq_true h))) hd (h1 h)
 ·exact ewpO_quiet hw (sq_bin hx hy (b_leq (decide_eq_false h))) hd (h2 h)
theorem ewpO_eql {x y : Operand} {kd : IntKind} {p q : Int} {ts ty : TypeId} (hw : wanted a all ⟨some d, .binOp .eql ts x y ty, t, pos, af, gd⟩ = true) (hx : a.eval x = .int kd p) (hy : a.eval y = .int kd q) (hd : Nat.blt d a.n = true)
  (h1 : p = q → wpO E all l k (a.upd d (.bool true)) Q) (h2 : ¬ (p = q) → wpO E all l k (a.upd d (.bool false)) Q) : wpO E all (⟨some d, .binOp .eql ts x y ty, t, pos, af, gd⟩ :: l) k a Q := by
 by_cases h : p = q
 ·exact ewpO_quiet hw (sq_bin hx hy (b_eql (decide_eq_true h))) hd (h1 h)
 ·exact ewpO_quiet hw (sq_bin hx hy (b_eql (decide_eq_false h))) hd (h2 h)
theorem ewpO_neq {x y : Operand} {kd : IntKind} {p q : Int} {ts ty : TypeId} (hw : wanted a all ⟨some d, .binOp .neq ts x y ty, t, pos, af, gd⟩ = true) (hx : a.eval x = .int kd p) (hy : a.eval y = .int kd q) (hd : Nat.blt d a.n = true)
  (h1 : p ≠ q → wpO E all l k (a.upd d (.bool true)) Q) (h2 : ¬ (p ≠ q) → wpO E all l k (a.upd d (.bool false)) Q) : wpO E all (⟨some d, .binOp .neq ts x y ty, t, pos, af, gd⟩ :: l) k a Q := by
 by_cases h : p ≠ q
 ·exact ewpO_quiet hw (sq_bin hx hy (b_neq (neq_true h))) hd (h1 h)
 ·exact ewpO_quiet hw (sq_bin hx hy (b_neq (neq_false (Decidable.not_not.1 h)))) hd (h2 h)
theorem ewpO_seql {x y : Operand} {p q : List UInt8} {ts ty : TypeId} (hw : wanted a all ⟨some d, .binOp .eql ts x y ty, t, pos, af, gd⟩ = true) (hx : a.eval x = .string ⟨⟨p⟩⟩) (hy : a.eval y = .string ⟨⟨q⟩⟩) (hd : Nat.blt d a.n = true)
  (h1 : p = q → wpO E all l k (a.upd d (.bool true)) Q) (h2 : p ≠ q → wpO E all l k (a.upd d (.bool false)) Q) : wpO E all (⟨some d, .binOp .eql ts x y ty, t, pos, af, gd⟩ :: l) k a Q := by
 by_cases h : p = q
 ·exact ewpO_quiet hw (sq_bin hx hy (b_seql (by rw [beqb, h]; simp))) hd (h1 h)
 ·exact ewpO_quiet hw (sq_bin hx hy (b_seql (by rw [beqb]; simp [h]))) hd (h2 h)
theorem ewpO_sneq {x y : Operand} {p q : List UInt8} {ts ty : TypeId} (hw : wanted a all ⟨some d, .binOp .neq ts x y ty, t, pos, af, gd⟩ = true) (hx : a.eval x = .string ⟨⟨p⟩⟩) (hy : a.eval y = .string ⟨⟨q⟩⟩) (hd : Nat.blt d a.n = true)
  (h1 : p = q → wpO E all l k (a.upd d (.bool false)) Q) (h2 : p ≠ q → wpO E all l k (a.upd d (.bool true)) Q) : wpO E all (⟨some d, .binOp .neq ts x y ty, t, pos, af, gd⟩ :: l) k a Q := by
 by_cases h : p = q
 ·exact ewpO_quiet hw (sq_bin hx hy (b_sneq (by rw [beqb, h]; simp))) hd (h1 h)
 ·exact ewpO_quiet hw (sq_bin hx hy (b_sneq (by rw [beqb]; simp [h]))) hd (h2 h)
end
/-- all that is known of temporaries, memory and marks of a function's state. -/
theorem evs : (∀ (a : Act) (t : Nat), a.eval (.tmp t) = a.tmp t) ∧ (∀ (a : Act) (v : Value), a.eval (.const v) = v) ∧ (∀ (a : Act) (g : Nat), a.eval (.global g) = .pointer (some ⟨g, 0, none⟩)) ∧ (∀ (a : Act) (f : Nat), a.eval (.func f) = .func (.func f) #[] #[]) ∧
  (∀ (a : Act) (d j : Nat) (v : Value), (a.upd d v).tmp j = if d = j then v else a.tmp j) ∧ (∀ (a : Act) (m : Mem) (j : Nat), (a.mem m).tmp j = a.tmp j) ∧ (∀ (a : Act) (q : Nat × List Value) (j : Nat), (a.push q).tmp j = a.tmp j) ∧
  (∀ (args : List Value) (n : Nat) (m : Mem) (j : Nat), (Act.start args n m).tmp j = args.getD j undef) ∧ (∀ (x d : Value) (l : List Value), (x :: l).getD 0 d = x) ∧ (∀ (x d : Value) (l : List Value) (i : Nat), (x :: l).getD (i + 1) d = l.getD i d) ∧
  (∀ (a : Act) (d : Nat) (v : Value), (a.upd d v).m = a.m) ∧ (∀ (a : Act) (m : Mem), (a.mem m).m = m) ∧ (∀ (a : Act) (q : Nat × List Value), (a.push q).m = a.m) ∧ (∀ (args : List Value) (n : Nat) (m : Mem), (Act.start args n m).m = m) ∧
  (∀ (a : Act) (d : Nat) (v : Value), (a.upd d v).n = a.n) ∧ (∀ (a : Act) (m : Mem), (a.mem m).n = a.n) ∧ (∀ (a : Act) (q : Nat × List Value), (a.push q).n = a.n) ∧ (∀ (args : List Value) (n : Nat) (m : Mem), (Act.start args n m).n = n) ∧
  (∀ (a : Act) (d : Nat) (v : Value), (a.upd d v).defers = a.defers) ∧ (∀ (a : Act) (m : Mem), (a.mem m).defers = a.defers) ∧ (∀ (a : Act) (q : Nat × List Value), (a.push q).defers = q :: a.defers) ∧ (∀ (args : List Value) (n : Nat) (m : Mem), (Act.start args n m).defers = []) ∧
  ((!true) = false) ∧ ((!false) = true) ∧ (∀ (m : Mem) (o : AObj), (m.new o).next = m.next + 1) ∧ (∀ (m : Mem) (b : Nat) (o : AObj), (m.put b o).next = m.next) :=
 ⟨ev_tmp, ev_const, ev_global, ev_func, tmp_upd, tmp_mem, tmp_push, tmp_start, fun _ _ _ => rfl, fun _ _ _ _ => rfl, m_upd, m_mem, m_push, m_start, n_upd, n_mem, n_push, n_start, d_upd, d_mem, d_push, d_start, rfl, rfl, next_new, next_put⟩
end Go.Ev

namespace Go.Ev
set_option linter.unusedSimpArgs false
set_option linter.unusedVariables false
variable {E : Env}

theorem Row.ne {m : Mem} {b b' e e' kd kd' : Nat} {l l' : List Value} (h : Row m b l e kd) (h' : Row m b' l' e' kd') (he : e ≠ e') : b ≠ b' := by
 obtain ⟨_, c, h2, _⟩ := h
 obtain ⟨_, c', h2', _⟩ := h'
 rintro rfl
 rw [h2] at h2'
 simp only [Option.some.injEq, AObj.cells.injEq] at h2'
 exact he h2'.2.2.1

theorem put_take2 : ∀ (r l : List Value) (o : Nat), o + r.length ≤ l.length → (put l o r).take (o + r.length) = l.take o ++ r
 | [], l, o, h => by simp [put]
 | v :: r, l, o, h => by
  simp only [List.length_cons] at h
  rw [put, List.length_cons, show o + (r.length + 1) = o + 1 + r.length by omega, put_take2 r (l.set o v) (o + 1) (by simp; omega), List.take_succ_eq_append_getElem (by simp; omega)]
  simp [List.take_set_of_le]

theorem append_row {m : Mem} {e sz bytes wb n cap k : Nat} {r new : List Value} (hr : Row m wb r e 0) (hc : r.length = cap * sz) (hn : n ≤ cap) (hk : new.length = k * sz) (h1 : new.all oneCell = true)
  (hb : (n + k) * bytes ≤ 1000000000) (hb2 : n + k ≤ 1000000000) (hb3 : (n + k) * sz ≤ 1000000000) :
  ∃ wb' cap' m' r', effect.append m e sz bytes (.slice (some ⟨wb, 0, none⟩) n cap) k new = some (.slice (some ⟨wb', 0, none⟩) (n + k) cap', m') ∧ Row m' wb' r' e 0 ∧ r'.length = cap' * sz ∧ n + k ≤ cap' ∧
   r'.take ((n + k) * sz) = r.take (n * sz) ++ new ∧ (∀ x, x ≠ wb → x < m.next → m'.get x = m.get x) ∧ m.next ≤ m'.next ∧ (wb' = wb ∨ wb' = m.next) := by
 obtain ⟨h2, c, h3, h4⟩ := hr
 have hnk : (n + k) * sz = n * sz + k * sz := Nat.add_mul _ _ _
 by_cases hroom : n + k ≤ cap
 ·have hle : (n + k) * sz ≤ cap * sz := Nat.mul_le_mul_right _ hroom
  obtain ⟨c', h5, h6⟩ := storeFrom_put new r c (n * sz) h4 (by omega) h1
  refine ⟨wb, cap, m.put wb (.cells r.length c' e 0), put r (n * sz) new, ?_, ⟨h2, c', by rw [mget_put, put_length], fun i hi => h6 i (by rw [put_length] at hi; exact hi)⟩, by rw [put_length, hc], hroom, ?_, fun x hx _ => mget_put' _ _ _ hx, Nat.le_refl _, .inl rfl⟩
  ·simp only [effect.append, h3, show Nat.beq 0 1 = false from rfl, cond_false, Nat.ble_eq_true_of_le hroom, cond_true, Nat.zero_add, h5]
  ·rw [hnk, ← hk]
   exact put_take2 new r (n * sz) (by omega)
 ·have hle : n * sz ≤ cap * sz := Nat.mul_le_mul_right _ hn
  have hnb : Nat.ble (n + k) cap = false := by
   cases h : Nat.ble (n + k) cap with
   | false => rfl
   | true => exact absurd (Nat.le_of_ble_eq_true h) hroom
  have hlen : (r.take (n * sz) ++ new).length = (n + k) * sz := by rw [List.length_append, List.length_take, hnk]; omega
  refine ⟨m.next, n + k, (m.put wb .dead).new (.cells ((n + k) * sz) (ofListFrom c (n * sz) new) e 0), r.take (n * sz) ++ new, ?_, ⟨Nat.lt_succ_self _, ofListFrom c (n * sz) new, ?_, fun i hi => ?_⟩, hlen, Nat.le_refl _, ?_, fun x hx hlt => ?_, Nat.le_succ _, .inr rfl⟩
  ·simp only [effect.append, h3, show Nat.beq 0 1 = false from rfl, cond_false, hnb, Nat.ble_eq_true_of_le hn, Nat.ble_eq_true_of_le (show cap * sz ≤ r.length by omega), Tree.beq_true (rfl : e = e), Nat.beq_refl, Nat.ble_eq_true_of_le hb, Nat.ble_eq_true_of_le hb2, Nat.ble_eq_true_of_le hb3, h1, Bool.and_self, cond_true]
  ·have := mget_new (m.put wb .dead) (.cells ((n + k) * sz) (ofListFrom c (n * sz) new) e 0)
   rw [hlen]; exact this
  ·rw [get_ofList]
   rw [hlen] at hi
   by_cases hin : n * sz ≤ i
   ·rw [if_pos ⟨hin, by omega⟩, List.getElem?_append_right (by rw [List.length_take]; omega), List.length_take, Nat.min_eq_left (by omega)]
   ·rw [if_neg (by omega), List.getElem?_append_left (by rw [List.length_take]; omega), List.getElem?_take_of_lt (by omega)]
    exact h4 i (by omega)
  ·rw [List.take_of_length_le (by rw [hlen]; exact Nat.le_refl _)]
  ·have := mget_new' (m.put wb .dead) (.cells ((n + k) * sz) (ofListFrom c (n * sz) new) e 0) (b := x) hlt
   rw [this, mget_put' _ _ _ hx]

theorem append_nil {m : Mem} {e sz bytes k : Nat} {new : List Value} (hk0 : 0 < k) (hlen : new.length ≤ 1000000000) (hb : k * bytes ≤ 1000000000) (hb2 : k ≤ 1000000000) :
  effect.append m e sz bytes (.slice none 0 0) k new = some (.slice (some ⟨m.next, 0, none⟩) k k, m.new (rowObj new e 0)) := by
 have h0 : Nat.beq k 0 = false := Tree.beq_false (by omega)
 simp only [effect.append, Nat.beq_refl, Nat.ble_eq_true_of_le hb, Nat.ble_eq_true_of_le hb2, Bool.and_self, cond_true, h0, cond_false, newCells, Nat.ble_eq_true_of_le hlen, withAddr]
 rfl

theorem cellsIn_row {m : Mem} {yb k kc sz e kd : Nat} {yl new : List Value} (hy : Row m yb yl e kd) (hl : k * sz ≤ yl.length) (hn : yl.take (k * sz) = new) : effect.cellsIn m sz (.slice (some ⟨yb, 0, none⟩) k kc) = some (k, new) := by
 obtain ⟨h2, c, h3, h4⟩ := hy
 simp only [effect.cellsIn, h3, Nat.zero_add, Nat.ble_eq_true_of_le hl, cond_true, cellsFrom_list (k * sz) 0 yl h4 (by omega), List.drop_zero, hn]

section
variable {all l : List Oper} {k : List Kont} {a : Act} {Q : Ex → Act → Prop} {d : Nat} {t : TypeId} {pos : String} {af : Array Edge} {gd : Option (Nat × Bool)} {v : Value}
theorem ewpO_append {c : Go.Call} {t1 t2 e : TypeId} {x y : Operand} {vx vy v : Value} {i : TypeInfo} {z : Value} {du : TypeDesc} {kk : Nat} {new : List Value} {m' : Mem}
  (hw : wanted a all ⟨some d, .call c, t, pos, af, gd⟩ = true) (hc : c.callee = .builtin .append) (ht : c.argTypes.toList = [t1, t2]) (hx : c.args.toList = [x, y])
  (hu : E.under t1 = some (.slice e)) (hu2 : E.under t2 = some du) (hdu : rowD du = true) (hi : E.ti e = some i) (hz : i.zero = some z) (hzl : Nat.beq (cellsOf z).length i.size = true)
  (hvx : a.eval x = vx) (hvy : a.eval y = vy) (hin : effect.cellsIn a.m i.size vy = some (kk, new)) (hap : effect.append a.m e i.size i.bytes vx kk new = some (v, m'))
  (hd : Nat.blt d a.n = true) (h : wpO E all l k ((a.mem m').upd d v) Q) : wpO E all (⟨some d, .call c, t, pos, af, gd⟩ :: l) k a Q := by
 refine ewpO_effect hw ?_ ?_ ?_ hd h
 ·simp only [quiet, hc]
 ·simp only [allocs]
 ·simp only [effect, hc, ht, hx, hu, hu2, hdu, Bool.not_true, cond_false, hi, hz, hzl, cond_true, hvx, hvy, hin, hap]
end
end Go.Ev

namespace Go.Ev
set_option linter.unusedSimpArgs false
set_option linter.unusedVariables false
variable {E : Env}

theorem wpC_mono {c : Code} {a : Act} {Q R : Ex → Act → Prop} (h : wpC E c a Q) (hR : ∀ ex a', Q ex a' → R ex a') : wpC E c a R :=
 let ⟨n, ex, a', h1, h2⟩ := h; ⟨n, ex, a', h1, hR ex a' h2⟩

theorem ret_append : ∀ (k1 k2 : List Kont) (ex : Ex) (a : Act) (Q : Ex → Act → Prop), ret E k1 ex a (fun ex a' => ret E k2 ex a' Q) → ret E (k1 ++ k2) ex a Q
 | [], k2, ex, a, Q, h => h
 | .seq y :: k1, k2, ex, a, Q, h => by
  cases ex with
  | normal => exact wpC_mono h fun ex a' h' => ret_append k1 k2 ex a' Q h'
  | exit i => exact ret_append k1 k2 _ a Q h
  | ret => exact ret_append k1 k2 _ a Q h
  | goto i => exact ret_append k1 k2 _ a Q h
 | .block i :: k1, k2, ex, a, Q, h => by
  cases ex with
  | normal => exact ret_append k1 k2 _ a Q h
  | exit j =>
   simp only [ret, List.cons_append] at h ⊢
   split
   ·rename_i hj; rw [if_pos hj] at h; exact ret_append k1 k2 _ a Q h
   ·rename_i hj; rw [if_neg hj] at h; exact ret_append k1 k2 _ a Q h
  | ret => exact ret_append k1 k2 _ a Q h
  | goto i => exact ret_append k1 k2 _ a Q h
 | .loop x :: k1, k2, ex, a, Q, h => by
  cases ex with
  | normal => exact wpC_mono h fun ex a' h' => ret_append k1 k2 ex a' Q h'
  | exit i => exact ret_append k1 k2 _ a Q h
  | ret => exact ret_append k1 k2 _ a Q h
  | goto i => exact ret_append k1 k2 _ a Q h

/-- the rest of a region and what stands first behind it, apart from all that comes then. -/
theorem ewpO_cut {all l : List Oper} {K : Kont} {k : List Kont} {a : Act} {Q : Ex → Act → Prop} (P : Act → Prop) (h : wpO E all l [K] a fun ex a' => ex = .normal ∧ P a') (h2 : ∀ a', P a' → ret E k .normal a' Q) : wpO E all l (K :: k) a Q := by
 obtain ⟨n, a', h1, h3⟩ := h
 refine ⟨n, a', h1, ret_append [K] k .normal a' Q ?_⟩
 have mono : ∀ (ks : List Kont) (ex : Ex) (a : Act) (R S : Ex → Act → Prop), (∀ ex a, R ex a → S ex a) → ret E ks ex a R → ret E ks ex a S := by
  intro ks
  induction ks with
  | nil => intro ex a R S hRS h; exact hRS ex a h
  | cons K ks ih =>
   intro ex a R S hRS h
   cases K with
   | seq y =>
    cases ex with
    | normal => exact wpC_mono h fun ex a' h' => ih ex a' R S hRS h'
    | exit i => exact ih _ _ R S hRS h
    | ret => exact ih _ _ R S hRS h
    | goto i => exact ih _ _ R S hRS h
   | block i =>
    cases ex with
    | normal => exact ih _ _ R S hRS h
    | exit j =>
     simp only [ret] at h ⊢
     split
     ·rename_i hj; rw [if_pos hj] at h; exact ih _ _ R S hRS h
     ·rename_i hj; rw [if_neg hj] at h; exact ih _ _ R S hRS h
    | ret => exact ih _ _ R S hRS h
    | goto i => exact ih _ _ R S hRS h
   | loop x =>
    cases ex with
    | normal => exact wpC_mono h fun ex a' h' => ih ex a' R S hRS h'
    | exit i => exact ih _ _ R S hRS h
    | ret => exact ih _ _ R S hRS h
    | goto i => exact ih _ _ R S hRS h
 exact mono [K] .normal a' _ _ (fun ex a'' h => by obtain ⟨rfl, hP⟩ := h; exact h2 a'' hP) h3
end Go.Ev

namespace Go.Ev
set_option linter.unusedSimpArgs false
set_option linter.unusedVariables false
variable {E : Env}

/-! One step of a symbolic run: a lemma for each kind of operation; the side goals bear marks, so that one solver fits all. -/
inductive Rf {α : Type} : α → α → Prop where
 | mk {x : α} : Rf x x
theorem Rf.h {α : Type} {x y : α} (h : Rf x y) : x = y := by cases h; rfl
inductive Ev (a : Act) (x : Operand) (v : Value) : Prop where
 | mk (h : a.eval x = v)
theorem Ev.h {a : Act} {x : Operand} {v : Value} : Ev a x v → a.eval x = v | .mk h => h
inductive Dn (a : Act) (d : Nat) : Prop where
 | mk (h : Nat.blt d a.n = true)
theorem Dn.h {a : Act} {d : Nat} : Dn a d → Nat.blt d a.n = true | .mk h => h
inductive Bn (E : Env) (m : Mem) (op : BinOp) (t : TypeId) (p q v : Value) : Prop where
 | mk (h : binOp E m op t p q = some v)
theorem Bn.h {m : Mem} {op : BinOp} {t : TypeId} {p q v : Value} : Bn E m op t p q v → binOp E m op t p q = some v | .mk h => h
inductive Ld (E : Env) (m : Mem) (t : TypeId) (b o : Nat) (v : Value) : Prop where
 | mk (h : loadAt E m t b o = some v)
theorem Ld.h {m : Mem} {t : TypeId} {b o : Nat} {v : Value} : Ld E m t b o v → loadAt E m t b o = some v | .mk h => h
inductive Om (p : Prop) : Prop where
 | mk (h : p)
theorem Om.h {p : Prop} : Om p → p | .mk h => h
inductive Hy (p : Prop) : Prop where
 | mk (h : p)
theorem Hy.h {p : Prop} : Hy p → p | .mk h => h
inductive Kr (p : Prop) : Prop where
 | mk (h : p)
theorem Kr.h {p : Prop} : Kr p → p | .mk h => h
inductive Evp (a : Act) : List (Nat × Operand) → List (Nat × Value) → Prop where
 | nil : Evp a [] []
 | cons {i : Nat} {x : Operand} {v : Value} {l : List (Nat × Operand)} {r : List (Nat × Value)} (h : Ev a x v) (hl : Evp a l r) : Evp a ((i, x) :: l) ((i, v) :: r)
theorem Evp.h {a : Act} : ∀ {l : List (Nat × Operand)} {r : List (Nat × Value)}, Evp a l r → EvalP a.eval l r
 | _, _, .nil => .nil
 | _, _, .cons h hl => .cons h.h hl.h
inductive Evl (a : Act) : List Operand → List Value → Prop where
 | nil : Evl a [] []
 | cons {x : Operand} {v : Value} {l : List Operand} {r : List Value} (h : Ev a x v) (hl : Evl a l r) : Evl a (x :: l) (v :: r)
theorem Evl.h {a : Act} : ∀ {l : List Operand} {r : List Value}, Evl a l r → EvalL a.eval l r
 | _, _, .nil => .nil
 | _, _, .cons h hl => .cons h.h hl.h
inductive Rn (E : Env) (g : Nat) (args : List Value) (m : Mem) (R : Value → Mem → Prop) : Prop where
 | mk (h : Runs E g args m R)
theorem Rn.h {g : Nat} {args : List Value} {m : Mem} {R : Value → Mem → Prop} : Rn E g args m R → Runs E g args m R | .mk h => h
inductive Cn (p : Prop) : Prop where
 | mk (h : p)
theorem Cn.h {p : Prop} : Cn p → p | .mk h => h
/-- one of two. -/
inductive Sel : Bool → Prop → Prop → Prop where
 | T {x y : Prop} (h : x) : Sel true x y
 | F {x y : Prop} (h : y) : Sel false x y
theorem Sel.t {x y : Prop} : Sel true x y → x | .T h => h
theorem Sel.f {x y : Prop} : Sel false x y → y | .F h => h

section
variable {k : List Kont} {a : Act} {Q : Ex → Act → Prop} {x y : Code}
theorem g_T {p q : Prop} (h : p) : Sel true p q := .T h
theorem g_F {p q : Prop} (h : q) : Sel false p q := .F h
theorem g_cond {c : Operand} {b : Bool} (hc : Ev a c (.bool b)) (h : Sel b (wp E x k a Q) (wp E y k a Q)) : wp E (.cond c x y) k a Q := by
 cases b
 ·exact ewp_condF hc.h h.f
 ·exact ewp_condT hc.h h.t
theorem g_block {i j : Nat} {b : Bool} (hb : Rf (Nat.beq j i) b) (h : Sel b (ret E k .normal a Q) (ret E k (.exit j) a Q)) : ret E (.block i :: k) (.exit j) a Q := by
 cases b
 ·exact eret_block_other hb.h h.f
 ·have : j = i := Nat.eq_of_beq_eq_true hb.h
  subst this
  exact eret_block_same h.t
theorem g_regionD {i : Nat} {ops : Array Oper} (hp : Kr (planText E ops.toList = true)) (h : wpO E ops.toList ops.toList k a Q) : wp E (.region i ops true) k a Q := ewp_regionD hp.h h
/- the main goal, as it is. -/
theorem g_wp {c : Code} (h : wp E c k a Q) : wp E c k a Q := h
theorem g_ret {ex : Ex} (h : ret E k ex a Q) : ret E k ex a Q := h
theorem g_wpO {all l : List Oper} (h : wpO E all l k a Q) : wpO E all l k a Q := h
theorem g_sel {b : Bool} {p q : Prop} (h : Sel b p q) : Sel b p q := h
end

/-- what a guard says of a value. -/
def isB : Value → Bool → Bool
 | .bool b, want => b == want
 | _, _ => false
def gdst (all : List Oper) (j : Nat) : Option Tmp := match nth all j with
 | some o => o.dst
 | none => none

section
variable {all l : List Oper} {k : List Kont} {a : Act} {Q : Ex → Act → Prop} {d : Nat} {op : Op} {t : TypeId} {pos : String} {af : Array Edge} {v : Value}
theorem wanted_isB {dst : Option Tmp} {j dj : Nat} {b' r : Bool} (h1 : gdst all j = some dj) (h2 : a.tmp dj = v) (h3 : isB v b' = r) : wanted a all ⟨dst, op, t, pos, af, some (j, b')⟩ = r := by
 unfold gdst at h1
 unfold wanted
 split at h1
 ·rename_i o ho
  simp only [ho, h1, h2]
  rw [← h3]
  unfold isB
  cases v <;> rfl
 ·cases h1
theorem opers_guard {dst : Option Tmp} {j : Nat} {b' : Bool} (h1 : wanted a all ⟨dst, op, t, pos, af, some (j, b')⟩ = true) (h : wpO E all (⟨dst, op, t, pos, af, none⟩ :: l) k a Q) : wpO E all (⟨dst, op, t, pos, af, some (j, b')⟩ :: l) k a Q := by
 obtain ⟨n, a', h3, h4⟩ := h
 refine ⟨n, a', ?_, h4⟩
 rw [← h3]
 simp only [opers, stepOp, h1, show wanted a all ⟨dst, op, t, pos, af, none⟩ = true from rfl, cond_true]
 rfl
/-- a guarded operation. -/
theorem g_guard {j dj : Nat} {b' r : Bool} (h1 : Rf (gdst all j) (some dj)) (h2 : Ev a (.tmp dj) v) (h3 : Rf (isB v b') r) (hd : Dn a d)
  (h : Sel r (wpO E all (⟨some d, op, t, pos, af, none⟩ :: l) k a Q) (wpO E all l k (a.upd d undef) Q)) : wpO E all (⟨some d, op, t, pos, af, some (j, b')⟩ :: l) k a Q := by
 have hw := wanted_isB (dst := some d) (op := op) (t := t) (pos := pos) (af := af) h1.h h2.h h3.h
 cases r
 ·exact ewpO_skip hw hd.h h.f
 ·exact opers_guard hw h.t
theorem g_guard0 {j dj : Nat} {b' r : Bool} (h1 : Rf (gdst all j) (some dj)) (h2 : Ev a (.tmp dj) v) (h3 : Rf (isB v b') r)
  (h : Sel r (wpO E all (⟨none, op, t, pos, af, none⟩ :: l) k a Q) (wpO E all l k a Q)) : wpO E all (⟨none, op, t, pos, af, some (j, b')⟩ :: l) k a Q := by
 have hw := wanted_isB (dst := none) (op := op) (t := t) (pos := pos) (af := af) h1.h h2.h h3.h
 cases r
 ·exact ewpO_skip0 hw h.f
 ·exact opers_guard hw h.t
theorem g_move {x : Operand} (hx : Ev a x v) (hd : Dn a d) (h : wpO E all l k (a.upd d v) Q) : wpO E all (⟨some d, .move x, t, pos, af, none⟩ :: l) k a Q := ewpO_quiet rfl (sq_move hx.h) hd.h h
theorem g_assign {x : Operand} (hx : Ev a x v) (hd : Dn a d) (h : wpO E all l k (a.upd d v) Q) : wpO E all (⟨some d, .assign x, t, pos, af, none⟩ :: l) k a Q := ewpO_quiet rfl (sq_assign hx.h) hd.h h
theorem g_pick {c x y : Operand} {b : Bool} {vx vy : Value} (hc : Ev a c (.bool b)) (hx : Ev a x vx) (hy : Ev a y vy) (hd : Dn a d) (h : Sel b (wpO E all l k (a.upd d vx) Q) (wpO E all l k (a.upd d vy) Q)) : wpO E all (⟨some d, .pick c x y, t, pos, af, none⟩ :: l) k a Q := by
 cases b
 ·exact ewpO_quiet rfl (sq_pickF hc.h hy.h) hd.h h.f
 ·exact ewpO_quiet rfl (sq_pickT hc.h hx.h) hd.h h.t
theorem g_load {x : Operand} {ty b o : Nat} (hx : Ev a x (.pointer (some ⟨b, o, none⟩))) (hl : Ld E a.m ty b o v) (hd : Dn a d) (h : wpO E all l k (a.upd d v) Q) : wpO E all (⟨some d, .load ty x, t, pos, af, none⟩ :: l) k a Q := ewpO_quiet rfl (sq_load hx.h hl.h) hd.h h
theorem g_nil {x : Operand} {p : Addr} (hx : Ev a x (.pointer (some p))) (hd : Dn a d) (h : wpO E all l k (a.upd d (.pointer (some p))) Q) : wpO E all (⟨some d, .nilCheck x, t, pos, af, none⟩ :: l) k a Q := ewpO_quiet rfl (sq_nil hx.h) hd.h h
theorem g_nil0 {x : Operand} {p : Addr} (hx : Ev a x (.pointer (some p))) (h : wpO E all l k a Q) : wpO E all (⟨none, .nilCheck x, t, pos, af, none⟩ :: l) k a Q := ewpO_quiet0 rfl (sq_nil hx.h) h
theorem g_bin {x y : Operand} {bop : BinOp} {p q : Value} {ts ty : TypeId} (hx : Ev a x p) (hy : Ev a y q) (hb : Bn E a.m bop ts p q v) (hd : Dn a d) (h : wpO E all l k (a.upd d v) Q) : wpO E all (⟨some d, .binOp bop ts x y ty, t, pos, af, none⟩ :: l) k a Q := ewpO_quiet rfl (sq_bin hx.h hy.h hb.h) hd.h h
theorem g_un {x : Operand} {uop : UnOp} {p : Value} {ts : TypeId} (hx : Ev a x p) (hb : Rf (unOp uop p) (some v)) (hd : Dn a d) (h : wpO E all l k (a.upd d v) Q) : wpO E all (⟨some d, .unOp uop ts x, t, pos, af, none⟩ :: l) k a Q := ewpO_quiet rfl (sq_un hx.h hb.h) hd.h h
theorem g_extract {x : Operand} {i : Nat} {vs : List Value} (hx : Ev a x (.tuple ⟨vs⟩)) (hv : Rf (nth vs i) (some v)) (hd : Dn a d) (h : wpO E all l k (a.upd d v) Q) : wpO E all (⟨some d, .extract x i, t, pos, af, none⟩ :: l) k a Q := ewpO_quiet rfl (sq_extract hx.h hv.h) hd.h h
theorem g_fieldAddr {ts : TypeId} {x : Operand} {f b o sz : Nat} {fs : Array Field} {fd : Field} (hu : Rf (E.under ts) (some (.struct fs))) (hx : Ev a x (.pointer (some ⟨b, o, none⟩))) (hf : Rf (nth fs.toList f) (some fd)) (hs : Rf (E.size fd.type) (some (sz + 1))) (hd : Dn a d)
  (h : wpO E all l k (a.upd d (.pointer (some ⟨b, o + fd.offset, none⟩))) Q) : wpO E all (⟨some d, .fieldAddr ts x f, t, pos, af, none⟩ :: l) k a Q := ewpO_quiet rfl (sq_fieldAddr hu.h hx.h hf.h hs.h) hd.h h
/-- a row that is looked into: its elements' type, place, length. -/
def rowOf (d : Option TypeDesc) (v : Value) : Option (Nat × Nat × Nat × Nat) := match d, v with
 | some (.slice e), .slice (some ⟨b, o, none⟩) len _ => some (e, b, o, len)
 | some (.array len e), .pointer (some ⟨b, o, none⟩) => some (e, b, o, len)
 | _, _ => none
theorem g_indexAddr {ts : TypeId} {x y : Operand} {e b o len j sz : Nat} {kd : IntKind} (hx : Ev a x v) (hu : Rf (rowOf (E.under ts) v) (some (e, b, o, len))) (hi : Ev a y (.int kd (Int.ofNat j))) (hj : Om (j < len)) (hs : Rf (E.size e) (some sz)) (hd : Dn a d)
  (h : wpO E all l k (a.upd d (.pointer (some ⟨b, o + j * sz, none⟩))) Q) : wpO E all (⟨some d, .indexAddr ts x y, t, pos, af, none⟩ :: l) k a Q := by
 replace hu := hu.h
 unfold rowOf at hu
 split at hu
 ·rename_i e' b' o' len' cap' hu'
  cases hu
  exact ewpO_quiet rfl (sq_indexAddr hu' hx.h hi.h hj.h hs.h) hd.h h
 ·rename_i len' e' b' o' hu'
  cases hu
  exact ewpO_quiet rfl (sq_indexAddrA hu' hx.h hi.h hj.h hs.h) hd.h h
 ·cases hu
theorem g_indexS {ts : TypeId} {x y : Operand} {s : List UInt8} {j : Nat} {kd : IntKind} {c : UInt8} (hu : Rf (E.under ts) (some .string)) (hx : Ev a x (.string ⟨⟨s⟩⟩)) (hi : Ev a y (.int kd (Int.ofNat j))) (hc : Hy (nth s j = some c)) (hd : Dn a d)
  (h : wpO E all l k (a.upd d (.int .u8 c.toNat)) Q) : wpO E all (⟨some d, .index ts x y, t, pos, af, none⟩ :: l) k a Q := ewpO_quiet rfl (sq_indexS hu.h hx.h hi.h hc.h) hd.h h
/-- a field's value. -/
def fldV (agg : Bool) (l : List Value) (o k : Nat) : Option Value := bif agg then some (.agg ⟨(l.drop o).take k⟩) else nth l o
theorem g_field {ts : TypeId} {x : Operand} {f sz : Nat} {fs : Array Field} {fd : Field} {vs : List Value} {du : TypeDesc} {ag : Bool} (hu : Rf (E.under ts) (some (.struct fs))) (hx : Ev a x (.agg ⟨vs⟩)) (hf : Rf (nth fs.toList f) (some fd)) (hs : Rf (E.size fd.type) (some sz)) (hdu : Rf (E.under fd.type) (some du)) (ha : Rf (isAggD du) ag)
  (hv : Rf (fldV ag vs fd.offset sz) (some v)) (hd : Dn a d) (h : wpO E all l k (a.upd d v) Q) : wpO E all (⟨some d, .field ts x f, t, pos, af, none⟩ :: l) k a Q := by
 cases ag
 ·exact ewpO_quiet rfl (sq_field1 hu.h hx.h hf.h hs.h hdu.h ha.h hv.h) hd.h h
 ·cases (Option.some.inj hv.h : Value.agg ⟨(vs.drop fd.offset).take sz⟩ = v)
  exact ewpO_quiet rfl (sq_fieldA hu.h hx.h hf.h hs.h hdu.h ha.h rfl) hd.h h
/-- a length. -/
def lenV (d : Option TypeDesc) (v : Value) : Option Nat := match d, v with
 | some (.slice _), .slice _ n _ => some n
 | some .string, .string ⟨⟨s⟩⟩ => some s.length
 | _, _ => none
theorem g_len {ts : TypeId} {x : Operand} {n : Nat} (hv : Ev a x v) (hn : Rf (lenV (E.under ts) v) (some n)) (hd : Dn a d)
  (h : wpO E all l k (a.upd d (.int .i64 n)) Q) : wpO E all (⟨some d, .call ⟨.builtin .len, #[x], #[ts]⟩, t, pos, af, none⟩ :: l) k a Q := by
 refine ewpO_quiet rfl ?_ hd.h h
 replace hn := hn.h
 unfold lenV at hn
 split at hn
 ·rename_i e a n' c' hu
  cases hn
  exact sq_len rfl rfl rfl hu hv.h
 ·rename_i s hu
  cases hn
  exact sq_lenS rfl rfl rfl hu hv.h
 ·cases hn
theorem g_max {at_ : Array TypeId} {x y : Operand} {kd kd' : IntKind} {p q r : Int} (h1 : Ev a x (.int kd p)) (h2 : Ev a y (.int kd' q)) (hr : Rf (max p q) r) (hd : Dn a d)
  (h : wpO E all l k (a.upd d (.int kd r)) Q) : wpO E all (⟨some d, .call ⟨.builtin .max, #[x, y], at_⟩, t, pos, af, none⟩ :: l) k a Q := ewpO_quiet rfl (sq_max rfl rfl h1.h h2.h hr.h) hd.h h
theorem g_min {at_ : Array TypeId} {x y : Operand} {kd kd' : IntKind} {p q r : Int} (h1 : Ev a x (.int kd p)) (h2 : Ev a y (.int kd' q)) (hr : Rf (min p q) r) (hd : Dn a d)
  (h : wpO E all l k (a.upd d (.int kd r)) Q) : wpO E all (⟨some d, .call ⟨.builtin .min, #[x, y], at_⟩, t, pos, af, none⟩ :: l) k a Q := ewpO_quiet rfl (sq_min rfl rfl h1.h h2.h hr.h) hd.h h
theorem g_sliceHi {ts : TypeId} {x y : Operand} {e b o len cap n sz : Nat} {kd : IntKind} (hu : Rf (E.under ts) (some (.slice e))) (hx : Ev a x (.slice (some ⟨b, o, none⟩) len cap)) (hy : Ev a y (.int kd (Int.ofNat n))) (hh : Om (n ≤ cap)) (hs : Rf (E.size e) (some sz)) (hd : Dn a d)
  (h : wpO E all l k (a.upd d (.slice (some ⟨b, o, none⟩) n cap)) Q) : wpO E all (⟨some d, .slice ts x none (some y) none, t, pos, af, none⟩ :: l) k a Q := ewpO_quiet rfl (sq_sliceHi hu.h hx.h hy.h hh.h hs.h) hd.h h
/-- the parts of a struct or an array. -/
def partsV (E : Env) (ts : TypeId) (z : Value) (ps : List (Nat × Value)) : Option (List Value) := match E.under ts with
 | some (.struct fs) => match places E fs.toList with
  | some pl => fill (nth pl) (cellsOf z) ps
  | none => none
 | some (.array _ e) => match E.size e with
  | some sz => fill (fun i => some (i * sz, sz)) (cellsOf z) ps
  | none => none
 | _ => none
theorem g_build {ts : TypeId} {z : Value} {parts : Array (Nat × Operand)} {ps : List (Nat × Value)} {r : List Value} (hz : Rf (E.zero ts) (some z)) (hp : Evp a parts.toList ps) (hf : Rf (partsV E ts z ps) (some r)) (hd : Dn a d)
  (h : wpO E all l k (a.upd d (.agg ⟨r⟩)) Q) : wpO E all (⟨some d, .build ts parts, t, pos, af, none⟩ :: l) k a Q := by
 refine ewpO_quiet rfl ?_ hd.h h
 replace hf := hf.h
 unfold partsV at hf
 split at hf
 ·rename_i fs hu
  split at hf
  ·rename_i pl hpl; exact sq_build hz.h hu hpl hp.h hf
  ·cases hf
 ·rename_i n e hu
  split at hf
  ·rename_i sz hs; exact sq_buildA hz.h hu hs hp.h hf
  ·cases hf
 ·cases hf
theorem g_box {e : TypeId} {x : Operand} {r : List Value} (hx : Ev a x v) (hl : Rf (cellsOf v) r) (hn : Rf (Nat.ble r.length 1000000000) true) (hd : Dn a d)
  (h : wpO E all l k ((a.mem (a.m.new (rowObj r e 0))).upd d (.pointer (some ⟨a.m.next, 0, none⟩))) Q) : wpO E all (⟨some d, .box e x, t, pos, af, none⟩ :: l) k a Q := ewpO_box rfl hx.h hl.h hn.h hd.h h
theorem g_new {e : TypeId} {z : Value} {r : List Value} (hz : Rf (E.zero e) (some z)) (hl : Rf (cellsOf z) r) (hn : Rf (Nat.ble r.length 1000000000) true) (hd : Dn a d)
  (h : wpO E all l k ((a.mem (a.m.new (rowObj r e 0))).upd d (.pointer (some ⟨a.m.next, 0, none⟩))) Q) : wpO E all (⟨some d, .alloc e, t, pos, af, none⟩ :: l) k a Q := ewpO_new rfl hz.h hl.h hn.h hd.h h
theorem g_buildSlice {ts : TypeId} {len e sz : Nat} {z : Value} {parts : Array (Nat × Operand)} {ps : List (Nat × Value)} {r : List Value} (hu : Rf (E.under ts) (some (.slice e))) (hs : Rf (E.size e) (some sz)) (hz : Rf (E.zero e) (some z)) (hb : Rf (Nat.ble (len * sz) 10000000 && Nat.beq (cellsOf z).length sz) true) (hp : Evp a parts.toList ps)
  (hf : Rf (fill (fun i => some (i * sz, sz)) (repeatList (cellsOf z) len) ps) (some r)) (hn : Rf (Nat.ble r.length 1000000000) true) (hd : Dn a d)
  (h : wpO E all l k ((a.mem (a.m.new (rowObj r e 0))).upd d (.slice (some ⟨a.m.next, 0, none⟩) len len)) Q) : wpO E all (⟨some d, .buildSlice ts len parts, t, pos, af, none⟩ :: l) k a Q := ewpO_buildSlice rfl hu.h hs.h hz.h hb.h hp.h hf.h hn.h hd.h h
theorem g_makeMap {ty : TypeId} (hd : Dn a d) (h : wpO E all l k ((a.mem (a.m.new (.map []))).upd d (.map (some a.m.next))) Q) : wpO E all (⟨some d, .makeMap ty none, t, pos, af, none⟩ :: l) k a Q := ewpO_makeMap rfl hd.h h
theorem g_run {as : Array Operand} {at_ : Array TypeId} {f : Operand} {g : Nat} {first cap vs : List Value} {R : Value → Mem → Prop} (hf : Ev a f (.func (.func g) ⟨first⟩ ⟨cap⟩)) (ha : Evl a as.toList vs) (hr : Rn E g (first ++ vs ++ cap) a.m R) (hd : Dn a d)
  (h : Cn (∀ v m', R v m' → wpO E all l k ((a.mem m').upd d v) Q)) : wpO E all (⟨some d, .call ⟨.value f, as, at_⟩, t, pos, af, none⟩ :: l) k a Q := ewpO_run rfl rfl (target_of rfl hf.h ha.h) hr.h hd.h h.h
theorem g_run0 {as : Array Operand} {at_ : Array TypeId} {f : Operand} {g : Nat} {first cap vs : List Value} {R : Value → Mem → Prop} (hf : Ev a f (.func (.func g) ⟨first⟩ ⟨cap⟩)) (ha : Evl a as.toList vs) (hr : Rn E g (first ++ vs ++ cap) a.m R)
  (h : Cn (∀ v m', R v m' → wpO E all l k (a.mem m') Q)) : wpO E all (⟨none, .call ⟨.value f, as, at_⟩, t, pos, af, none⟩ :: l) k a Q := ewpO_run0 rfl rfl (target_of rfl hf.h ha.h) hr.h h.h
/-- what a comparison asks. -/
inductive Cp : BinOp → Value → Value → Prop → Prop where
 | lss {kd : IntKind} {p q : Int} : Cp .lss (.int kd p) (.int kd q) (p < q)
 | leq {kd : IntKind} {p q : Int} : Cp .leq (.int kd p) (.int kd q) (p ≤ q)
 | gtr {kd : IntKind} {p q : Int} : Cp .gtr (.int kd p) (.int kd q) (q < p)
 | geq {kd : IntKind} {p q : Int} : Cp .geq (.int kd p) (.int kd q) (q ≤ p)
 | eql {kd : IntKind} {p q : Int} : Cp .eql (.int kd p) (.int kd q) (p = q)
 | neq {kd : IntKind} {p q : Int} : Cp .neq (.int kd p) (.int kd q) (p ≠ q)
 | seql {p q : List UInt8} : Cp .eql (.string ⟨⟨p⟩⟩) (.string ⟨⟨q⟩⟩) (p = q)
 | sneq {p q : List UInt8} : Cp .neq (.string ⟨⟨p⟩⟩) (.string ⟨⟨q⟩⟩) (p ≠ q)
inductive Dc : Prop → Bool → Prop where
 | t {P : Prop} (h : P) : Dc P true
 | f {P : Prop} (h : ¬ P) : Dc P false
theorem Dc.r {α : Type} {x : α} : Dc (x = x) true := .t rfl
theorem Dc.s {α : Type} {x : α} : Dc (x ≠ x) false := .f fun h => h rfl
theorem Cp.bin {m : Mem} {ts : TypeId} {bop : BinOp} {p q : Value} {P : Prop} {r : Bool} (hc : Cp bop p q P) (hr : Dc P r) : Bn E m bop ts p q (.bool r) := by
 cases hc <;> cases hr
 ·exact .mk (b_lss (decide_eq_true ‹_›))
 ·exact .mk (b_lss (decide_eq_false ‹_›))
 ·exact .mk (b_leq (decide_eq_true ‹_›))
 ·exact .mk (b_leq (decide_eq_false ‹_›))
 ·exact .mk (b_gtr (decide_eq_true ‹_›))
 ·exact .mk (b_gtr (decide_eq_false ‹_›))
 ·exact .mk (b_geq (decide_eq_true ‹_›))
 ·exact .mk (b_geq (decide_eq_false ‹_›))
 ·exact .mk (b_eql (decide_eq_true ‹_›))
 ·exact .mk (b_eql (decide_eq_false ‹_›))
 ·exact .mk (b_neq (neq_true ‹_›))
 ·exact .mk (b_neq (neq_false (Decidable.not_not.1 ‹_›)))
 ·exact .mk (b_seql (by rw [beqb]; exact decide_eq_true ‹_›))
 ·exact .mk (b_seql (by rw [beqb]; exact decide_eq_false ‹_›))
 ·exact .mk (b_sneq (by rw [beqb, decide_eq_false ‹_›]; rfl))
 ·exact .mk (b_sneq (by rw [beqb, decide_eq_true (Decidable.not_not.1 ‹_›)]; rfl))
/-- both answers. -/
theorem g_split {x y : Operand} {bop : BinOp} {p q : Value} {ts ty : TypeId} {P : Prop} (hx : Ev a x p) (hy : Ev a y q) (hc : Cp bop p q P) (hd : Dn a d)
  (h1 : P → wpO E all l k (a.upd d (.bool true)) Q) (h2 : ¬ P → wpO E all l k (a.upd d (.bool false)) Q) : wpO E all (⟨some d, .binOp bop ts x y ty, t, pos, af, none⟩ :: l) k a Q := by
 by_cases h : P
 ·exact g_bin hx hy (hc.bin (.t h)) hd (h1 h)
 ·exact g_bin hx hy (hc.bin (.f h)) hd (h2 h)
end

section
variable {m : Mem} {t : TypeId} {a b : Int}
theorem n_add {s : Int} (hr : a + b = s) (h : -9223372036854775808 ≤ s ∧ s ≤ 9223372036854775807) : Bn E m .add t (.int .i64 a) (.int .i64 b) (.int .i64 s) := .mk (b_add hr h)
theorem n_sub {s : Int} (hr : a - b = s) (h : -9223372036854775808 ≤ s ∧ s ≤ 9223372036854775807) : Bn E m .sub t (.int .i64 a) (.int .i64 b) (.int .i64 s) := .mk (b_sub hr h)
/-- a slice against nil. -/
theorem n_peq {e : Nat} {s : Option Addr} {n c : Nat} {r : Bool} (hu : Rf (E.under t) (some (.slice e))) (hr : Rf s.isNone r) : Bn E m .eql t (.slice s n c) (.slice none 0 0) (.bool r) := .mk (b_peqNil hu.h hr.h)
theorem n_pne {e : Nat} {s : Option Addr} {n c : Nat} {r : Bool} (hu : Rf (E.under t) (some (.slice e))) (hr : Rf s.isSome r) : Bn E m .neq t (.slice s n c) (.slice none 0 0) (.bool r) := .mk (b_pneNil hu.h hr.h)
end

/-! The end of a function. -/
inductive Rs (a : Act) : List ResultVar → List Value → Prop where
 | nil : Rs a [] []
 | cons {t : Nat} {l : List ResultVar} {r : List Value} {v : Value} (hv : Ev a (.tmp t) v) (h : Rs a l r) : Rs a (.tmp t :: l) (v :: r)
theorem Rs.h {a : Act} : ∀ {l : List ResultVar} {r : List Value}, Rs a l r → results E a l = some r
 | _, _, .nil => rfl
 | _, _, .cons hv h => res_tmp hv.h h.h
theorem g_fin {rs : List ResultVar} {Q : Value → Mem → Prop} {a : Act} {vs : List Value} (hr : Rs a rs vs) (hd : a.defers = []) (h : Q (one vs) a.m) : ret E [] .ret a (fin E rs Q) := eret_nil (fin_ret hd hr.h h)
/-- a store. -/
def Ld0 (x y : Option Mem) : Prop := x = y
theorem g_store {all l : List Oper} {k : List Kont} {a : Act} {Q : Ex → Act → Prop} {t : TypeId} {pos : String} {af : Array Edge} {v : Value} {ts : TypeId} {x y : Operand} {b o : Nat} {m' : Mem} (hx : Ev a x (.pointer (some ⟨b, o, none⟩))) (hy : Ev a y v) (hs : Ld0 (storeAt E a.m ts b o v) (some m'))
  (h : wpO E all l k (a.mem m') Q) : wpO E all (⟨none, .store ts x y, t, pos, af, none⟩ :: l) k a Q := ewpO_store rfl hx.h hy.h hs h
/-- one step of any kind. -/
inductive G : Prop → Prop where
 | wseq {E : Env} {k : List Kont} {a : Act} {Q : Ex → Act → Prop} {x : Code} {y : Code} (h : wp E x (.seq y :: k) a Q) : G (wp E (.seq x y) k a Q)
 | rseq {E : Env} {k : List Kont} {a : Act} {Q : Ex → Act → Prop} {y : Code} (h : wp E y k a Q) : G (ret E (.seq y :: k) .normal a Q)
 | wskip {E : Env} {k : List Kont} {a : Act} {Q : Ex → Act → Prop} (h : ret E k .normal a Q) : G (wp E .skip k a Q)
 | wregion {E : Env} {k : List Kont} {a : Act} {Q : Ex → Act → Prop} {i : Nat} {ops : Array Oper} (h : wpO E ops.toList ops.toList k a Q) : G (wp E (.region i ops false) k a Q)
 | onil {E : Env} {k : List Kont} {a : Act} {Q : Ex → Act → Prop} {all : List Oper} (h : ret E k .normal a Q) : G (wpO E all [] k a Q)
 | wblock {E : Env} {k : List Kont} {a : Act} {Q : Ex → Act → Prop} {x : Code} {i : Nat} (h : wp E x (.block i :: k) a Q) : G (wp E (.block i x) k a Q)
 | rblock {E : Env} {k : List Kont} {a : Act} {Q : Ex → Act → Prop} {i : Nat} (h : ret E k .normal a Q) : G (ret E (.block i :: k) .normal a Q)
 | wexit {E : Env} {k : List Kont} {a : Act} {Q : Ex → Act → Prop} {i : Nat} (h : ret E k (.exit i) a Q) : G (wp E (.exit i) k a Q)
 | rseq_exit {E : Env} {k : List Kont} {a : Act} {Q : Ex → Act → Prop} {y : Code} {i : Nat} (h : ret E k (.exit i) a Q) : G (ret E (.seq y :: k) (.exit i) a Q)
 | rloop_exit {E : Env} {k : List Kont} {a : Act} {Q : Ex → Act → Prop} {x : Code} {i : Nat} (h : ret E k (.exit i) a Q) : G (ret E (.loop x :: k) (.exit i) a Q)
 | wret {E : Env} {k : List Kont} {a : Act} {Q : Ex → Act → Prop} (h : ret E k .ret a Q) : G (wp E .ret k a Q)
 | rseq_ret {E : Env} {k : List Kont} {a : Act} {Q : Ex → Act → Prop} {y : Code} (h : ret E k .ret a Q) : G (ret E (.seq y :: k) .ret a Q)
 | rblock_ret {E : Env} {k : List Kont} {a : Act} {Q : Ex → Act → Prop} {i : Nat} (h : ret E k .ret a Q) : G (ret E (.block i :: k) .ret a Q)
 | rloop_ret {E : Env} {k : List Kont} {a : Act} {Q : Ex → Act → Prop} {x : Code} (h : ret E k .ret a Q) : G (ret E (.loop x :: k) .ret a Q)
 | wlabel {E : Env} {k : List Kont} {a : Act} {Q : Ex → Act → Prop} {l : Nat} (h : ret E k .normal a Q) : G (wp E (.label l) k a Q)
 | sT  {p q : Prop} (h : p) : G (Sel true p q)
 | sF  {p q : Prop} (h : q) : G (Sel false p q)
 | cond {E : Env} {k : List Kont} {a : Act} {Q : Ex → Act → Prop} {x : Code} {y : Code} {c : Operand} {b : Bool} (hc : Ev a c (.bool b)) (h : Sel b (wp E x k a Q) (wp E y k a Q)) : G (wp E (.cond c x y) k a Q)
 | block {E : Env} {k : List Kont} {a : Act} {Q : Ex → Act → Prop} {i j : Nat} {b : Bool} (hb : Rf (Nat.beq j i) b) (h : Sel b (ret E k .normal a Q) (ret E k (.exit j) a Q)) : G (ret E (.block i :: k) (.exit j) a Q)
 | regionD {E : Env} {k : List Kont} {a : Act} {Q : Ex → Act → Prop} {i : Nat} {ops : Array Oper} (hp : Kr (planText E ops.toList = true)) (h : wpO E ops.toList ops.toList k a Q) : G (wp E (.region i ops true) k a Q)
 | guard {E : Env} {all : List Oper} {l : List Oper} {k : List Kont} {a : Act} {Q : Ex → Act → Prop} {d : Nat} {op : Op} {t : TypeId} {pos : String} {af : Array Edge} {v : Value} {j dj : Nat} {b' r : Bool} (h1 : Rf (gdst all j) (some dj)) (h2 : Ev a (.tmp dj) v) (h3 : Rf (isB v b') r) (hd : Dn a d) (h : Sel r (wpO E all (⟨some d, op, t, pos, af, none⟩ :: l) k a Q) (wpO E all l k (a.upd d undef) Q)) : G (wpO E all (⟨some d, op, t, pos, af, some (j, b')⟩ :: l) k a Q)
 | guard0 {E : Env} {all : List Oper} {l : List Oper} {k : List Kont} {a : Act} {Q : Ex → Act → Prop} {op : Op} {t : TypeId} {pos : String} {af : Array Edge} {v : Value} {j dj : Nat} {b' r : Bool} (h1 : Rf (gdst all j) (some dj)) (h2 : Ev a (.tmp dj) v) (h3 : Rf (isB v b') r) (h : Sel r (wpO E all (⟨none, op, t, pos, af, none⟩ :: l) k a Q) (wpO E all l k a Q)) : G (wpO E all (⟨none, op, t, pos, af, some (j, b')⟩ :: l) k a Q)
 | move {E : Env} {all : List Oper} {l : List Oper} {k : List Kont} {a : Act} {Q : Ex → Act → Prop} {d : Nat} {t : TypeId} {pos : String} {af : Array Edge} {v : Value} {x : Operand} (hx : Ev a x v) (hd : Dn a d) (h : wpO E all l k (a.upd d v) Q) : G (wpO E all (⟨some d, .move x, t, pos, af, none⟩ :: l) k a Q)
 | assign {E : Env} {all : List Oper} {l : List Oper} {k : List Kont} {a : Act} {Q : Ex → Act → Prop} {d : Nat} {t : TypeId} {pos : String} {af : Array Edge} {v : Value} {x : Operand} (hx : Ev a x v) (hd : Dn a d) (h : wpO E all l k (a.upd d v) Q) : G (wpO E all (⟨some d, .assign x, t, pos, af, none⟩ :: l) k a Q)
 | load {E : Env} {all : List Oper} {l : List Oper} {k : List Kont} {a : Act} {Q : Ex → Act → Prop} {d : Nat} {t : TypeId} {pos : String} {af : Array Edge} {v : Value} {x : Operand} {ty b o : Nat} (hx : Ev a x (.pointer (some ⟨b, o, none⟩))) (hl : Ld E a.m ty b o v) (hd : Dn a d) (h : wpO E all l k (a.upd d v) Q) : G (wpO E all (⟨some d, .load ty x, t, pos, af, none⟩ :: l) k a Q)
 | bin {E : Env} {all : List Oper} {l : List Oper} {k : List Kont} {a : Act} {Q : Ex → Act → Prop} {d : Nat} {t : TypeId} {pos : String} {af : Array Edge} {v : Value} {x y : Operand} {bop : BinOp} {p q : Value} {ts ty : TypeId} (hx : Ev a x p) (hy : Ev a y q) (hb : Bn E a.m bop ts p q v) (hd : Dn a d) (h : wpO E all l k (a.upd d v) Q) : G (wpO E all (⟨some d, .binOp bop ts x y ty, t, pos, af, none⟩ :: l) k a Q)
 | un {E : Env} {all : List Oper} {l : List Oper} {k : List Kont} {a : Act} {Q : Ex → Act → Prop} {d : Nat} {t : TypeId} {pos : String} {af : Array Edge} {v : Value} {x : Operand} {uop : UnOp} {p : Value} {ts : TypeId} (hx : Ev a x p) (hb : Rf (unOp uop p) (some v)) (hd : Dn a d) (h : wpO E all l k (a.upd d v) Q) : G (wpO E all (⟨some d, .unOp uop ts x, t, pos, af, none⟩ :: l) k a Q)
 | pick {E : Env} {all : List Oper} {l : List Oper} {k : List Kont} {a : Act} {Q : Ex → Act → Prop} {d : Nat} {t : TypeId} {pos : String} {af : Array Edge} {c x y : Operand} {b : Bool} {vx vy : Value} (hc : Ev a c (.bool b)) (hx : Ev a x vx) (hy : Ev a y vy) (hd : Dn a d) (h : Sel b (wpO E all l k (a.upd d vx) Q) (wpO E all l k (a.upd d vy) Q)) : G (wpO E all (⟨some d, .pick c x y, t, pos, af, none⟩ :: l) k a Q)
 | nil {E : Env} {all : List Oper} {l : List Oper} {k : List Kont} {a : Act} {Q : Ex → Act → Prop} {d : Nat} {t : TypeId} {pos : String} {af : Array Edge} {x : Operand} {p : Addr} (hx : Ev a x (.pointer (some p))) (hd : Dn a d) (h : wpO E all l k (a.upd d (.pointer (some p))) Q) : G (wpO E all (⟨some d, .nilCheck x, t, pos, af, none⟩ :: l) k a Q)
 | nil0 {E : Env} {all : List Oper} {l : List Oper} {k : List Kont} {a : Act} {Q : Ex → Act → Prop} {t : TypeId} {pos : String} {af : Array Edge} {x : Operand} {p : Addr} (hx : Ev a x (.pointer (some p))) (h : wpO E all l k a Q) : G (wpO E all (⟨none, .nilCheck x, t, pos, af, none⟩ :: l) k a Q)
 | fieldAddr {E : Env} {all : List Oper} {l : List Oper} {k : List Kont} {a : Act} {Q : Ex → Act → Prop} {d : Nat} {t : TypeId} {pos : String} {af : Array Edge} {ts : TypeId} {x : Operand} {f b o sz : Nat} {fs : Array Field} {fd : Field} (hu : Rf (E.under ts) (some (.struct fs))) (hx : Ev a x (.pointer (some ⟨b, o, none⟩))) (hf : Rf (nth fs.toList f) (some fd)) (hs : Rf (E.size fd.type) (some (sz + 1))) (hd : Dn a d) (h : wpO E all l k (a.upd d (.pointer (some ⟨b, o + fd.offset, none⟩))) Q) : G (wpO E all (⟨some d, .fieldAddr ts x f, t, pos, af, none⟩ :: l) k a Q)
 | indexAddr {E : Env} {all : List Oper} {l : List Oper} {k : List Kont} {a : Act} {Q : Ex → Act → Prop} {d : Nat} {t : TypeId} {pos : String} {af : Array Edge} {v : Value} {ts : TypeId} {x y : Operand} {e b o len j sz : Nat} {kd : IntKind} (hx : Ev a x v) (hu : Rf (rowOf (E.under ts) v) (some (e, b, o, len))) (hi : Ev a y (.int kd (Int.ofNat j))) (hj : Om (j < len)) (hs : Rf (E.size e) (some sz)) (hd : Dn a d) (h : wpO E all l k (a.upd d (.pointer (some ⟨b, o + j * sz, none⟩))) Q) : G (wpO E all (⟨some d, .indexAddr ts x y, t, pos, af, none⟩ :: l) k a Q)
 | indexS {E : Env} {all : List Oper} {l : List Oper} {k : List Kont} {a : Act} {Q : Ex → Act → Prop} {d : Nat} {t : TypeId} {pos : String} {af : Array Edge} {ts : TypeId} {x y : Operand} {s : List UInt8} {j : Nat} {kd : IntKind} {c : UInt8} (hu : Rf (E.under ts) (some .string)) (hx : Ev a x (.string ⟨⟨s⟩⟩)) (hi : Ev a y (.int kd (Int.ofNat j))) (hc : Hy (nth s j = some c)) (hd : Dn a d) (h : wpO E all l k (a.upd d (.int .u8 c.toNat)) Q) : G (wpO E all (⟨some d, .index ts x y, t, pos, af, none⟩ :: l) k a Q)
 | field {E : Env} {all : List Oper} {l : List Oper} {k : List Kont} {a : Act} {Q : Ex → Act → Prop} {d : Nat} {t : TypeId} {pos : String} {af : Array Edge} {v : Value} {ts : TypeId} {x : Operand} {f sz : Nat} {fs : Array Field} {fd : Field} {vs : List Value} {du : TypeDesc} {ag : Bool} (hu : Rf (E.under ts) (some (.struct fs))) (hx : Ev a x (.agg ⟨vs⟩)) (hf : Rf (nth fs.toList f) (some fd)) (hs : Rf (E.size fd.type) (some sz)) (hdu : Rf (E.under fd.type) (some du)) (ha : Rf (isAggD du) ag) (hv : Rf (fldV ag vs fd.offset sz) (some v)) (hd : Dn a d) (h : wpO E all l k (a.upd d v) Q) : G (wpO E all (⟨some d, .field ts x f, t, pos, af, none⟩ :: l) k a Q)
 | len {E : Env} {all : List Oper} {l : List Oper} {k : List Kont} {a : Act} {Q : Ex → Act → Prop} {d : Nat} {t : TypeId} {pos : String} {af : Array Edge} {v : Value} {ts : TypeId} {x : Operand} {n : Nat} (hv : Ev a x v) (hn : Rf (lenV (E.under ts) v) (some n)) (hd : Dn a d) (h : wpO E all l k (a.upd d (.int .i64 n)) Q) : G (wpO E all (⟨some d, .call ⟨.builtin .len, #[x], #[ts]⟩, t, pos, af, none⟩ :: l) k a Q)
 | max {E : Env} {all : List Oper} {l : List Oper} {k : List Kont} {a : Act} {Q : Ex → Act → Prop} {d : Nat} {t : TypeId} {pos : String} {af : Array Edge} {at_ : Array TypeId} {x y : Operand} {kd kd' : IntKind} {p q r : Int} (h1 : Ev a x (.int kd p)) (h2 : Ev a y (.int kd' q)) (hr : Rf (max p q) r) (hd : Dn a d) (h : wpO E all l k (a.upd d (.int kd r)) Q) : G (wpO E all (⟨some d, .call ⟨.builtin .max, #[x, y], at_⟩, t, pos, af, none⟩ :: l) k a Q)
 | min {E : Env} {all : List Oper} {l : List Oper} {k : List Kont} {a : Act} {Q : Ex → Act → Prop} {d : Nat} {t : TypeId} {pos : String} {af : Array Edge} {at_ : Array TypeId} {x y : Operand} {kd kd' : IntKind} {p q r : Int} (h1 : Ev a x (.int kd p)) (h2 : Ev a y (.int kd' q)) (hr : Rf (min p q) r) (hd : Dn a d) (h : wpO E all l k (a.upd d (.int kd r)) Q) : G (wpO E all (⟨some d, .call ⟨.builtin .min, #[x, y], at_⟩, t, pos, af, none⟩ :: l) k a Q)
 | extract {E : Env} {all : List Oper} {l : List Oper} {k : List Kont} {a : Act} {Q : Ex → Act → Prop} {d : Nat} {t : TypeId} {pos : String} {af : Array Edge} {v : Value} {x : Operand} {i : Nat} {vs : List Value} (hx : Ev a x (.tuple ⟨vs⟩)) (hv : Rf (nth vs i) (some v)) (hd : Dn a d) (h : wpO E all l k (a.upd d v) Q) : G (wpO E all (⟨some d, .extract x i, t, pos, af, none⟩ :: l) k a Q)
 | sliceHi {E : Env} {all : List Oper} {l : List Oper} {k : List Kont} {a : Act} {Q : Ex → Act → Prop} {d : Nat} {t : TypeId} {pos : String} {af : Array Edge} {ts : TypeId} {x y : Operand} {e b o len cap n sz : Nat} {kd : IntKind} (hu : Rf (E.under ts) (some (.slice e))) (hx : Ev a x (.slice (some ⟨b, o, none⟩) len cap)) (hy : Ev a y (.int kd (Int.ofNat n))) (hh : Om (n ≤ cap)) (hs : Rf (E.size e) (some sz)) (hd : Dn a d) (h : wpO E all l k (a.upd d (.slice (some ⟨b, o, none⟩) n cap)) Q) : G (wpO E all (⟨some d, .slice ts x none (some y) none, t, pos, af, none⟩ :: l) k a Q)
 | build {E : Env} {all : List Oper} {l : List Oper} {k : List Kont} {a : Act} {Q : Ex → Act → Prop} {d : Nat} {t : TypeId} {pos : String} {af : Array Edge} {ts : TypeId} {z : Value} {parts : Array (Nat × Operand)} {ps : List (Nat × Value)} {r : List Value} (hz : Rf (E.zero ts) (some z)) (hp : Evp a parts.toList ps) (hf : Rf (partsV E ts z ps) (some r)) (hd : Dn a d) (h : wpO E all l k (a.upd d (.agg ⟨r⟩)) Q) : G (wpO E all (⟨some d, .build ts parts, t, pos, af, none⟩ :: l) k a Q)
 | box {E : Env} {all : List Oper} {l : List Oper} {k : List Kont} {a : Act} {Q : Ex → Act → Prop} {d : Nat} {t : TypeId} {pos : String} {af : Array Edge} {v : Value} {e : TypeId} {x : Operand} {r : List Value} (hx : Ev a x v) (hl : Rf (cellsOf v) r) (hn : Rf (Nat.ble r.length 1000000000) true) (hd : Dn a d) (h : wpO E all l k ((a.mem (a.m.new (rowObj r e 0))).upd d (.pointer (some ⟨a.m.next, 0, none⟩))) Q) : G (wpO E all (⟨some d, .box e x, t, pos, af, none⟩ :: l) k a Q)
 | new {E : Env} {all : List Oper} {l : List Oper} {k : List Kont} {a : Act} {Q : Ex → Act → Prop} {d : Nat} {t : TypeId} {pos : String} {af : Array Edge} {e : TypeId} {z : Value} {r : List Value} (hz : Rf (E.zero e) (some z)) (hl : Rf (cellsOf z) r) (hn : Rf (Nat.ble r.length 1000000000) true) (hd : Dn a d) (h : wpO E all l k ((a.mem (a.m.new (rowObj r e 0))).upd d (.pointer (some ⟨a.m.next, 0, none⟩))) Q) : G (wpO E all (⟨some d, .alloc e, t, pos, af, none⟩ :: l) k a Q)
 | buildSlice {E : Env} {all : List Oper} {l : List Oper} {k : List Kont} {a : Act} {Q : Ex → Act → Prop} {d : Nat} {t : TypeId} {pos : String} {af : Array Edge} {ts : TypeId} {len e sz : Nat} {z : Value} {parts : Array (Nat × Operand)} {ps : List (Nat × Value)} {r : List Value} (hu : Rf (E.under ts) (some (.slice e))) (hs : Rf (E.size e) (some sz)) (hz : Rf (E.zero e) (some z)) (hb : Rf (Nat.ble (len * sz) 10000000 && Nat.beq (cellsOf z).length sz) true) (hp : Evp a parts.toList ps) (hf : Rf (fill (fun i => some (i * sz, sz)) (repeatList (cellsOf z) len) ps) (some r)) (hn : Rf (Nat.ble r.length 1000000000) true) (hd : Dn a d) (h : wpO E all l k ((a.mem (a.m.new (rowObj r e 0))).upd d (.slice (some ⟨a.m.next, 0, none⟩) len len)) Q) : G (wpO E all (⟨some d, .buildSlice ts len parts, t, pos, af, none⟩ :: l) k a Q)
 | makeMap {E : Env} {all : List Oper} {l : List Oper} {k : List Kont} {a : Act} {Q : Ex → Act → Prop} {d : Nat} {t : TypeId} {pos : String} {af : Array Edge} {ty : TypeId} (hd : Dn a d) (h : wpO E all l k ((a.mem (a.m.new (.map []))).upd d (.map (some a.m.next))) Q) : G (wpO E all (⟨some d, .makeMap ty none, t, pos, af, none⟩ :: l) k a Q)
theorem G.h {P : Prop} (g : G P) : P := by
 cases g with
 | wseq h => exact ewp_seq h
 | rseq h => exact eret_seq h
 | wskip h => exact ewp_skip h
 | wregion h => exact ewp_region h
 | onil h => exact ewpO_nil h
 | wblock h => exact ewp_block h
 | rblock h => exact eret_block h
 | wexit h => exact ewp_exit h
 | rseq_exit h => exact eret_seq_exit h
 | rloop_exit h => exact eret_loop_exit h
 | wret h => exact ewp_ret h
 | rseq_ret h => exact eret_seq_ret h
 | rblock_ret h => exact eret_block_ret h
 | rloop_ret h => exact eret_loop_ret h
 | wlabel h => exact ewp_label h
 | sT h => exact g_T h
 | sF h => exact g_F h
 | cond hc h => exact g_cond hc h
 | block hb h => exact g_block hb h
 | regionD hp h => exact g_regionD hp h
 | guard h1 h2 h3 hd h => exact g_guard h1 h2 h3 hd h
 | guard0 h1 h2 h3 h => exact g_guard0 h1 h2 h3 h
 | move hx hd h => exact g_move hx hd h
 | assign hx hd h => exact g_assign hx hd h
 | load hx hl hd h => exact g_load hx hl hd h
 | bin hx hy hb hd h => exact g_bin hx hy hb hd h
 | un hx hb hd h => exact g_un hx hb hd h
 | pick hc hx hy hd h => exact g_pick hc hx hy hd h
 | nil hx hd h => exact g_nil hx hd h
 | nil0 hx h => exact g_nil0 hx h
 | fieldAddr hu hx hf hs hd h => exact g_fieldAddr hu hx hf hs hd h
 | indexAddr hx hu hi hj hs hd h => exact g_indexAddr hx hu hi hj hs hd h
 | indexS hu hx hi hc hd h => exact g_indexS hu hx hi hc hd h
 | field hu hx hf hs hdu ha hv hd h => exact g_field hu hx hf hs hdu ha hv hd h
 | len hv hn hd h => exact g_len hv hn hd h
 | max h1 h2 hr hd h => exact g_max h1 h2 hr hd h
 | min h1 h2 hr hd h => exact g_min h1 h2 hr hd h
 | extract hx hv hd h => exact g_extract hx hv hd h
 | sliceHi hu hx hy hh hs hd h => exact g_sliceHi hu hx hy hh hs hd h
 | build hz hp hf hd h => exact g_build hz hp hf hd h
 | box hx hl hn hd h => exact g_box hx hl hn hd h
 | new hz hl hn hd h => exact g_new hz hl hn hd h
 | buildSlice hu hs hz hb hp hf hn hd h => exact g_buildSlice hu hs hz hb hp hf hn hd h
 | makeMap hd h => exact g_makeMap hd h

/-- a comparison or a sum, by what is at hand. -/
inductive Bx (E : Env) (m : Mem) (op : BinOp) (t : TypeId) (p q v : Value) : Prop where
 | mk (h : Bn E m op t p q v)
theorem Bk {m : Mem} {op : BinOp} {t : TypeId} {p q v : Value} : Bx E m op t p q v → Bn E m op t p q v | .mk h => h
theorem BxS {m : Mem} {op : BinOp} {t : TypeId} {p q v : Value} (h : Bn E m op t p q v := by first | (apply Cp.bin; (focus constructor); first | with_reducible exact Dc.r | with_reducible exact Dc.s | (apply Dc.t; first | with_reducible assumption | omega | fail) | (apply Dc.f; first | with_reducible assumption | omega | fail) | fail) | (apply n_add; (focus (first | (with_reducible (first | exact nadd1 _ | exact nadd2 _ | exact nadd3 _ | exact nladd1 _ | exact nladd2 _ | exact nladd3 _ | exact nadd _ _ | fail)) | rfl | fail)); omega) | (apply n_sub; (focus (first | (with_reducible first | exact nsub1 _ (by omega) | exact nsub _ _ (by omega) | fail) | rfl | fail)); omega) | ((first | apply n_peq | apply n_pne | fail); exact Rf.mk; exact Rf.mk) | ((first | apply n_ptrEq | apply n_ptrNe | fail); exact Rf.mk; exact Rf.mk) | (exact n_useNe _ _) | (exact n_cat _ _ (by assumption)) | (exact n_capNe _ _)) : Bx E m op t p q v := .mk h
theorem Os {p : Prop} (h : p := by first | omega | exact Nat.le_of_ble_eq_true rfl) : Om p := .mk h
/-- what closes by itself. -/
theorem Zc {p : Prop} (h : p := by first | exact Rf.mk | (apply Bk; exact BxS) | (apply Om.mk; first | omega | exact Nat.le_of_ble_eq_true rfl) | (apply Hy.mk; assumption) | (apply Kr.mk; decide +kernel)) : p := h
/-- a goal that stays. -/
class Wt (p : Prop) : Prop where
 t : True
section
variable {E : Env} {k : List Kont} {a : Act} {Q : Ex → Act → Prop}
instance {c : Code} : Wt (wp E c k a Q) := ⟨trivial⟩
instance {ex : Ex} : Wt (ret E k ex a Q) := ⟨trivial⟩
instance {all l : List Oper} : Wt (wpO E all l k a Q) := ⟨trivial⟩
instance {b : Bool} {p q : Prop} : Wt (Sel b p q) := ⟨trivial⟩
theorem gI {p : Prop} [Wt p] (h : p) : p := h
theorem Y0 : Evp a [] [] := .nil
theorem Y1 {i : Nat} {x : Operand} {v : Value} {l : List (Nat × Operand)} {r : List (Nat × Value)} (h : Ev a x v) (hl : Evp a l r) : Evp a ((i, x) :: l) ((i, v) :: r) := .cons h hl
theorem Y2 : Evl a [] [] := .nil
theorem Y3 {x : Operand} {v : Value} {l : List Operand} {r : List Value} (h : Ev a x v) (hl : Evl a l r) : Evl a (x :: l) (v :: r) := .cons h hl
theorem Y4 {x : Operand} {v : Value} (h : a.eval x = v) : Ev a x v := .mk h
theorem Y5 {d : Nat} (h : Nat.blt d a.n = true) : Dn a d := .mk h
theorem Y6 {m : Mem} {t : TypeId} {b o : Nat} {v : Value} (h : loadAt E m t b o = some v) : Ld E m t b o v := .mk h
end
end Go.Ev
