/- Part of an evaluator for closed runs, and of its proof (EvLaid). -/
import Derived.Test.YtihokakelnfdgaaDoorEvUse
import Derived.OpenShut
import Derived.LaidMore
namespace Go.Ev
open Go.RowKit
set_option linter.unusedVariables false
set_option linter.unusedSectionVars false
variable [Sym]

section
variable {H : Type} {enc : TypeId × Value → H} {P : Program} {w : World} {base : Nat} {spare : Nat → Bool} {held : Bool} {fuel n : Nat} {t e : TypeId} {cs : List Value} {x : DataW H × List MemPlace}

/-- a row of strings that is told. -/
theorem cells_strings (ht : P.underlying t = some (.array n e)) (he : P.underlying e = some .string) (ce : P.cellsOf e = 1) (h : DataW.trod enc P w base spare held fuel t cs = some x) {bs : List (List UInt8)} (hx : x.1 = .agg (bs.map fun b => .lit (.string b))) (hn : bs.length = n) :
    cs.length = P.cellsOf t ∧ ∀ i, i < n → cs[i]? = (bs.map fun l => Value.string ⟨⟨l⟩⟩)[i]? := by
  obtain ⟨xs, m1, rfl, rfl, hlen, hxn, hel⟩ := DataW.trod_array ht h
  simp only [DataW.agg.injEq] at hx
  refine ⟨hlen, fun i hi => ?_⟩
  have h1 := hel i hi
  rw [ce, Nat.mul_one] at h1
  have hxi : xs[i]? = some xs[i] := List.getElem?_eq_getElem (by omega)
  rw [hxi] at h1
  obtain ⟨s, e1, e2, _⟩ := DataW.trod_string he h1
  have e3 : cs[i]? = some (.string s) := by
    have := congrArg (·[0]?) e1
    simp only [List.getElem?_take, List.getElem?_drop] at this
    simpa using this
  have e4 := congrArg (·[i]?) hx
  simp only [List.getElem?_map, hxi, Option.map_some, e2] at e4
  rw [e3, List.getElem?_map]
  cases hb : bs[i]? with
  | none => rw [hb] at e4; cases e4
  | some b =>
    rw [hb] at e4
    simp only [Option.map_some, Option.some.injEq, DataW.lit.injEq, Lit.string.injEq] at e4
    subst e4
    rfl

/-- a row of integers that is told. -/
theorem cells_ints {k : IntKind} (ht : P.underlying t = some (.array n e)) (he : P.underlying e = some (.int k)) (ce : P.cellsOf e = 1) (h : DataW.trod enc P w base spare held fuel t cs = some x) {bs : List Int} (hx : x.1 = .agg (bs.map fun b => .lit (.int k b))) (hn : bs.length = n) :
    cs.length = P.cellsOf t ∧ ∀ i, i < n → cs[i]? = (bs.map fun l => Value.int k l)[i]? := by
  obtain ⟨xs, m1, rfl, rfl, hlen, hxn, hel⟩ := DataW.trod_array ht h
  simp only [DataW.agg.injEq] at hx
  refine ⟨hlen, fun i hi => ?_⟩
  have h1 := hel i hi
  rw [ce, Nat.mul_one] at h1
  have hxi : xs[i]? = some xs[i] := List.getElem?_eq_getElem (by omega)
  rw [hxi] at h1
  obtain ⟨s, e1, e2, _⟩ := DataW.trod_int he h1
  have e3 : cs[i]? = some (.int k s) := by
    have := congrArg (·[0]?) e1
    simp only [List.getElem?_take, List.getElem?_drop] at this
    simpa using this
  have e4 := congrArg (·[i]?) hx
  simp only [List.getElem?_map, hxi, Option.map_some, e2] at e4
  rw [e3, List.getElem?_map]
  cases hb : bs[i]? with
  | none => rw [hb] at e4; cases e4
  | some b =>
    rw [hb] at e4
    simp only [Option.map_some, Option.some.injEq, DataW.lit.injEq, Lit.int.injEq, true_and] at e4
    subst e4
    rfl

/-- a variable's block. -/
theorem var_block {w : World} {nm : String} {g : Nat} {cs : Array Value} (hg : P.globalNamed nm = some g) (hv : w.var? P nm = some cs) : ∃ e fr, w.heap[g]? = some (Obj.cells cs e fr) := by
  unfold World.var? at hv
  rw [hg, Option.bind_some] at hv
  split at hv
  · rename_i c e fr hh
    cases hv
    exact ⟨e, fr, hh⟩
  · cases hv
end
end Go.Ev
