/- What the condition on the listed variable gives the walks, and that 'live' returns true wherever it holds. -/
import Derived.Test.YtihokakelnfdgaaDoorRows
import Derived.Test.YtihokakelnfdgaaDoorLive
import Derived.Test.YtihokakelnfdgaaDoorEvU
import Derived.ProofKit
import Derived.LaidMore
import Derived.OpenShut
import Derived.Stop.Joined
import Derived.RowKit3
import Derived.Carry
namespace Go.Proofs.YtihokakelnfdgaaDoor
set_option linter.unusedSimpArgs false
set_option linter.unusedVariables false
open Go Go.Ev Go.ChangeShapes Go.WideShapes Go.ChangeAt Go.WideMaps Go.WideElems Go.RowKit
set_option maxRecDepth 100000

theorem own : ownKnob Tryd.prog.godebug = none := by kernel_rfl
theorem gNames : Tryd.prog.globalNamed "jacquard/scope.names" = some 0 := by kernel_rfl
theorem tNames : (Tryd.prog.globals[0]?).map (·.type) = some 104 := by kernel_rfl

abbrev laidNames : List (String × DataW Unit) := [("jacquard/scope.names", Rows.laid_jacquard_scope_names)]

/-- The door's own heap meets the condition. -/
theorem door_met (os : Os) (args : Array Value) : laidMetH Tryd.prog laidNames ((World.doorLaid Tryd.prog 400 os).forCall (fun _ _ => 0) ⟨#[], args, []⟩).memory :=
 laidMetH_of_parts3 (fuel := 8) (laidMet_of_run' 8 (by kernel_rfl) (by kernel_rfl)) (by kernel_rfl) (by kernel_rfl)

def nameBytes : List (List UInt8) := [[112, 114, 105, 110, 116], [108, 101, 110], [112, 117, 115, 104], [112, 111, 112], [107, 101, 121, 115], [104, 97, 115], [103, 101, 116], [112, 117, 116], [115, 97, 109, 101], [116, 101, 120, 116], [99, 120], [114, 101], [105, 109], [107, 105, 110, 100], [121, 105, 101, 108, 100], [115, 108, 101, 101, 112], [110, 111, 119], [114, 97, 110, 100], [106, 111, 105, 110], [98, 111, 120], [115, 101, 110, 100], [114, 101, 99, 118], [109, 111, 110, 105, 116, 111, 114], [108, 111, 99, 107], [117, 110, 108, 111, 99, 107], [119, 97, 105, 116], [119, 97, 105, 116, 102, 111, 114], [110, 111, 116, 105, 102, 121], [110, 111, 116, 105, 102, 121, 97, 108, 108], [115, 101, 108, 102]]
theorem evNames_bytes : evNames = nameBytes.map evStr := rfl
theorem laid_bytes : (Rows.laid_jacquard_scope_names : DataW Unit) = .agg (nameBytes.map fun b => .lit (.string b)) := rfl

/-- WHAT THE CONDITION GIVES THE WALKS: the variable's block holds the names. -/
theorem of_laid {W : World} (h : laidMetH Tryd.prog laidNames W) : ∃ e, Fits (evStart e) W ∧ ∃ c fr, W.heap[0]? = some (Obj.cells c e fr) ∧ c.size = 30 ∧ ∀ i, i < 30 → c[i]? = evNames[i]? := by
 rw [MakeChecks.laidMetH_plain _ _ _ (by kernel_rfl)] at h
 obtain ⟨ps, ⟨g0, t0, cs0, f0, p0, q0, hg0, ht0, hv0, hd0, _, _⟩, _, _⟩ := h
 obtain rfl := Option.some.inj (gNames.symm.trans hg0)
 obtain rfl := Option.some.inj (tNames.symm.trans ht0)
 have c9 : Tryd.prog.cellsOf 9 = 1 := by kernel_rfl
 have c104 : Tryd.prog.cellsOf 104 = 30 := by kernel_rfl
 obtain ⟨xs, m1, rfl, hx1, hlen, hn, hel⟩ := DataW.trod_array Tryd.underlying104 hd0
 rw [c104] at hlen
 rw [laid_bytes, Prod.mk.injEq] at hx1
 have hxs : nameBytes.map (fun b => (DataW.lit (.string b) : DataW Unit)) = xs.map (·.1) := by
  have := hx1.1
  simpa only [DataW.agg.injEq] using this
 have hcell : ∀ i, i < 30 → cs0[i]? = evNames[i]? := by
  intro i hi
  have h1 := hel i hi
  rw [c9, Nat.mul_one] at h1
  have hxi : xs[i]? = some xs[i] := List.getElem?_eq_getElem (by omega)
  rw [hxi] at h1
  obtain ⟨s, e1, e2, _⟩ := DataW.trod_string Tryd.underlying9 h1
  have e3 : cs0[i]? = some (.string s) := by
   have := congrArg (·[0]?) e1
   simp only [List.getElem?_take, List.getElem?_drop] at this
   simpa using this
  have e4 := congrArg (·[i]?) hxs
  simp only [List.getElem?_map, hxi, Option.map_some, e2] at e4
  rw [e3, evNames_bytes, List.getElem?_map]
  cases hb : nameBytes[i]? with
  | none => rw [hb] at e4; cases e4
  | some b =>
   rw [hb] at e4
   simp only [Option.map_some, Option.some.injEq, DataW.lit.injEq, Lit.string.injEq] at e4
   subst e4
   rfl
 unfold World.var? at hv0
 rw [gNames, Option.bind_some] at hv0
 split at hv0
 ·rename_i cs e fr hh
  cases hv0
  refine ⟨e, ⟨?_, fun g n e' l hg => ?_⟩, cs0, fr, hh, hlen, hcell⟩
  ·exact (Array.getElem?_eq_some_iff.1 hh).1
  ·match g, hg with
   | 0, hg =>
    have hg' : some (30, e, evNames) = some (n, e', l) := Option.some.inj hg
    cases hg'
    refine ⟨cs0, fr, hh, ?_, by decide, by decide, by decide, hcell⟩
    have : cs0.size = 30 := hlen
    omega
   | g + 1, hg => cases hg
 ·cases hv0

/-- 'live' returns true, and nothing that was there turns. -/
theorem live_calls {e : TypeId} {w : World} (h : Fits (evStart e) w) : Calls Tryd.prog 10 #[] w fun e w' => e = .returned (.bool true) ∧ Below w.heap.size w w' :=
 closed (E := evEnv0) (gs := evStart e) (n := 100000) (f := 10) (args := []) (v := .bool true) (fun [Sym] => evOk0) rfl (show 1 ≤ 1000000000 by decide) (congrFun evLive e) rfl rfl h
theorem live_there : ∃ fn, evEnv.funcs.get 10 = some fn ∧ fn.body.isSome = true := ⟨Tryd.f10, by kernel_rfl, by kernel_rfl⟩
theorem evKnown [Sym] {e : TypeId} {W : World} (h : Fits (evStart e) W) : KnownOk evEnv W :=
 known_of fun q hq => by
  obtain rfl : q = (10, [], .bool true) := List.mem_singleton.1 hq
  exact ⟨live_there, [], .bool true, .nil, fun _ => .bool true, fun w hw => live_calls (h.below hw h.1)⟩

/-- THE ROW's RESULT where nothing that was there has turned. -/
theorem post_of_below {H : Type} {enc : TypeId × Value → H} {P : Program} {f : Func} {s : ChangeSpec} {apart fresh handsOn : Bool} {W W' : World} {args : Array Value} {v : Value} {ds gs : List (DataW H)} {before pa : List MemPlace}
  (hW : DataW.Whole enc P f.params.toList s.vars apart W args.toList ds gs before)
  (hres : ∀ (b : Nat) (sp : Nat → Bool) (hd : Bool), DataW.TrodAll enc P W' b sp hd f.resultTypes.toList (v.resultList f.resultTypes.size) (s.fn H (ds ++ gs)).results [])
  (hargs : DataW.TrodAll enc P W' 0 (fun b => decide (b < W.heap.size)) true f.params.toList args.toList (s.fn H (ds ++ gs)).args pa)
  (hvars : DataW.TrodVars enc P W' (fun b => decide (b < W.heap.size)) s.vars (s.fn H (ds ++ gs)).vars [])
  (hb : Below W.heap.size W W') : s.post enc P f apart fresh handsOn false W args v W' :=
 ⟨ds, gs, before, [], pa, [], hW, hres _ _ _, hargs, hvars, hb.frame _, fun h => by cases h⟩
end Go.Proofs.YtihokakelnfdgaaDoor
