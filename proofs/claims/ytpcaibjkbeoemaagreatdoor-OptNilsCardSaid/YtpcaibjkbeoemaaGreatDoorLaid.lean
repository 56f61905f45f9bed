/- What the condition on the listed variables gives the walks, and that 'live' returns true wherever it holds. -/
import Derived.Test.YtpcaibjkbeoemaaGreatDoorRows
import Derived.Test.YtpcaibjkbeoemaaGreatDoorLive
import Derived.Test.YtpcaibjkbeoemaaGreatDoorEvLaid
import Derived.ProofKit
import Derived.LaidMore
import Derived.OpenShut
import Derived.Stop.Joined
import Derived.RowKit3
import Derived.Carry
namespace Go.Proofs.YtpcaibjkbeoemaaGreatDoor
open Go Go.Ev Go.ChangeShapes Go.WideShapes Go.ChangeAt Go.WideMaps Go.WideElems Go.RowKit
set_option maxRecDepth 100000

theorem own : ownKnob Tryz.prog.godebug = none := by kernel_rfl
theorem gNames : Tryz.prog.globalNamed "jacquard/code.names" = some 0 := by kernel_rfl
theorem gTakes : Tryz.prog.globalNamed "jacquard/code.takes" = some 1 := by kernel_rfl
theorem gPuts : Tryz.prog.globalNamed "jacquard/code.puts" = some 2 := by kernel_rfl
theorem tNames : (Tryz.prog.globals[0]?).map (·.type) = some 172 := by kernel_rfl
theorem tTakes : (Tryz.prog.globals[1]?).map (·.type) = some 173 := by kernel_rfl
theorem tPuts : (Tryz.prog.globals[2]?).map (·.type) = some 173 := by kernel_rfl
theorem c3 : Tryz.prog.cellsOf 3 = 1 := by kernel_rfl
theorem c9 : Tryz.prog.cellsOf 9 = 1 := by kernel_rfl
theorem c172 : Tryz.prog.cellsOf 172 = 33 := by kernel_rfl
theorem c173 : Tryz.prog.cellsOf 173 = 33 := by kernel_rfl

abbrev laidAll : List (String × DataW Unit) := [("jacquard/code.names", Rows.laid_jacquard_code_names), ("jacquard/code.takes", Rows.laid_jacquard_code_takes), ("jacquard/code.puts", Rows.laid_jacquard_code_puts)]

/-- The door's own heap meets the condition. -/
theorem door_met (os : Os) (args : Array Value) : laidMetH Tryz.prog laidAll ((World.doorLaid Tryz.prog 400 os).forCall (fun _ _ => 0) ⟨#[], args, []⟩).memory :=
  laidMetH_of_parts3 (fuel := 8) (laidMet_of_run' 8 (by kernel_rfl) (by kernel_rfl)) (by kernel_rfl) (by kernel_rfl)

theorem laid_names : (Rows.laid_jacquard_code_names : DataW Unit) = .agg (nameBytes.map fun b => .lit (.string b)) := rfl
theorem laid_takes : (Rows.laid_jacquard_code_takes : DataW Unit) = .agg (takeInts.map fun b => .lit (.int .i64 b)) := rfl
theorem laid_puts : (Rows.laid_jacquard_code_puts : DataW Unit) = .agg (putInts.map fun b => .lit (.int .i64 b)) := rfl

/-- WHAT THE CONDITION GIVES THE WALKS: the variables' blocks hold what is told. -/
theorem of_laid {W : World} (h : laidMetH Tryz.prog laidAll W) : ∃ e0 e1 e2, Fits (evStart e0 e1 e2) W := by
  rw [MakeChecks.laidMetH_plain _ _ _ (by kernel_rfl)] at h
  obtain ⟨ps, ⟨g0, t0, cs0, f0, p0, q0, hg0, ht0, hv0, hd0, ⟨g1, t1, cs1, f1, p1, q1, hg1, ht1, hv1, hd1, ⟨g2, t2, cs2, f2, p2, q2, hg2, ht2, hv2, hd2, _, _⟩, _⟩, _⟩, _, _⟩ := h
  obtain rfl := Option.some.inj (gNames.symm.trans hg0)
  obtain rfl := Option.some.inj (gTakes.symm.trans hg1)
  obtain rfl := Option.some.inj (gPuts.symm.trans hg2)
  obtain rfl := Option.some.inj (tNames.symm.trans ht0)
  obtain rfl := Option.some.inj (tTakes.symm.trans ht1)
  obtain rfl := Option.some.inj (tPuts.symm.trans ht2)
  obtain ⟨n0, k0⟩ := cells_strings Tryz.underlying172 Tryz.underlying9 c9 hd0 (bs := nameBytes) laid_names rfl
  obtain ⟨n1, k1⟩ := cells_ints Tryz.underlying173 Tryz.underlying3 c3 hd1 (bs := takeInts) laid_takes rfl
  obtain ⟨n2, k2⟩ := cells_ints Tryz.underlying173 Tryz.underlying3 c3 hd2 (bs := putInts) laid_puts rfl
  rw [c172] at n0
  rw [c173] at n1 n2
  obtain ⟨e0, fr0, h0⟩ := var_block gNames hv0
  obtain ⟨e1, fr1, h1⟩ := var_block gTakes hv1
  obtain ⟨e2, fr2, h2⟩ := var_block gPuts hv2
  refine ⟨e0, e1, e2, ?_, fun g n e' l hg => ?_⟩
  · exact (Array.getElem?_eq_some_iff.1 h2).1
  · match g, hg with
    | 0, hg =>
      have hg' : some (33, e0, evNames) = some (n, e', l) := Option.some.inj hg
      cases hg'
      exact ⟨cs0, fr0, h0, Nat.le_of_eq n0.symm, by decide, by decide, by decide, fun i hi => (Array.getElem?_toList (xs := cs0)).symm.trans (k0 i hi)⟩
    | 1, hg =>
      have hg' : some (33, e1, evInts takeInts) = some (n, e', l) := Option.some.inj hg
      cases hg'
      exact ⟨cs1, fr1, h1, Nat.le_of_eq n1.symm, by decide, by decide, by decide, fun i hi => (Array.getElem?_toList (xs := cs1)).symm.trans (k1 i hi)⟩
    | 2, hg =>
      have hg' : some (33, e2, evInts putInts) = some (n, e', l) := Option.some.inj hg
      cases hg'
      exact ⟨cs2, fr2, h2, Nat.le_of_eq n2.symm, by decide, by decide, by decide, fun i hi => (Array.getElem?_toList (xs := cs2)).symm.trans (k2 i hi)⟩
    | g + 3, hg => cases hg

/-- 'live' returns true, and nothing that was there turns. -/
theorem live_calls {e0 e1 e2 : TypeId} {w : World} (h : Fits (evStart e0 e1 e2) w) : Calls Tryz.prog 7 #[] w fun e w' => e = .returned (.bool true) ∧ Below w.heap.size w w' :=
  closed (E := evEnv) (gs := evStart e0 e1 e2) (n := 100000) (f := 7) (args := []) (v := .bool true) evOk rfl (show 3 ≤ 1000000000 by decide) (congrFun (congrFun (congrFun evLive e0) e1) e2) rfl rfl h

/-- THE ROW's RESULT where nothing that was there has turned. -/
theorem post_of_below {H : Type} {enc : TypeId × Value → H} {P : Program} {f : Func} {s : ChangeSpec} {apart fresh handsOn : Bool} {W W' : World} {args : Array Value} {v : Value} {ds gs : List (DataW H)} {before pa : List MemPlace}
    (hW : DataW.Whole enc P f.params.toList s.vars apart W args.toList ds gs before)
    (hres : ∀ (b : Nat) (sp : Nat → Bool) (hd : Bool), DataW.TrodAll enc P W' b sp hd f.resultTypes.toList (v.resultList f.resultTypes.size) (s.fn H (ds ++ gs)).results [])
    (hargs : DataW.TrodAll enc P W' 0 (fun b => decide (b < W.heap.size)) true f.params.toList args.toList (s.fn H (ds ++ gs)).args pa)
    (hvars : DataW.TrodVars enc P W' (fun b => decide (b < W.heap.size)) s.vars (s.fn H (ds ++ gs)).vars [])
    (hb : Below W.heap.size W W') : s.post enc P f apart fresh handsOn false W args v W' :=
  ⟨ds, gs, before, [], pa, [], hW, hres _ _ _, hargs, hvars, hb.frame _, fun h => by cases h⟩
end Go.Proofs.YtpcaibjkbeoemaaGreatDoor
