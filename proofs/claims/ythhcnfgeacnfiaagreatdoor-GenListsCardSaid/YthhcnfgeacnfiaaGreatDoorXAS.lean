/- Part of a verified evaluator of the model's programs and of runs by it: GJ GLaid. -/
import Derived.Test.YthhcnfgeacnfiaaGreatDoorXAK
import Derived.Test.YthhcnfgeacnfiaaGreatDoorXAL
import Derived.Test.YthhcnfgeacnfiaaGreatDoorXAM
import Derived.Test.YthhcnfgeacnfiaaGreatDoorXAN
import Derived.Test.YthhcnfgeacnfiaaGreatDoorXAO
import Derived.Test.YthhcnfgeacnfiaaGreatDoorXAP
import Derived.Test.YthhcnfgeacnfiaaGreatDoorXAQ
import Derived.Test.YthhcnfgeacnfiaaGreatDoorXAR
import Derived.Test.YthhcnfgeacnfiaaGreatDoorRows
import Derived.Test.YthhcnfgeacnfiaaGreatDoorEvE
import Derived.ProofKit
import Derived.LaidMore
import Derived.OpenShut
import Derived.Stop.Joined
import Derived.RowKit3
import Derived.Carry
namespace Go.Proofs.YthhcnfgeacnfiaaGreatDoor
set_option linter.unusedSimpArgs false
open Go Go.Ev Go.RowKit
set_option linter.unusedVariables false
set_option maxRecDepth 100000

theorem liveG_ntmps : Tryz.f6.ntmps = liveGV8.length := by kernel_rfl
theorem liveG_code (i : Nat) (h : i < 9) : codeOk 2 (liveGAt i (liveGBody Tryz.f6)) = true := by
 have : (List.range 9).all (fun i => codeOk 2 (liveGAt i (liveGBody Tryz.f6))) = true := by kernel_rfl
 exact List.all_eq_true.1 this i (List.mem_range.2 h)

theorem live_calls {w : World} {φ : Phi} (hR : ∀ [Sym], Rel Tryz.prog 2 w φ (keepMem 2 liveGK0) w) : Calls Tryz.prog 6 #[] w fun e w' => e = .returned (.bool true) ∧ Below w.heap.size w w' := by
 letI : Sym := ⟨fun _ => none⟩
 obtain ⟨hC, _, _, hD⟩ := ev_sound (E := evEnv0) (G := 2) (w0 := w) evOk0 (known_none rfl w) 100000
 have hb : Tryz.f6.body = some (liveGBody Tryz.f6) := rfl
 refine calls_of_wp_defers Tryz.func6 hb ?_
 have hA0 := tmp_args (φ := φ) (args := []) (args' := []) (n := Tryz.f6.ntmps) (Nat.zero_le _) (Nat.le_of_ble_eq_true (by kernel_rfl)) .nil (keepMem 2 liveGK0)
 rw [show ({ tmps := ofListFrom .leaf 0 [], n := Tryz.f6.ntmps, defers := [], m := keepMem 2 liveGK0 } : Ev.Act) = Act.start liveGV0 Tryz.f6.ntmps (keepMem 2 liveGK0) from by unfold Act.start; rfl] at hA0
 refine wp_seq (piece hC (liveG_code 0 (by decide)) liveG_piece0 (by kernel_rfl) hA0 hR fun φ1 ac1 w1 hA1 hR1 => ?_)
 refine wp_seq (piece hC (liveG_code 1 (by decide)) liveG_piece1 (by kernel_rfl) hA1 hR1 fun φ2 ac2 w2 hA2 hR2 => ?_)
 refine wp_seq (piece hC (liveG_code 2 (by decide)) liveG_piece2 (by kernel_rfl) hA2 hR2 fun φ3 ac3 w3 hA3 hR3 => ?_)
 refine wp_seq (piece hC (liveG_code 3 (by decide)) liveG_piece3 (by kernel_rfl) hA3 hR3 fun φ4 ac4 w4 hA4 hR4 => ?_)
 refine wp_seq (piece hC (liveG_code 4 (by decide)) liveG_piece4 (by kernel_rfl) hA4 hR4 fun φ5 ac5 w5 hA5 hR5 => ?_)
 refine wp_seq (piece hC (liveG_code 5 (by decide)) liveG_piece5 (by kernel_rfl) hA5 hR5 fun φ6 ac6 w6 hA6 hR6 => ?_)
 refine wp_seq (piece hC (liveG_code 6 (by decide)) liveG_piece6 (by kernel_rfl) hA6 hR6 fun φ7 ac7 w7 hA7 hR7 => ?_)
 refine wp_seq (piece hC (liveG_code 7 (by decide)) liveG_piece7 (by kernel_rfl) hA7 hR7 fun φ8 ac8 w8 hA8 hR8 => ?_)
 refine hC .ret _ _ .ret ac8 φ8 w8 _ rfl rfl hA8 (by rw [m_start]; exact hR8) fun φ' ac' w' x hext hA' hR' hx => ?_
 cases hx
 refine leaves_sound (E := evEnv0) evOk0 hD [] ac'.defers _ _ φ' w' rfl (by have := hA'.defers; rw [d_start] at this; exact this) hA' hR' (vs := [.bool true]) (by kernel_rfl) fun φ'' v'' w'' k1 k2 k3 => ?_
 have : v'' = .bool true := by cases k2; rfl
 rw [this]
 exact ⟨rfl, k3.below⟩
end Go.Proofs.YthhcnfgeacnfiaaGreatDoor

namespace Go.Proofs.YthhcnfgeacnfiaaGreatDoor
open Go Go.Ev Go.ChangeShapes Go.WideShapes Go.ChangeAt Go.WideMaps Go.WideElems Go.RowKit
set_option maxRecDepth 100000
set_option linter.unusedVariables false
set_option linter.unusedSimpArgs false

theorem own : ownKnob Tryz.prog.godebug = none := by kernel_rfl
theorem gNames : Tryz.prog.globalNamed "jacquard/scope.names" = some 0 := by kernel_rfl
theorem gSigns : Tryz.prog.globalNamed "jacquard/prim.signs" = some 1 := by kernel_rfl
theorem tNames : (Tryz.prog.globals[0]?).map (·.type) = some 180 := by kernel_rfl
theorem tSigns : (Tryz.prog.globals[1]?).map (·.type) = some 148 := by kernel_rfl
theorem c9 : Tryz.prog.cellsOf 9 = 1 := by kernel_rfl
theorem c180 : Tryz.prog.cellsOf 180 = 30 := by kernel_rfl
theorem c148 : Tryz.prog.cellsOf 148 = 11 := by kernel_rfl

abbrev laidAll : List (String × DataW Unit) := [("jacquard/prim.signs", Rows.laid_jacquard_prim_signs), ("jacquard/scope.names", Rows.laid_jacquard_scope_names)]

/-- The door's own heap meets the condition. -/
theorem door_met (os : Os) (args : Array Value) : laidMetH Tryz.prog laidAll ((World.doorLaid Tryz.prog 400 os).forCall (fun _ _ => 0) ⟨#[], args, []⟩).memory :=
 laidMetH_of_parts3 (fuel := 8) (laidMet_of_run' 8 (by kernel_rfl) (by kernel_rfl)) (by kernel_rfl) (by kernel_rfl)

def nameBytes : List (List UInt8) := [[112, 114, 105, 110, 116], [108, 101, 110], [112, 117, 115, 104], [112, 111, 112], [107, 101, 121, 115], [104, 97, 115], [103, 101, 116], [112, 117, 116], [115, 97, 109, 101], [116, 101, 120, 116], [99, 120], [114, 101], [105, 109], [107, 105, 110, 100], [121, 105, 101, 108, 100], [115, 108, 101, 101, 112], [110, 111, 119], [114, 97, 110, 100], [106, 111, 105, 110], [98, 111, 120], [115, 101, 110, 100], [114, 101, 99, 118], [109, 111, 110, 105, 116, 111, 114], [108, 111, 99, 107], [117, 110, 108, 111, 99, 107], [119, 97, 105, 116], [119, 97, 105, 116, 102, 111, 114], [110, 111, 116, 105, 102, 121], [110, 111, 116, 105, 102, 121, 97, 108, 108], [115, 101, 108, 102]]
def signBytes : List (List UInt8) := [[43], [45], [42], [47], [37], [61, 61], [33, 61], [60], [60, 61], [62], [62, 61]]
theorem laid_names : (Rows.laid_jacquard_scope_names : DataW Unit) = .agg (nameBytes.map fun b => .lit (.string b)) := rfl
theorem laid_signs : (Rows.laid_jacquard_prim_signs : DataW Unit) = .agg (signBytes.map fun b => .lit (.string b)) := rfl
def evNames : List Value := nameBytes.map fun b => .string ⟨⟨b⟩⟩
def evSigns : List Value := signBytes.map fun b => .string ⟨⟨b⟩⟩
def evStart (e0 e1 : TypeId) : List (Option (Nat × TypeId × List Value)) := [some (30, e0, evNames), some (11, e1, evSigns)]

/-- WHAT THE CONDITION GIVES THE WALKS: the variables' blocks hold what is told. -/
theorem of_laid {W : World} (h : laidMetH Tryz.prog laidAll W) : ∃ e0 e1, Fits (evStart e0 e1) W := by
 letI : Sym := ⟨fun _ => none⟩
 rw [MakeChecks.laidMetH_plain _ _ _ (by kernel_rfl)] at h
 obtain ⟨ps, ⟨g1, t1, cs1, f1, p1, q1, hg1, ht1, hv1, hd1, ⟨g0, t0, cs0, f0, p0, q0, hg0, ht0, hv0, hd0, _, _⟩, _⟩, _, _⟩ := h
 obtain rfl := Option.some.inj (gNames.symm.trans hg0)
 obtain rfl := Option.some.inj (gSigns.symm.trans hg1)
 obtain rfl := Option.some.inj (tNames.symm.trans ht0)
 obtain rfl := Option.some.inj (tSigns.symm.trans ht1)
 obtain ⟨n0, k0⟩ := cells_strings Tryz.underlying180 Tryz.underlying9 c9 hd0 (bs := nameBytes) laid_names rfl
 obtain ⟨n1, k1⟩ := cells_strings Tryz.underlying148 Tryz.underlying9 c9 hd1 (bs := signBytes) laid_signs rfl
 rw [c180] at n0
 rw [c148] at n1
 obtain ⟨e0, fr0, h0⟩ := var_block gNames hv0
 obtain ⟨e1, fr1, h1⟩ := var_block gSigns hv1
 refine ⟨e0, e1, ?_, fun g n e' l hg => ?_⟩
 ·exact (Array.getElem?_eq_some_iff.1 h1).1
 ·match g, hg with
  | 0, hg =>
   have hg' : some (30, e0, evNames) = some (n, e', l) := Option.some.inj hg
   cases hg'
   exact ⟨cs0, fr0, h0, Nat.le_of_eq n0.symm, by decide, by decide, by decide, fun i hi => (Array.getElem?_toList (xs := cs0)).symm.trans (k0 i hi)⟩
  | 1, hg =>
   have hg' : some (11, e1, evSigns) = some (n, e', l) := Option.some.inj hg
   cases hg'
   exact ⟨cs1, fr1, h1, Nat.le_of_eq n1.symm, by decide, by decide, by decide, fun i hi => (Array.getElem?_toList (xs := cs1)).symm.trans (k1 i hi)⟩
  | g + 2, hg => cases hg

theorem start_same : (fun e0 e1 : TypeId => liveGK0.all fun q => objSame q.2 ((startMem (evStart e0 e1)).get q.1)) = fun _ _ => true := by kernel_rfl

/-- 'live' returns true wherever the listed variables hold what is told, and nothing that was there turns. -/
theorem live_at {e0 e1 : TypeId} {w : World} (h : Fits (evStart e0 e1) w) : Calls Tryz.prog 6 #[] w fun e w' => e = .returned (.bool true) ∧ Below w.heap.size w w' := by
 refine live_calls (φ := ⟨fun b => if b < (evStart e0 e1).length then some b else none, fun _ => 0⟩) ?_
 intro _
 have hR : Rel Tryz.prog 2 w _ _ w := startMem_rel (P := Tryz.prog) (gs := evStart e0 e1) (show 2 ≤ 1000000000 by decide) h
 refine hR.drop rfl fun b o ho => ?_
 have hm := keepMem_get 2 liveGK0 b o ho
 have hs := congrFun (congrFun start_same e0) e1
 exact objSame_le (List.all_eq_true.1 hs (b, o) hm)
end Go.Proofs.YthhcnfgeacnfiaaGreatDoor
