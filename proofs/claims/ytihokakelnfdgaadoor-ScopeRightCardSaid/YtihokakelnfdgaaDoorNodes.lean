/- Part of a verified evaluator of the model's programs and of runs by it: SNW. -/
import Derived.Test.YtihokakelnfdgaaDoorLaid
import Derived.Test.YtihokakelnfdgaaDoorSO
import Derived.Test.YtihokakelnfdgaaDoorTie
import Derived.Test.YtihokakelnfdgaaDoorCards
import Derived.WalkKit
namespace Go.Proofs.YtihokakelnfdgaaDoor
open Go Go.Ev Go.ChangeShapes Go.WideShapes Go.ChangeAt Go.RowKit
set_option maxRecDepth 1000000
set_option linter.unusedVariables false
set_option linter.unusedSimpArgs false

theorem laidOut : laidOutB Tryd.prog = true := by kernel_rfl
theorem names_arg (e : TypeId) (off : Nat) (l : List Value) (t : TypeId) : Names (argMemG (evStart e) off l t) := by
 refine ⟨ofListFrom .leaf 0 evNames, e, ?_, fun i hi => ?_⟩
 ·rw [argMemG_other _ _ _ _ (show (0 : Nat) ≠ 1 by decide)]; rfl
 ·rw [get_ofList, if_pos (by have : evNames.length = 30 := rfl; omega), Nat.sub_zero]; rfl
theorem names_start (e : TypeId) : Names (startMem (evStart e)) := by
 refine ⟨ofListFrom .leaf 0 evNames, e, rfl, fun i hi => ?_⟩
 rw [get_ofList, if_pos (by have : evNames.length = 30 := rfl; omega), Nat.sub_zero]; rfl
theorem arg_next (e : TypeId) (off : Nat) (l : List Value) (t : TypeId) : (argMemG (evStart e) off l t).next = 2 := rfl

/-- a law over nodes, in the model. -/
theorem nodes_walk (f : Nat) (hnil : ∀ (sl : Option Addr) (cap : Nat), (∀ m, effect.cellsIn m 5 (.slice sl 0 cap) = some (0, [])) → ∀ (m : Mem), Names m → 0 < m.next → Runs evEnv f [.slice sl 0 cap] m fun v _ => v = .bool true)
  (hsome : ∀ (b off cap : Nat) (l : List Nd), (∀ x ∈ l, x.ok ∧ x.text.length ≤ 140737488351232) → l.length ≤ 9223372036854775807 → l ≠ [] → ∀ (m : Mem), Nodes m b off l → Names m → b < m.next → 0 < m.next → Runs evEnv f [.slice (some ⟨b, off, none⟩) l.length cap] m fun v _ => v = .bool true)
  {e : TypeId} {W : World} (hf : Fits (evStart e) W) {c0 : Array Value} {e0 : TypeId} {fr0 : Nat × Nat} (h30 : W.heap[0]? = some (Obj.cells c0 e0 fr0)) (hs30 : c0.size = 30) (hc30 : ∀ i, i < 30 → c0[i]? = evNames[i]?)
  {H : Type} {enc : TypeId × Value → H} {base : Nat} {spare : Nat → Bool} {held : Bool} {v0 : Value} {d0 : DataW H} {p0 : List MemPlace} {r : Reach} {bb : Nat}
  (hv : Value.okWide Tryd.prog W r bb 24 v0) (h0 : DataW.Trod enc Tryd.prog W base spare held 24 v0 d0 p0) (hB : ∀ q ∈ d0.weights Tryd.prog 24, q ≤ 140737488351232) :
  Calls Tryd.prog f #[v0] W fun e w' => e = .returned (.bool true) ∧ Below W.heap.size W w' := by
 letI : Sym := ⟨fun _ => none⟩
 have hK : ∀ [Sym], KnownOk evEnv W := fun [Sym] => evKnown hf
 have hgs : (evStart e).length ≤ 1000000000 := by show 1 ≤ 1000000000; decide
 obtain ⟨a, len, cap, rfl⟩ := okWide_slice Tryd.underlying24 hv
 obtain ⟨fuel, h1⟩ := h0
 have hcells : (Value.slice a len cap).cells.toList = [.slice a len cap] := rfl
 rcases open_nodes h1 with ⟨a', cap', he⟩ | ⟨b, off, cap', l, c, t, fr, he, hne, hok, hw, hsz, hc⟩
 ·have he : [Value.slice a len cap] = [.slice a' 0 cap'] := he
  cases he
  cases a with
  | none => exact runs_callsG0 (E := evEnv) (gs := evStart e) (fun [Sym] => evOk) hK hgs hf (args := [.slice none 0 cap]) rfl (hnil none cap (fun _ => rfl) _ (names_start e) (by show 0 < 1; decide)) (.cons (.snil _ _) .nil)
  | some a => exact runs_callsG0 (E := evEnv) (gs := evStart e) (fun [Sym] => evOk) hK hgs hf (args := [.slice (some ⟨0, 0, some 0⟩) 0 0]) rfl (hnil (some ⟨0, 0, some 0⟩) 0 (fun _ => rfl) _ (names_start e) (by show 0 < 1; decide)) (.cons (.slost _ _ _ _ _) .nil)
 ·have he : [Value.slice a len cap] = [.slice (some ⟨b, off, none⟩) l.length cap'] := he
  cases he
  have hlen : l.length ≤ 9223372036854775807 := by
   rcases DataW.trod_slice Tryd.underlying24 h1 with ⟨hh, _⟩ | ⟨aa, ll, cc, elems, rest, n, _, hh, _, _, h5, h6, _⟩
   ·cases hh
   ·have hh : [Value.slice (some ⟨b, off, none⟩) l.length cap] = [.slice (some aa) ll cc] := hh
    cases hh
    have : maxLen ≤ 9223372036854775807 := by unfold maxLen; omega
    omega
  have hb1 : (evStart e).length ≤ b := by
   show 1 ≤ b
   rcases Nat.eq_zero_or_pos b with rfl | h
   ·exfalso
    rw [h30] at hw
    cases hw
    have hl5 := vals_len l
    have hpos : 0 < l.length := List.length_pos_iff.2 hne
    have hk := hc 0 (by omega)
    rw [Nat.add_zero, hc30 off (by omega)] at hk
    have hv0 := vals_get l 0 0 hpos (by decide)
    rw [show 0 * 5 + 0 = 0 from rfl] at hv0
    rw [hv0] at hk
    have hst : ∀ i, i < 30 → ∃ s, evNames[i]? = some (.string s) := by
     intro i hi
     have hlen30 : evNames.length = 30 := rfl
     rw [evNames_bytes, List.getElem?_map]
     have : i < nameBytes.length := by have : nameBytes.length = 30 := rfl; omega
     rw [List.getElem?_eq_getElem this]
     exact ⟨_, rfl⟩
    obtain ⟨s, hs⟩ := hst off (by omega)
    rw [hs] at hk
    cases hk
   ·exact h
  exact runs_callsG (E := evEnv) (gs := evStart e) (fun [Sym] => evOk) hK hgs hf hw hb1 hsz hc (vals_plain l) rfl
   (hsome (evStart e).length off cap l (fun x hx => ⟨(hok x hx).1, hB _ (hok x hx).2.2⟩) hlen hne _ (argMemG_nodes (evStart e) off l t) (names_arg e off _ t) (show 1 < 2 by decide) (show 0 < 2 by decide))
   (.cons (.slice off _ (show (argPhi (evStart e).length b) (evStart e).length = some b from rfl) ⟨Nat.le_refl _, Nat.le_add_right _ _⟩) .nil)

end Go.Proofs.YtihokakelnfdgaaDoor
