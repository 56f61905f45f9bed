/- ScopeGlobals returns true for every list of nodes, and its argument reads behind the call as before; the listed variable starts as the program's text lays it. -/
import Derived.Test.YtihokakelnfdgaaDoorLaid
import Derived.Test.YtihokakelnfdgaaDoorSO
import Derived.Test.YtihokakelnfdgaaDoorTie
import Derived.Test.YtihokakelnfdgaaDoorCards
import Derived.WalkKit
namespace Go.Proofs.YtihokakelnfdgaaDoor
open Go Go.Ev Go.ChangeShapes Go.WideShapes Go.ChangeAt Go.RowKit
set_option maxRecDepth 1000000
set_option linter.unusedVariables false
set_option linter.unusedSimpArgs false

theorem laidOut : laidOutB Tryd.prog = true := by kernel_rfl
theorem names_arg (e : TypeId) (off : Nat) (l : List Value) (t : TypeId) : Names (argMemG (evStart e) off l t) := by
 refine ⟨ofListFrom .leaf 0 evNames, e, ?_, fun i hi => ?_⟩
 ·rw [argMemG_other _ _ _ _ (show (0 : Nat) ≠ 1 by decide)]; rfl
 ·rw [get_ofList, if_pos (by have : evNames.length = 30 := rfl; omega), Nat.sub_zero]; rfl
theorem names_start (e : TypeId) : Names (startMem (evStart e)) := by
 refine ⟨ofListFrom .leaf 0 evNames, e, rfl, fun i hi => ?_⟩
 rw [get_ofList, if_pos (by have : evNames.length = 30 := rfl; omega), Nat.sub_zero]; rfl
theorem arg_next (e : TypeId) (off : Nat) (l : List Value) (t : TypeId) : (argMemG (evStart e) off l t).next = 2 := rfl

/-- a law over nodes, in the model. -/
theorem nodes_walk (f : Nat) (hnil : ∀ (sl : Option Addr) (cap : Nat) (m : Mem), Names m → 0 < m.next → Runs evEnv f [.slice sl 0 cap] m fun v _ => v = .bool true)
  (hsome : ∀ (b off cap : Nat) (l : List Nd), (∀ x ∈ l, x.ok ∧ x.text.length ≤ 9223372036854775807) → l.length ≤ 9223372036854775807 → l ≠ [] → ∀ (m : Mem), Nodes m b off l → Names m → b < m.next → 0 < m.next → Runs evEnv f [.slice (some ⟨b, off, none⟩) l.length cap] m fun v _ => v = .bool true)
  {e : TypeId} {W : World} (hf : Fits (evStart e) W) {c0 : Array Value} {e0 : TypeId} {fr0 : Nat × Nat} (h30 : W.heap[0]? = some (Obj.cells c0 e0 fr0)) (hs30 : c0.size = 30) (hc30 : ∀ i, i < 30 → c0[i]? = evNames[i]?)
  {H : Type} {enc : TypeId × Value → H} {base : Nat} {spare : Nat → Bool} {held : Bool} {v0 : Value} {d0 : DataW H} {p0 : List MemPlace} {r : Reach} {bb : Nat}
  (hv : Value.okWide Tryd.prog W r bb 24 v0) (h0 : DataW.Trod enc Tryd.prog W base spare held 24 v0 d0 p0) :
  Calls Tryd.prog f #[v0] W fun e w' => e = .returned (.bool true) ∧ Below W.heap.size W w' := by
 letI : Sym := ⟨fun _ => none⟩
 have hK : ∀ [Sym], KnownOk evEnv W := fun [Sym] => evKnown hf
 have hgs : (evStart e).length ≤ 1000000000 := by show 1 ≤ 1000000000; decide
 obtain ⟨a, len, cap, rfl⟩ := okWide_slice Tryd.underlying24 hv
 obtain ⟨fuel, h1⟩ := h0
 have hcells : (Value.slice a len cap).cells.toList = [.slice a len cap] := rfl
 rcases open_nodes h1 with ⟨a', cap', he⟩ | ⟨b, off, cap', l, c, t, fr, he, hne, hok, hw, hsz, hc⟩
 ·have he : [Value.slice a len cap] = [.slice a' 0 cap'] := he
  cases he
  cases a with
  | none => exact runs_callsG0 (E := evEnv) (gs := evStart e) (fun [Sym] => evOk) hK hgs hf (args := [.slice none 0 cap]) rfl (hnil none cap _ (names_start e) (by show 0 < 1; decide)) (.cons (.snil _ _) .nil)
  | some a => exact runs_callsG0 (E := evEnv) (gs := evStart e) (fun [Sym] => evOk) hK hgs hf (args := [.slice (some ⟨0, 0, some 0⟩) 0 0]) rfl (hnil (some ⟨0, 0, some 0⟩) 0 _ (names_start e) (by show 0 < 1; decide)) (.cons (.slost _ _ _ _ _) .nil)
 ·have he : [Value.slice a len cap] = [.slice (some ⟨b, off, none⟩) l.length cap'] := he
  cases he
  have hlen : l.length ≤ 9223372036854775807 := by
   rcases DataW.trod_slice Tryd.underlying24 h1 with ⟨hh, _⟩ | ⟨aa, ll, cc, elems, rest, n, _, hh, _, _, h5, h6, _⟩
   ·cases hh
   ·have hh : [Value.slice (some ⟨b, off, none⟩) l.length cap] = [.slice (some aa) ll cc] := hh
    cases hh
    have : maxLen ≤ 9223372036854775807 := by unfold maxLen; omega
    omega
  have hb1 : (evStart e).length ≤ b := by
   show 1 ≤ b
   rcases Nat.eq_zero_or_pos b with rfl | h
   ·exfalso
    rw [h30] at hw
    cases hw
    have hl5 := vals_len l
    have hpos : 0 < l.length := List.length_pos_iff.2 hne
    have hk := hc 0 (by omega)
    rw [Nat.add_zero, hc30 off (by omega)] at hk
    have hv0 := vals_get l 0 0 hpos (by decide)
    rw [show 0 * 5 + 0 = 0 from rfl] at hv0
    rw [hv0] at hk
    have hst : ∀ i, i < 30 → ∃ s, evNames[i]? = some (.string s) := by
     intro i hi
     have hlen30 : evNames.length = 30 := rfl
     rw [evNames_bytes, List.getElem?_map]
     have : i < nameBytes.length := by have : nameBytes.length = 30 := rfl; omega
     rw [List.getElem?_eq_getElem this]
     exact ⟨_, rfl⟩
    obtain ⟨s, hs⟩ := hst off (by omega)
    rw [hs] at hk
    cases hk
   ·exact h
  exact runs_callsG (E := evEnv) (gs := evStart e) (fun [Sym] => evOk) hK hgs hf hw hb1 hsz hc (vals_plain l) rfl
   (hsome (evStart e).length off cap l hok hlen hne _ (argMemG_nodes (evStart e) off l t) (names_arg e off _ t) (show 1 < 2 by decide) (show 0 < 2 by decide))
   (.cons (.slice off _ (show (argPhi (evStart e).length b) (evStart e).length = some b from rfl) ⟨Nat.le_refl _, Nat.le_add_right _ _⟩) .nil)

theorem globals_lifted (os : Os) (started : os.Started) (H : Type) (enc : TypeId × Value → H) :
  ReturnsInHanded {} Tryd.checked os 7 .any (fun w args => (Rows.scopeGlobalsSpec.pre enc Tryd.prog Tryd.f7 [] false w args ∧ laidMetH Tryd.prog laidNames w) ∧ sizedMet enc Tryd.prog Tryd.f7 (OpenSpec.ofChange Rows.scopeGlobalsSpec) false w args)
   (Rows.scopeGlobalsSpec.post enc Tryd.prog Tryd.f7 false true false false) := by
 refine returnsInHanded_of_change_and (C := Tryd.checked) (X := fun w _ => laidMetH Tryd.prog laidNames w) (fun _ _ _ hh h => h.of_heap hh) own started (by kernel_rfl) Tryd.func7
  (ChangeSpec.witness_shaped (enc := enc) (C := Tryd.checked) (os := os) (X := fun w _ => laidMetH Tryd.prog laidNames w) false (World.doorLaid Tryd.prog 400 os) #[.slice none 0 0] 8 rfl (World.shaped_of_RefB (by kernel_rfl) (by kernel_rfl)) (by kernel_rfl) (by kernel_rfl) (by kernel_rfl) (door_met os _)) ?_
 intro W base args ds gs before hval0 hW _ _ hL _
 have hval : ∀ (j : Nat) t v, Tryd.f7.params[j]? = some t → args[j]? = some v → Value.okWide Tryd.prog W .any base t v := hval0
 have hW' := hW
 obtain ⟨p, q, hA0, hV, rfl, hfz, hnd⟩ := hW
 have hA : DataW.TrodAll enc Tryd.prog W 0 (fun _ => true) true Tryd.f7.params.toList args.toList ds p := hA0
 rw [Tryd.params7] at hA hval
 obtain ⟨v0, d0, rfl, rfl, h0⟩ := trodAll_one hA
 obtain ⟨rfl, rfl⟩ := trodVars_none hV
 have hlt : ∀ x ∈ p, x.block < W.heap.size := fun x hx => hW'.lt x (by simp [hx])
 obtain ⟨ee, hfits, c0, fr0, k1, k2, k3⟩ := of_laid hL
 clear hA0 hval0
 refine (nodes_walk 7 (fun sl cap m _ _ => globals7_nil sl cap m) (fun b off cap l hok hlen hne m hN hNm hbn h0 => ?_) hfits k1 k2 k3 (hval 0 24 v0 rfl rfl) h0).mono fun e W' ⟨he, hb⟩ => ?_
 ·rcases Nat.lt_or_ge 400 l.length with hl | hl
  ·exact globals7_long _ _ _ hl hlen m
  ·exact globals7 b off cap l hok hl hne m hN hNm hbn h0
 subst he
 exact ⟨_, rfl, post_of_below hW' (fun _ _ _ => (trodAll_cons_mk (shut_bool Tryd.underlying4 _) trodAll_mk0)) (trodAll_mk1 (Below.trod laidOut (by kernel_rfl) (of_decide_eq_true (by kernel_rfl)) h0 hb hlt)) rfl hb⟩

theorem globals_said : Rows.ScopeGlobalsSaid :=
 OpenClaim.holds_of_wide 7 Tryd.f7 rfl rfl rfl rfl rfl rfl rfl ⟨rfl, rfl, rfl, rfl, rfl⟩ rfl rfl rfl rfl rfl (by kernel_rfl) Tryd.func7 (by kernel_rfl)
  (of_decide_eq_true (by kernel_rfl)) (by unfold Func.isWrapper; first | (rw [if_pos (by decide +kernel)]; kernel_rfl) | (rw [if_neg (by decide +kernel)]; exact ⟨rfl, rfl⟩))
  (fun os started H enc _ => globals_lifted os started H enc)

/-- THE STATEMENT. -/
theorem scopeGlobals_holds : Rows.ScopeGlobalsCardSaid :=
 Claim7.holds_tied_plain_at .later [] [.data] true (true, "d3a3c1f440f1eadc61c248a54c777c8ee56868d1226286cb554edc6565c73fbe") false
  globals_said (fun _ h => by cases h) (by kernel_rfl) (fun _ h => by cases h) scopeGlobals_row_tie rfl ⟨rfl, rfl⟩ (by kernel_rfl) rfl
  (fun f fn hf hfn => by
   obtain rfl : f = 7 := Option.some.inj ((show Tryd.prog.funcNamed "jacquard/jacquardlaw08.ScopeGlobals" = some 7 by kernel_rfl).symm.trans hf) |>.symm
   obtain rfl : fn = Tryd.f7 := (Option.some.inj (Tryd.func7.symm.trans hfn)).symm
   exact ⟨by kernel_rfl, fun j t ht => by
    rw [Tryd.params7] at ht
    rcases j with _ | j
    ·obtain rfl : t = 24 := by simpa using ht.symm
     exact (show Tryd.prog.wantsStandIn 24 = false by kernel_rfl)
    ·simp at ht⟩)
  (by kernel_rfl)
#print axioms scopeGlobals_holds
end Go.Proofs.YtihokakelnfdgaaDoor
