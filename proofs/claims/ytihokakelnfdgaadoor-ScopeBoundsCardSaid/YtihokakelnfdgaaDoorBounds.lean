/- ScopeBounds returns true for every number, and its argument reads behind the call as before; the listed variable starts as the program's text lays it. -/
import Derived.Test.YtihokakelnfdgaaDoorSR
import Derived.Test.YtihokakelnfdgaaDoorLaid
import Derived.Test.YtihokakelnfdgaaDoorEvV
import Derived.Test.YtihokakelnfdgaaDoorTie
import Derived.Test.YtihokakelnfdgaaDoorCards
import Derived.WalkKit
namespace Go.Proofs.YtihokakelnfdgaaDoor
open Go Go.Ev Go.ChangeShapes Go.WideShapes Go.ChangeAt Go.RowKit
set_option maxRecDepth 1000000
set_option linter.unusedVariables false
set_option linter.unusedSimpArgs false

theorem names_start (e : TypeId) : Names (startMem (evStart e)) := by
 refine ⟨ofListFrom .leaf 0 evNames, e, rfl, fun i hi => ?_⟩
 rw [get_ofList, if_pos (by have : evNames.length = 30 := rfl; omega), Nat.sub_zero]; rfl

theorem bounds_walk {e : TypeId} {W : World} (hf : Fits (evStart e) W) (i : Int) : Calls Tryd.prog 5 #[.int .i64 i] W fun e w' => e = .returned (.bool true) ∧ Below W.heap.size W w' := by
 have hK : ∀ [Sym], KnownOk evEnv W := fun [Sym] => evKnown hf
 have hgs : (evStart e).length ≤ 1000000000 := by show 1 ≤ 1000000000; decide
 refine runs_callsG0 (E := evEnv) (gs := evStart e) (fun [Sym] => evOk) hK hgs hf (args := [I i]) rfl ?_ (.cons (.int _ _) .nil)
 by_cases h : i < 250 ∨ 260 < i
 ·exact bounds5_out i h _
 ·have : I i = I (i.toNat : Nat) := by rw [show ((i.toNat : Nat) : Int) = i by omega]
  rw [this]
  exact bounds5 i.toNat (by omega) (by omega) _ (names_start e) (by show 0 < 1; decide)

theorem bounds_lifted (os : Os) (started : os.Started) (H : Type) (enc : TypeId × Value → H) :
  ReturnsInHanded {} Tryd.checked os 5 .any (fun w args => (Rows.scopeBoundsSpec.pre enc Tryd.prog Tryd.f5 [] false w args ∧ laidMetH Tryd.prog laidNames w) ∧ sizedMet enc Tryd.prog Tryd.f5 (OpenSpec.ofChange Rows.scopeBoundsSpec) false w args)
   (Rows.scopeBoundsSpec.post enc Tryd.prog Tryd.f5 false true false false) := by
 refine returnsInHanded_of_change_and (C := Tryd.checked) (X := fun w _ => laidMetH Tryd.prog laidNames w) (fun _ _ _ hh h => h.of_heap hh) own started (by kernel_rfl) Tryd.func5
  (ChangeSpec.witness_shaped (enc := enc) (C := Tryd.checked) (os := os) (X := fun w _ => laidMetH Tryd.prog laidNames w) false (World.doorLaid Tryd.prog 400 os) #[.int .i64 0] 8 rfl (World.shaped_of_RefB (by kernel_rfl) (by kernel_rfl)) (by kernel_rfl) (by kernel_rfl) (by kernel_rfl) (door_met os _)) ?_
 intro W base args ds gs before hval0 hW _ _ hL _
 have hval : ∀ (j : Nat) t v, Tryd.f5.params[j]? = some t → args[j]? = some v → Value.okWide Tryd.prog W .any base t v := hval0
 have hW' := hW
 obtain ⟨p, q, hA0, hV, rfl, hfz, hnd⟩ := hW
 have hA : DataW.TrodAll enc Tryd.prog W 0 (fun _ => true) true Tryd.f5.params.toList args.toList ds p := hA0
 rw [Tryd.params5] at hA hval
 obtain ⟨v0, vs0, d0, ds0, p0, q0, hargs, rfl, rfl, h0, r0⟩ := trodAll_cons hA
 obtain ⟨rfl, rfl, rfl⟩ := trodAll_nil r0
 obtain rfl : args = #[v0] := by cases args; simp_all
 obtain ⟨rfl, rfl⟩ := trodVars_none hV
 obtain ⟨a0, rfl, rfl, rfl, w0⟩ := open_int Tryd.underlying3 (hval 0 3 v0 rfl rfl) h0
 obtain ⟨ee, hfits, -⟩ := of_laid hL
 clear hA0 hval0
 simp only [List.append_nil] at hW'
 refine (bounds_walk hfits a0).mono fun e W' ⟨he, hb⟩ => ?_
 subst he
 exact ⟨_, rfl, post_of_below hW' (fun _ _ _ => (trodAll_cons_mk (shut_bool Tryd.underlying4 _) trodAll_mk0)) (trodAll_cons_mk (shut_int Tryd.underlying3 w0) trodAll_mk0) rfl hb⟩

theorem bounds_said : Rows.ScopeBoundsSaid :=
 OpenClaim.holds_of_wide 5 Tryd.f5 rfl rfl rfl rfl rfl rfl rfl ⟨rfl, rfl, rfl, rfl, rfl⟩ rfl rfl rfl rfl rfl (by kernel_rfl) Tryd.func5 (by kernel_rfl)
  (of_decide_eq_true (by kernel_rfl)) (by unfold Func.isWrapper; first | (rw [if_pos (by decide +kernel)]; kernel_rfl) | (rw [if_neg (by decide +kernel)]; exact ⟨rfl, rfl⟩))
  (fun os started H enc _ => bounds_lifted os started H enc)

/-- THE STATEMENT. -/
theorem scopeBounds_holds : Rows.ScopeBoundsCardSaid :=
 Claim7.holds_tied_plain_at .later [] [.data] true (true, "d3a3c1f440f1eadc61c248a54c777c8ee56868d1226286cb554edc6565c73fbe") false
  bounds_said (fun _ h => by cases h) (by kernel_rfl) (fun _ h => by cases h) scopeBounds_row_tie rfl ⟨rfl, rfl⟩ (by kernel_rfl) rfl
  (fun f fn hf hfn => by
   obtain rfl : f = 5 := Option.some.inj ((show Tryd.prog.funcNamed "jacquard/jacquardlaw08.ScopeBounds" = some 5 by kernel_rfl).symm.trans hf) |>.symm
   obtain rfl : fn = Tryd.f5 := (Option.some.inj (Tryd.func5.symm.trans hfn)).symm
   exact ⟨by kernel_rfl, fun j t ht => by
    rw [Tryd.params5] at ht
    have h3 : t = 3 := by
     rcases j with _ | j
     ·simpa using ht.symm
     ·simp at ht
    subst h3
    exact (show Tryd.prog.wantsStandIn 3 = false by kernel_rfl)⟩)
  (by kernel_rfl)
#print axioms scopeBounds_holds
end Go.Proofs.YtihokakelnfdgaaDoor
