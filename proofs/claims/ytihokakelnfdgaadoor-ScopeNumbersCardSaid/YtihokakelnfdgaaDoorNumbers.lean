/- ScopeNumbers returns true for every number, and its argument reads behind the call as before; the listed variable starts as the program's text lays it. -/
import Derived.Test.YtihokakelnfdgaaDoorLaid
import Derived.Test.YtihokakelnfdgaaDoorNumWalk
import Derived.Test.YtihokakelnfdgaaDoorTie
import Derived.Test.YtihokakelnfdgaaDoorCards
import Derived.WalkKit
namespace Go.Proofs.YtihokakelnfdgaaDoor
open Go Go.Ev Go.ChangeShapes Go.WideShapes Go.ChangeAt Go.RowKit
set_option maxRecDepth 1000000

theorem evNumbers : (fun e : TypeId => (List.range 30).map fun i => back (call evEnvK 1000 9 [.int .i64 (.ofNat i)] (startMem (evStart e)))) = fun _ => List.replicate 30 (some (Value.bool true)) := by kernel_rfl

theorem numbers_in {e : TypeId} {w : World} (h : Fits (evStart e) w) (i : Nat) (hi : i < 30) : Calls Tryd.prog 9 #[.int .i64 (.ofNat i)] w fun e w' => e = .returned (.bool true) ∧ Below w.heap.size w w' := by
  have h1 := congrArg (·[i]?) (congrFun evNumbers e)
  simp only [List.getElem?_map, List.getElem?_range hi, Option.map_some, List.getElem?_replicate, hi, if_true, Option.some.injEq] at h1
  exact closedK h h1 rfl rfl

theorem numbers_walk {e : TypeId} {w : World} (h : Fits (evStart e) w) (i : Int) : Calls Tryd.prog 9 #[.int .i64 i] w fun e w' => e = .returned (.bool true) ∧ Below w.heap.size w w' := by
  by_cases h0 : i < 0
  · exact numbers_low i (by simpa using h0) w (live_calls h)
  · by_cases h1 : 30 ≤ i
    · exact numbers_high i (by simpa using h0) (by simpa using h1) w (live_calls h)
    · have := numbers_in h i.toNat (by omega)
      rw [show (Int.ofNat i.toNat) = i by simp; omega] at this
      exact this

theorem numbers_lifted (os : Os) (started : os.Started) (H : Type) (enc : TypeId × Value → H) :
    ReturnsInHanded {} Tryd.checked os 9 .any (fun w args => (Rows.scopeNumbersSpec.pre enc Tryd.prog Tryd.f9 [] false w args ∧ laidMetH Tryd.prog laidNames w) ∧ sizedMet enc Tryd.prog Tryd.f9 (OpenSpec.ofChange Rows.scopeNumbersSpec) false w args)
      (Rows.scopeNumbersSpec.post enc Tryd.prog Tryd.f9 false true false false) := by
  refine returnsInHanded_of_change_and (C := Tryd.checked) (X := fun w _ => laidMetH Tryd.prog laidNames w) (fun _ _ _ hh h => h.of_heap hh) own started (by kernel_rfl) Tryd.func9
    (ChangeSpec.witness_shaped (enc := enc) (C := Tryd.checked) (os := os) (X := fun w _ => laidMetH Tryd.prog laidNames w) false (World.doorLaid Tryd.prog 400 os) #[.int .i64 0] 8 rfl (World.shaped_of_RefB (by kernel_rfl) (by kernel_rfl)) (by kernel_rfl) (by kernel_rfl) (by kernel_rfl) (door_met os _)) ?_
  intro W base args ds gs before hval0 hW _ _ hL _
  have hval : ∀ (j : Nat) t v, Tryd.f9.params[j]? = some t → args[j]? = some v → Value.okWide Tryd.prog W .any base t v := hval0
  have hW' := hW
  obtain ⟨p, q, hA0, hV, rfl, hfz, hnd⟩ := hW
  have hA : DataW.TrodAll enc Tryd.prog W 0 (fun _ => true) true Tryd.f9.params.toList args.toList ds p := hA0
  rw [Tryd.params9] at hA hval
  obtain ⟨v0, vs0, d0, ds0, p0, q0, hargs, rfl, rfl, h0, r0⟩ := trodAll_cons hA
  obtain ⟨rfl, rfl, rfl⟩ := trodAll_nil r0
  obtain rfl : args = #[v0] := by cases args; simp_all
  obtain ⟨rfl, rfl⟩ := trodVars_none hV
  obtain ⟨a0, rfl, rfl, rfl, w0⟩ := open_int Tryd.underlying3 (hval 0 3 v0 rfl rfl) h0
  obtain ⟨ee, hfits⟩ := of_laid hL
  clear hA0 hval0
  simp only [List.append_nil] at hW'
  refine (numbers_walk hfits a0).mono fun e W' ⟨he, hb⟩ => ?_
  subst he
  exact ⟨_, rfl, post_of_below hW' (fun _ _ _ => (trodAll_cons_mk (shut_bool Tryd.underlying4 _) trodAll_mk0)) (trodAll_cons_mk (shut_int Tryd.underlying3 w0) trodAll_mk0) rfl hb⟩

theorem numbers_said : Rows.ScopeNumbersSaid :=
  OpenClaim.holds_of_wide 9 Tryd.f9 rfl rfl rfl rfl rfl rfl rfl ⟨rfl, rfl, rfl, rfl, rfl⟩ rfl rfl rfl rfl rfl (by kernel_rfl) Tryd.func9 (by kernel_rfl)
    (of_decide_eq_true (by kernel_rfl)) (by unfold Func.isWrapper; first | (rw [if_pos (by decide +kernel)]; kernel_rfl) | (rw [if_neg (by decide +kernel)]; exact ⟨rfl, rfl⟩))
    (fun os started H enc _ => numbers_lifted os started H enc)

/-- THE STATEMENT. -/
theorem scopeNumbers_holds : Rows.ScopeNumbersCardSaid :=
  Claim7.holds_tied_plain_at .later [] [.data] true (true, "d3a3c1f440f1eadc61c248a54c777c8ee56868d1226286cb554edc6565c73fbe") false
    numbers_said (fun _ h => by cases h) (by kernel_rfl) (fun _ h => by cases h) scopeNumbers_row_tie rfl ⟨rfl, rfl⟩ (by kernel_rfl) rfl
    (fun f fn hf hfn => by
      obtain rfl : f = 9 := Option.some.inj ((show Tryd.prog.funcNamed "jacquard/jacquardlaw08.ScopeNumbers" = some 9 by kernel_rfl).symm.trans hf) |>.symm
      obtain rfl : fn = Tryd.f9 := (Option.some.inj (Tryd.func9.symm.trans hfn)).symm
      exact ⟨by kernel_rfl, fun j t ht => by
        rw [Tryd.params9] at ht
        have h3 : t = 3 := by
          rcases j with _ | j
          · simpa using ht.symm
          · simp at ht
        subst h3
        exact (show Tryd.prog.wantsStandIn 3 = false by kernel_rfl)⟩)
    (by kernel_rfl)
#print axioms scopeNumbers_holds
end Go.Proofs.YtihokakelnfdgaaDoor
