/- GenLists returns true for every number, and its argument reads behind the call as before; the listed variables start as the program's text lays them. -/
import Derived.Test.YthhcnfgeacnfiaaGreatDoorXAI
import Derived.Test.YthhcnfgeacnfiaaGreatDoorXAS
import Derived.Test.YthhcnfgeacnfiaaGreatDoorEvG
import Derived.Test.YthhcnfgeacnfiaaGreatDoorTie
import Derived.Test.YthhcnfgeacnfiaaGreatDoorCards
import Derived.WalkKit
namespace Go.Proofs.YthhcnfgeacnfiaaGreatDoor
open Go Go.Ev Go.ChangeShapes Go.WideShapes Go.ChangeAt Go.RowKit
set_option maxRecDepth 1000000
set_option linter.unusedVariables false
set_option linter.unusedSimpArgs false

/-- THE ROW's RESULT where nothing that was there has turned. -/
theorem post_of_below {H : Type} {enc : TypeId × Value → H} {P : Program} {f : Func} {s : ChangeSpec} {apart fresh handsOn : Bool} {W W' : World} {args : Array Value} {v : Value} {ds gs : List (DataW H)} {before pa : List MemPlace}
  (hW : DataW.Whole enc P f.params.toList s.vars apart W args.toList ds gs before)
  (hres : ∀ (b : Nat) (sp : Nat → Bool) (hd : Bool), DataW.TrodAll enc P W' b sp hd f.resultTypes.toList (v.resultList f.resultTypes.size) (s.fn H (ds ++ gs)).results [])
  (hargs : DataW.TrodAll enc P W' 0 (fun b => decide (b < W.heap.size)) true f.params.toList args.toList (s.fn H (ds ++ gs)).args pa)
  (hvars : DataW.TrodVars enc P W' (fun b => decide (b < W.heap.size)) s.vars (s.fn H (ds ++ gs)).vars [])
  (hb : Below W.heap.size W W') : s.post enc P f apart fresh handsOn false W args v W' :=
 ⟨ds, gs, before, [], pa, [], hW, hres _ _ _, hargs, hvars, hb.frame _, fun h => by cases h⟩

theorem live_there : ∃ fn, evEnv.funcs.get 6 = some fn ∧ fn.body.isSome = true := ⟨Tryz.f6, by kernel_rfl, by kernel_rfl⟩
theorem evKnown [Sym] {e0 e1 : TypeId} {W : World} (h : Fits (evStart e0 e1) W) : KnownOk evEnv W :=
 known_of fun q hq => by
  obtain rfl : q = (6, [], .bool true) := List.mem_singleton.1 hq
  exact ⟨live_there, [], .bool true, .nil, fun _ => .bool true, fun w hw => live_at (h.below hw h.1)⟩

theorem names_start (e0 e1 : TypeId) : Names (startMem (evStart e0 e1)) := by
 refine ⟨ofListFrom .leaf 0 evNames, e0, rfl, fun i hi => ?_⟩
 rw [get_ofList, if_pos (by have : evNames.length = 30 := rfl; omega), Nat.sub_zero]; rfl

theorem lists_walk {e0 e1 : TypeId} {W : World} (hf : Fits (evStart e0 e1) W) (i : Int) : Calls Tryz.prog 5 #[.int .i64 i] W fun e w' => e = .returned (.bool true) ∧ Below W.heap.size W w' := by
 have hK : ∀ [Sym], KnownOk evEnv W := fun [Sym] => evKnown hf
 have hgs : (evStart e0 e1).length ≤ 1000000000 := by show 2 ≤ 1000000000; decide
 refine runs_callsG0 (E := evEnv) (gs := evStart e0 e1) (fun [Sym] => evOk) hK hgs hf (args := [I i]) rfl ?_ (.cons (.int _ _) .nil)
 by_cases h : i < 1 ∨ 300 < i
 ·exact lists5_out i h _
 ·have : I i = I (i.toNat : Nat) := by rw [show ((i.toNat : Nat) : Int) = i by omega]
  rw [this]
  exact lists5 i.toNat (by omega) (by omega) _ (names_start e0 e1) (by show 0 < 2; decide)

theorem lists_lifted (os : Os) (started : os.Started) (H : Type) (enc : TypeId × Value → H) :
  ReturnsInHanded {} Tryz.checked os 5 .any (fun w args => (Rows.genListsSpec.pre enc Tryz.prog Tryz.f5 [] false w args ∧ laidMetH Tryz.prog laidAll w) ∧ sizedMet enc Tryz.prog Tryz.f5 (OpenSpec.ofChange Rows.genListsSpec) false w args)
   (Rows.genListsSpec.post enc Tryz.prog Tryz.f5 false true false false) := by
 refine returnsInHanded_of_change_and (C := Tryz.checked) (X := fun w _ => laidMetH Tryz.prog laidAll w) (fun _ _ _ hh h => h.of_heap hh) own started (by kernel_rfl) Tryz.func5
  (ChangeSpec.witness_shaped (enc := enc) (C := Tryz.checked) (os := os) (X := fun w _ => laidMetH Tryz.prog laidAll w) false (World.doorLaid Tryz.prog 400 os) #[.int .i64 0] 8 rfl (World.shaped_of_RefB (by kernel_rfl) (by kernel_rfl)) (by kernel_rfl) (by kernel_rfl) (by kernel_rfl) (door_met os _)) ?_
 intro W base args ds gs before hval0 hW _ _ hL _
 have hval : ∀ (j : Nat) t v, Tryz.f5.params[j]? = some t → args[j]? = some v → Value.okWide Tryz.prog W .any base t v := hval0
 have hW' := hW
 obtain ⟨p, q, hA0, hV, rfl, hfz, hnd⟩ := hW
 have hA : DataW.TrodAll enc Tryz.prog W 0 (fun _ => true) true Tryz.f5.params.toList args.toList ds p := hA0
 rw [Tryz.params5] at hA hval
 obtain ⟨v0, vs0, d0, ds0, p0, q0, hargs, rfl, rfl, h0, r0⟩ := trodAll_cons hA
 obtain ⟨rfl, rfl, rfl⟩ := trodAll_nil r0
 obtain rfl : args = #[v0] := by cases args; simp_all
 obtain ⟨rfl, rfl⟩ := trodVars_none hV
 obtain ⟨a0, rfl, rfl, rfl, w0⟩ := open_int Tryz.underlying3 (hval 0 3 v0 rfl rfl) h0
 obtain ⟨e0, e1, hfits⟩ := of_laid hL
 clear hA0 hval0
 simp only [List.append_nil] at hW'
 refine (lists_walk hfits a0).mono fun e W' ⟨he, hb⟩ => ?_
 subst he
 exact ⟨_, rfl, post_of_below hW' (fun _ _ _ => (trodAll_cons_mk (shut_bool Tryz.underlying4 _) trodAll_mk0)) (trodAll_cons_mk (shut_int Tryz.underlying3 w0) trodAll_mk0) rfl hb⟩

theorem lists_said : Rows.GenListsSaid :=
 OpenClaim.holds_of_wide 5 Tryz.f5 rfl rfl rfl rfl rfl rfl rfl ⟨rfl, rfl, rfl, rfl, rfl⟩ rfl rfl rfl rfl rfl (by kernel_rfl) Tryz.func5 (by kernel_rfl)
  (of_decide_eq_true (by kernel_rfl)) (by unfold Func.isWrapper; first | (rw [if_pos (by decide +kernel)]; kernel_rfl) | (rw [if_neg (by decide +kernel)]; exact ⟨rfl, rfl⟩))
  (fun os started H enc _ => lists_lifted os started H enc)

/-- THE STATEMENT. -/
theorem genLists_holds : Rows.GenListsCardSaid :=
 Claim7.holds_tied_plain_at .later [] [.data, .data] true (true, "7bc7591e65112e89bae2459dff1c41edf600f9b6a2c2cb4edefdf26571e4e5d8") false
  lists_said (fun _ h => by cases h) (by kernel_rfl) (fun _ h => by cases h) genLists_row_tie rfl ⟨rfl, rfl⟩ (by kernel_rfl) rfl
  (fun f fn hf hfn => by
   obtain rfl : f = 5 := Option.some.inj ((show Tryz.prog.funcNamed "jacquard/jacquardlaw12.GenLists" = some 5 by kernel_rfl).symm.trans hf) |>.symm
   obtain rfl : fn = Tryz.f5 := (Option.some.inj (Tryz.func5.symm.trans hfn)).symm
   exact ⟨by kernel_rfl, fun j t ht => by
    rw [Tryz.params5] at ht
    have h3 : t = 3 := by
     rcases j with _ | j
     ·simpa using ht.symm
     ·simp at ht
    subst h3
    exact (show Tryz.prog.wantsStandIn 3 = false by kernel_rfl)⟩)
  (by kernel_rfl)
#print axioms genLists_holds
end Go.Proofs.YthhcnfgeacnfiaaGreatDoor
