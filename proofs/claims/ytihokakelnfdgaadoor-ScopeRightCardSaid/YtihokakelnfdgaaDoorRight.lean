/- ScopeRight returns true for every list of nodes, and its argument reads behind the call as before; the listed variable starts as the program's text lays it. -/
import Derived.Test.YtihokakelnfdgaaDoorNodes
import Derived.Test.YtihokakelnfdgaaDoorSS
namespace Go.Proofs.YtihokakelnfdgaaDoor
open Go Go.Ev Go.ChangeShapes Go.WideShapes Go.ChangeAt Go.RowKit
set_option maxRecDepth 1000000
set_option linter.unusedVariables false
set_option linter.unusedSimpArgs false

theorem right_lifted (os : Os) (started : os.Started) (H : Type) (enc : TypeId × Value → H) :
  ReturnsInHanded {} Tryd.checked os 6 .any (fun w args => (Rows.scopeRightSpec.pre enc Tryd.prog Tryd.f6 [] false w args ∧ laidMetH Tryd.prog laidNames w) ∧ sizedMet enc Tryd.prog Tryd.f6 (OpenSpec.ofChange Rows.scopeRightSpec) false w args)
   (Rows.scopeRightSpec.post enc Tryd.prog Tryd.f6 false true false false) := by
 refine returnsInHanded_of_change_and (C := Tryd.checked) (X := fun w _ => laidMetH Tryd.prog laidNames w) (fun _ _ _ hh h => h.of_heap hh) own started (by kernel_rfl) Tryd.func6
  (ChangeSpec.witness_shaped (enc := enc) (C := Tryd.checked) (os := os) (X := fun w _ => laidMetH Tryd.prog laidNames w) false (World.doorLaid Tryd.prog 400 os) #[.slice none 0 0] 8 rfl (World.shaped_of_RefB (by kernel_rfl) (by kernel_rfl)) (by kernel_rfl) (by kernel_rfl) (by kernel_rfl) (door_met os _)) ?_
 intro W base args ds gs before hval0 hW hq1 hq2 hL hq3
 have hval : ∀ (j : Nat) t v, Tryd.f6.params[j]? = some t → args[j]? = some v → Value.okWide Tryd.prog W .any base t v := hval0
 have hW' := hW
 obtain ⟨p, q, hA0, hV, rfl, hfz, hnd⟩ := hW
 have hA : DataW.TrodAll enc Tryd.prog W 0 (fun _ => true) true Tryd.f6.params.toList args.toList ds p := hA0
 rw [Tryd.params6] at hA hval
 obtain ⟨v0, d0, rfl, rfl, h0⟩ := trodAll_one hA
 obtain ⟨rfl, rfl⟩ := trodVars_none hV
 have hlt : ∀ x ∈ p, x.block < W.heap.size := fun x hx => hW'.lt x (by simp [hx])
 obtain ⟨ee, hfits, c0, fr0, k1, k2, k3⟩ := of_laid hL
 clear hA0 hval0
 have hB : ∀ q ∈ d0.weights Tryd.prog 24, q ≤ 140737488351232 := fun q hq => by
  have := of_decide_eq_true (List.all_eq_true.1 hq2 q (by
   rw [Tryd.params6]
   exact List.mem_append_left _ hq))
  exact this
 refine (nodes_walk 6 (fun sl cap hin m _ _ => right6_nil sl cap m) (fun b off cap l hok hlen hne m hN hNm hbn h0 => ?_) hfits k1 k2 k3 (hval 0 24 v0 rfl rfl) h0 hB).mono fun e W' ⟨he, hb⟩ => ?_
 ·rcases Nat.lt_or_ge 400 l.length with hl | hl
  ·exact right6_long _ _ _ hl hlen m
  ·exact right6 b off cap l (fun x hx => ⟨(hok x hx).1, Nat.le_trans (hok x hx).2 (by decide)⟩) hl hne m hN hNm hbn h0
 subst he
 exact ⟨_, rfl, post_of_below hW' (fun _ _ _ => (trodAll_cons_mk (shut_bool Tryd.underlying4 _) trodAll_mk0)) (trodAll_mk1 (Below.trod laidOut (by kernel_rfl) (of_decide_eq_true (by kernel_rfl)) h0 hb hlt)) rfl hb⟩

theorem right_said : Rows.ScopeRightSaid :=
 OpenClaim.holds_of_wide 6 Tryd.f6 rfl rfl rfl rfl rfl rfl rfl ⟨rfl, rfl, rfl, rfl, rfl⟩ rfl rfl rfl rfl rfl (by kernel_rfl) Tryd.func6 (by kernel_rfl)
  (of_decide_eq_true (by kernel_rfl)) (by unfold Func.isWrapper; first | (rw [if_pos (by decide +kernel)]; kernel_rfl) | (rw [if_neg (by decide +kernel)]; exact ⟨rfl, rfl⟩))
  (fun os started H enc _ => right_lifted os started H enc)

/-- THE STATEMENT. -/
theorem scopeRight_holds : Rows.ScopeRightCardSaid :=
 Claim7.holds_tied_plain_at .later [] [.data] true (true, "d3a3c1f440f1eadc61c248a54c777c8ee56868d1226286cb554edc6565c73fbe") false
  right_said (fun _ h => by cases h) (by kernel_rfl) (fun _ h => by cases h) scopeRight_row_tie rfl ⟨rfl, rfl⟩ (by kernel_rfl) rfl
  (fun f fn hf hfn => by
   obtain rfl : f = 6 := Option.some.inj ((show Tryd.prog.funcNamed "jacquard/jacquardlaw08.ScopeRight" = some 6 by kernel_rfl).symm.trans hf) |>.symm
   obtain rfl : fn = Tryd.f6 := (Option.some.inj (Tryd.func6.symm.trans hfn)).symm
   exact ⟨by kernel_rfl, fun j t ht => by
    rw [Tryd.params6] at ht
    rcases j with _ | j
    ·obtain rfl : t = 24 := by simpa using ht.symm
     exact (show Tryd.prog.wantsStandIn 24 = false by kernel_rfl)
    ·simp at ht⟩)
  (by kernel_rfl)
#print axioms scopeRight_holds
end Go.Proofs.YtihokakelnfdgaaDoor
