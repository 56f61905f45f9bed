/- GenNeeds returns true for every list of nodes and every place, and its arguments read behind the call as before; the listed variables start as the program's text lays them. -/
import Derived.Test.YthhcnfgeacnfiaaGreatDoorLaid
import Derived.Test.YthhcnfgeacnfiaaGreatDoorGG
import Derived.Test.YthhcnfgeacnfiaaGreatDoorTie
import Derived.Test.YthhcnfgeacnfiaaGreatDoorCards
import Derived.WalkKit
namespace Go.Proofs.YthhcnfgeacnfiaaGreatDoor
open Go Go.Ev Go.ChangeShapes Go.WideShapes Go.ChangeAt Go.RowKit
set_option maxRecDepth 1000000
set_option linter.unusedVariables false
set_option linter.unusedSimpArgs false

theorem laidOut : laidOutB Tryz.prog = true := by kernel_rfl

/-- THE ROW's RESULT where nothing that was there has turned. -/
theorem post_of_below {H : Type} {enc : TypeId × Value → H} {P : Program} {f : Func} {s : ChangeSpec} {apart fresh handsOn : Bool} {W W' : World} {args : Array Value} {v : Value} {ds gs : List (DataW H)} {before pa : List MemPlace}
    (hW : DataW.Whole enc P f.params.toList s.vars apart W args.toList ds gs before)
    (hres : ∀ (b : Nat) (sp : Nat → Bool) (hd : Bool), DataW.TrodAll enc P W' b sp hd f.resultTypes.toList (v.resultList f.resultTypes.size) (s.fn H (ds ++ gs)).results [])
    (hargs : DataW.TrodAll enc P W' 0 (fun b => decide (b < W.heap.size)) true f.params.toList args.toList (s.fn H (ds ++ gs)).args pa)
    (hvars : DataW.TrodVars enc P W' (fun b => decide (b < W.heap.size)) s.vars (s.fn H (ds ++ gs)).vars [])
    (hb : Below W.heap.size W W') : s.post enc P f apart fresh handsOn false W args v W' :=
  ⟨ds, gs, before, [], pa, [], hW, hres _ _ _, hargs, hvars, hb.frame _, fun h => by cases h⟩

theorem needV_01 (l : List Nd) (at_ : Int) : 0 ≤ (needV l at_).2 ∧ (needV l at_).2 ≤ 1 := by
  unfold needV
  split <;> simp

theorem needs_walk {e0 e1 : TypeId} {W : World} (hf : Fits (evStart e0 e1) W) {H : Type} {enc : TypeId × Value → H} {base : Nat} {spare : Nat → Bool} {held : Bool} {v0 : Value} {d0 : DataW H} {p0 : List MemPlace} {r : Reach} {bb : Nat}
    (hv : Value.okWide Tryz.prog W r bb 22 v0) (h0 : DataW.Trod enc Tryz.prog W base spare held 22 v0 d0 p0) (at_ : Int) :
    Calls Tryz.prog 3 #[v0, .int .i64 at_] W fun e w' => e = .returned (.bool true) ∧ Below W.heap.size W w' := by
  letI : Sym := ⟨fun _ => none⟩
  have live : ∀ w, Below W.heap.size W w → Calls Tryz.prog 6 #[] w fun e w' => e = .returned (.bool true) ∧ Below w.heap.size w w' := fun w hb => live_at (hf.below hb hf.1)
  have hG : 2 ≤ W.heap.size := hf.1
  obtain ⟨a, len, cap, rfl⟩ := okWide_slice Tryz.underlying22 hv
  obtain ⟨fuel, h1⟩ := h0
  have hcells : (Value.slice a len cap).cells.toList = [.slice a len cap] := rfl
  rcases open_nodes h1 with ⟨a', cap', he⟩ | ⟨b, off, cap', l, c, e, fr, he, hne, hok, hw, hsz, hc⟩
  · have he : [Value.slice a len cap] = [.slice a' 0 cap'] := he
    cases he
    exact law_short a 0 cap at_ 0 1 W (by omega) (by decide) (by decide) (fun w hb => need_calls0 7 need7_nil (Nat.le_trans hG hb.size) a cap at_) (fun w hb => need_calls0 8 need8_nil (Nat.le_trans hG hb.size) a cap at_) live
  · have he : [Value.slice a len cap] = [.slice (some ⟨b, off, none⟩) l.length cap'] := he
    cases he
    rcases Nat.lt_or_ge 500 l.length with hl | hl
    · have hlen : l.length ≤ 9223372036854775807 := by
        rcases DataW.trod_slice Tryz.underlying22 h1 with ⟨hh, _⟩ | ⟨aa, ll, cc, elems, rest, n, _, hh, _, _, h5, h6, _⟩
        · cases hh
        · have hh : [Value.slice (some ⟨b, off, none⟩) l.length cap] = [.slice (some aa) ll cc] := hh
          cases hh
          have : maxLen ≤ 9223372036854775807 := by unfold maxLen; omega
          omega
      exact law_long _ _ _ _ _ hl hlen (live W (Below.refl _ _))
    · obtain ⟨z0, z1⟩ := needV_01 l at_
      exact law_short _ _ _ _ _ _ _ hl z0 z1
        (fun w hb => need_calls 7 (fun at_ m hN hn => need7 2 off cap l hok (by omega) m hN hn hne at_) (Nat.le_trans hG hb.size) ((hb.block b (Array.getElem?_eq_some_iff.1 hw).1).trans hw) hsz hc at_)
        (fun w hb => need_calls 8 (fun at_ m hN hn => need8 2 off cap l hok (by omega) m hN hn hne at_) (Nat.le_trans hG hb.size) ((hb.block b (Array.getElem?_eq_some_iff.1 hw).1).trans hw) hsz hc at_) live

theorem needs_lifted (os : Os) (started : os.Started) (H : Type) (enc : TypeId × Value → H) :
    ReturnsInHanded {} Tryz.checked os 3 .any (fun w args => (Rows.genNeedsSpec.pre enc Tryz.prog Tryz.f3 [] false w args ∧ laidMetH Tryz.prog laidAll w) ∧ sizedMet enc Tryz.prog Tryz.f3 (OpenSpec.ofChange Rows.genNeedsSpec) false w args)
      (Rows.genNeedsSpec.post enc Tryz.prog Tryz.f3 false true false false) := by
  refine returnsInHanded_of_change_and (C := Tryz.checked) (X := fun w _ => laidMetH Tryz.prog laidAll w) (fun _ _ _ hh h => h.of_heap hh) own started (by kernel_rfl) Tryz.func3
    (ChangeSpec.witness_shaped (enc := enc) (C := Tryz.checked) (os := os) (X := fun w _ => laidMetH Tryz.prog laidAll w) false (World.doorLaid Tryz.prog 400 os) #[.slice none 0 0, .int .i64 0] 8 rfl (World.shaped_of_RefB (by kernel_rfl) (by kernel_rfl)) (by kernel_rfl) (by kernel_rfl) (by kernel_rfl) (door_met os _)) ?_
  intro W base args ds gs before hval0 hW _ _ hL _
  have hval : ∀ (j : Nat) t v, Tryz.f3.params[j]? = some t → args[j]? = some v → Value.okWide Tryz.prog W .any base t v := hval0
  have hW' := hW
  obtain ⟨p, q, hA0, hV, rfl, hfz, hnd⟩ := hW
  have hA : DataW.TrodAll enc Tryz.prog W 0 (fun _ => true) true Tryz.f3.params.toList args.toList ds p := hA0
  rw [Tryz.params3] at hA hval
  obtain ⟨v0, v1, d0, d1, p0, p1, rfl, rfl, rfl, h0, h1⟩ := trodAll_two hA
  obtain ⟨rfl, rfl⟩ := trodVars_none hV
  obtain ⟨a0, rfl, rfl, rfl, w0⟩ := open_int Tryz.underlying3 (hval 1 3 v1 rfl rfl) h1
  have hlt : ∀ x ∈ p0, x.block < W.heap.size := fun x hx => hW'.lt x (by simp [hx])
  obtain ⟨e0, e1, hfits⟩ := of_laid hL
  clear hA0 hval0
  refine (needs_walk hfits (hval 0 22 v0 rfl rfl) h0 a0).mono fun e W' ⟨he, hb⟩ => ?_
  subst he
  exact ⟨_, rfl, post_of_below hW' (fun _ _ _ => (trodAll_cons_mk (shut_bool Tryz.underlying4 _) trodAll_mk0)) (trodAll_mk2 (Below.trod laidOut (by kernel_rfl) (of_decide_eq_true (by kernel_rfl)) h0 hb hlt) (shut_int Tryz.underlying3 w0)) rfl hb⟩

theorem needs_said : Rows.GenNeedsSaid :=
  OpenClaim.holds_of_wide 3 Tryz.f3 rfl rfl rfl rfl rfl rfl rfl ⟨rfl, rfl, rfl, rfl, rfl⟩ rfl rfl rfl rfl rfl (by kernel_rfl) Tryz.func3 (by kernel_rfl)
    (of_decide_eq_true (by kernel_rfl)) (by unfold Func.isWrapper; first | (rw [if_pos (by decide +kernel)]; kernel_rfl) | (rw [if_neg (by decide +kernel)]; exact ⟨rfl, rfl⟩))
    (fun os started H enc _ => needs_lifted os started H enc)

/-- THE STATEMENT. -/
theorem genNeeds_holds : Rows.GenNeedsCardSaid :=
  Claim7.holds_tied_plain_at .later [] [.data, .data] true (true, "7bc7591e65112e89bae2459dff1c41edf600f9b6a2c2cb4edefdf26571e4e5d8") false
    needs_said (fun _ h => by cases h) (by kernel_rfl) (fun _ h => by cases h) genNeeds_row_tie rfl ⟨rfl, rfl⟩ (by kernel_rfl) rfl
    (fun f fn hf hfn => by
      obtain rfl : f = 3 := Option.some.inj ((show Tryz.prog.funcNamed "jacquard/jacquardlaw12.GenNeeds" = some 3 by kernel_rfl).symm.trans hf) |>.symm
      obtain rfl : fn = Tryz.f3 := (Option.some.inj (Tryz.func3.symm.trans hfn)).symm
      exact ⟨by kernel_rfl, fun j t ht => by
        rw [Tryz.params3] at ht
        rcases j with _ | _ | j
        · obtain rfl : t = 22 := by simpa using ht.symm
          exact (show Tryz.prog.wantsStandIn 22 = false by kernel_rfl)
        · obtain rfl : t = 3 := by simpa using ht.symm
          exact (show Tryz.prog.wantsStandIn 3 = false by kernel_rfl)
        · simp at ht⟩)
    (by kernel_rfl)
#print axioms genNeeds_holds
end Go.Proofs.YthhcnfgeacnfiaaGreatDoor
