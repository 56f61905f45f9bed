/- Part of an evaluator for closed runs, and of its proof (EvF). -/
import Derived.Test.YtihokakelnfdgaaDoorEvE
namespace Go.Ev
open Go.RowKit
set_option linter.unusedVariables false
set_option linter.unusedSectionVars false
variable [Sym]

section
variable {E : Env} {G : Nat} {w0 w : World} {φ : Phi} {m : Mem}

/-- what one operation does, wherever it is done: the value, the memory, what is deferred; and that the model does it. -/
structure OpDoes (E : Env) (G : Nat) (w0 : World) (a a' : Act) (o : Oper) (v : Value) (m' : Mem) (dn : List (Nat × List Value)) : Prop where
  put : ({ a with m := m', defers := dn ++ a.defers } : Act).put o.dst v = some a'
  wp : ∀ (φ : Phi) (w : World) (ac : Go.Act) (Q : Exit → Go.Act → World → Prop) (K : Go.Act → World → Prop), Rel E.P G w0 φ a.m w → (∀ x ∈ o.op.operands.toList, VR φ (a.eval x) (ac.eval x)) →
    (∀ φ' v' w' dn', Ext φ φ' a.m m' → VR φ' v v' → DRs φ' dn dn' → Rel E.P G w0 φ' m' w' → K (({ ac with defers := dn' ++ ac.defers } : Go.Act).put o.dst v') w') → o.wp E.P ac w K Q

theorem wp_of_did {o : Oper} {ac : Go.Act} {Q : Exit → Go.Act → World → Prop} {K : Go.Act → World → Prop} {v : Value} {w' : World} (h : Did E.P (execOp ac.eval o) w v φ w')
    (hK : ∀ v', VR φ v v' → K (ac.put o.dst v') w') : o.wp E.P ac w K Q := by
  unfold Oper.wp
  rcases h with ⟨v', h1, h2⟩ | ⟨h1, rfl⟩
  · rw [h1]; exact hK v' h2
  · rw [h1]; exact hK undef VR.undef

theorem oper_does (hE : EnvOk E G) {call : CallFn} (hcall : CallOk E G w0 call) {a a' : Act} {o : Oper} {k : Nat} (h : oper E call a o = some (k, a')) :
    ∃ v m' dn, OpDoes E G w0 a a' o v m' dn ∧ ((k = 0 → m' = a.m ∧ quiet E a.m a.eval o.op = some v) ∧ dn.length ≤ 1) := by
  unfold oper at h
  split at h
  · rename_i k' v m' hp
    split at h
    · cases h
    · rename_i a1 hput
      simp only [Option.some.injEq, Prod.mk.injEq] at h
      obtain ⟨rfl, rfl⟩ := h
      refine ⟨v, m', [], ⟨hput, fun φ w ac Q K hR hρ hK => ?_⟩, ⟨fun hk => ?_, by simp⟩⟩
      · obtain ⟨φ', w', h1, h2, h3⟩ := plainOp_sound hE hR o hρ hp
        exact wp_of_did h1 fun v' hv => hK φ' v' w' [] h2 hv .nil h3
      · subst hk
        unfold plainOp at hp
        split at hp
        · rename_i u hq
          simp only [Option.some.injEq, Prod.mk.injEq] at hp
          obtain ⟨_, rfl, rfl⟩ := hp
          exact ⟨rfl, hq⟩
        · cases hb : Nat.blt a.m.next 1000000000 with
          | false => simp [hb] at hp
          | true =>
            simp only [hb, cond_true] at hp
            split at hp
            · cases hp
            · split at hp <;> cases hp
  · split at h
    · rename_i c hop
      split at h
      · cases h
      · rename_i g args ht
        split at h
        · cases h
        · rename_i v m' hc
          split at h
          · cases h
          · rename_i a1 hput
            simp only [Option.some.injEq, Prod.mk.injEq] at h
            obtain ⟨rfl, rfl⟩ := h
            refine ⟨v, m', [], ⟨hput, fun φ w ac Q K hR hρ hK => ?_⟩, ⟨fun hk => absurd hk (by decide), by simp⟩⟩
            rw [hop] at hρ
            obtain ⟨f, first', cap', e1, e2, e3⟩ := target_sound ht hρ
            obtain ⟨⟨fn, hg, hb⟩, hcalls⟩ := hcall g args _ a.m m' v φ w hc e3 hR
            have hrun : (execOp ac.eval o).run E.P w = .ok (.enter g ⟨first' ++ c.args.toList.map ac.eval ++ cap'⟩) w := by
              simp only [execOp, hop, Sem.run_bind, resolve_value o.type e1 e2, Result.andThen_ok]
              exact invoke_fn hE hg hb _ _ w
            unfold Oper.wp
            rw [hrun]
            refine hcalls.mono fun e w' he => ?_
            obtain ⟨φ', v', rfl, h1, h2, h3⟩ := he
            exact hK φ' v' w' [] h1 h2 .nil h3
    · rename_i c hop
      split at h
      · cases h
      · rename_i d ht
        split at h
        · cases h
        · rename_i a1 hput
          simp only [Option.some.injEq, Prod.mk.injEq] at h
          obtain ⟨rfl, rfl⟩ := h
          refine ⟨undef, a.m, [d], ⟨hput, fun φ w ac Q K hR hρ hK => ?_⟩, ⟨fun hk => absurd hk (by decide), by simp⟩⟩
          obtain ⟨g, args⟩ := d
          have hρ' : ∀ x ∈ (Op.call c).operands.toList, VR φ (a.eval x) (ac.eval x) := by rw [hop] at hρ; exact hρ
          obtain ⟨f, first', cap', e1, e2, e3⟩ := target_sound ht hρ'
          have hrun : (execOp ac.eval o).run E.P w = .ok (.defer { target := .fn (.func g) ⟨cap'⟩, args := ⟨first' ++ c.args.toList.map ac.eval⟩ }) w := by
            simp only [execOp, hop, Sem.run_bind, resolve_value o.type e1 e2, Result.andThen_ok, Sem.run_pure]
          unfold Oper.wp
          rw [hrun]
          exact hK φ undef w [_] (Ext.refl _ (Nat.le_refl _)) VR.undef (.cons ⟨cap', _, rfl, e3⟩ .nil) hR
    · cases h

theorem wanted_sound {a : Act} {ac : Go.Act} {ops : List Oper} {o : Oper} (hg : ∀ t, (match o.guard with | none => False | some (j, _) => ∃ oj, ops[j]? = some oj ∧ oj.dst = some t) → VR φ (a.tmp t) (ac.tmps.getD t undef)) :
    Region.wanted o (yielded ⟨ops⟩ ac.tmps) = wanted a ops o := by
  unfold Region.wanted wanted
  cases hgd : o.guard with
  | none => rfl
  | some p =>
    obtain ⟨j, want⟩ := p
    simp only
    rw [nth_eq]
    have e1 : (⟨ops⟩ : Array Oper)[j]? = ops[j]? := by simp
    unfold yielded
    rw [e1]
    cases hj : ops[j]? with
    | none => rfl
    | some oj =>
      simp only [Option.bind_some]
      cases hd : oj.dst with
      | none => rfl
      | some t =>
        simp only [Option.bind_some]
        have hv := hg t (by rw [hgd]; exact ⟨oj, hj, hd⟩)
        have hgetD : ac.tmps.getD t undef = (ac.tmps[t]?).getD undef := by rw [Array.getD_eq_getD_getElem?]
        rw [hgetD] at hv
        cases hc : ac.tmps[t]? with
        | none =>
          rw [hc] at hv
          simp only [Option.getD_none] at hv
          revert hv
          generalize a.tmp t = x
          intro hv
          unfold undef at hv
          cases hv with
          | tok _ _ h => simp [tokOk] at h
          | tuple _ => rfl
        | some y =>
          rw [hc] at hv
          simp only [Option.getD_some] at hv
          revert hv
          generalize a.tmp t = x
          intro hv
          cases hv with
          | tok _ _ h => cases y <;> first | rfl | (simp [tokOk] at h)
          | _ => rfl

theorem ActR.appendDefers {a : Act} {ac : Go.Act} (h : ActR φ a ac) {dn : List (Nat × List Value)} {dn' : List Deferred} (hd : DRs φ dn dn') (m : Mem) : ActR φ { a with m := m, defers := dn ++ a.defers } { ac with defers := dn' ++ ac.defers } := by
  refine ⟨h.size, h.bound, h.tmps, ?_⟩
  induction hd with
  | nil => exact h.defers
  | cons h1 _ ih => exact .cons h1 ih

/-- operations in the order of the text. -/
theorem opers_sound (hE : EnvOk E G) {call : CallFn} (hcall : CallOk E G w0 call) {all : List Oper} (hok : all.all (operOk G) = true) {Q : Exit → Go.Act → World → Prop} :
    ∀ (l : List Oper) (k : Nat) (a a' : Act) (ac : Go.Act) (φ : Phi) (w : World), all.drop k = l → opers E call all l a = some a' → ActR φ a ac → Rel E.P G w0 φ a.m w →
      (∀ φ' ac' w', Ext φ φ' a.m a'.m → ActR φ' a' ac' → Rel E.P G w0 φ' a'.m w' → Q .normal ac' w') → wpOps E.P ⟨all⟩ Q ((List.range l.length).map (k + ·)) ac w
  | [], k, a, a', ac, φ, w, hl, h, hA, hR, hQ => by
    simp only [opers, Option.some.injEq] at h
    subst h
    simp only [List.length_nil, List.range_zero, List.map_nil, wpOps]
    exact hQ φ ac w (Ext.refl _ (Nat.le_refl _)) hA hR
  | o :: l, k, a, a', ac, φ, w, hl, h, hA, hR, hQ => by
    have hk : all[k]? = some o := by
      have := congrArg (·[0]?) hl
      simpa using this
    have hl' : all.drop (k + 1) = l := by rw [← List.drop_drop, hl]; rfl
    have hoo : operOk G o = true := List.all_eq_true.1 hok o (List.mem_of_getElem? hk)
    have hρ : ∀ x ∈ o.op.operands.toList, VR φ (a.eval x) (ac.eval x) := fun x hx => hA.eval hR x (List.all_eq_true.1 hoo x hx)
    have hw := wanted_sound (φ := φ) (a := a) (ac := ac) (ops := all) (o := o) (fun t _ => hA.tmps t)
    have hrange : (List.range (o :: l).length).map (k + ·) = k :: (List.range l.length).map (k + 1 + ·) := by
      rw [List.length_cons, List.range_succ_eq_map]
      simp [Function.comp_def, Nat.add_assoc, Nat.add_comm 1]
    rw [hrange, wpOps_cons]
    have e1 : (⟨all⟩ : Array Oper)[k]? = some o := by simpa using hk
    unfold wpOp
    simp only [e1, hw]
    simp only [opers, stepOp] at h
    cases hwt : wanted a all o with
    | false =>
      simp only [hwt, cond_false, Bool.false_eq_true, if_false] at h ⊢
      cases hput : a.put o.dst undef with
      | none => simp [hput] at h
      | some a1 =>
        simp only [hput] at h
        have hm1 : a1.m = a.m := (Act.put_tmp hput).2.2.1
        refine opers_sound hE hcall hok l (k + 1) a1 a' _ φ w hl' h (hA.put hput VR.undef) (by rw [hm1]; exact hR) fun φ' ac' w' h1 h2 h3 => hQ φ' ac' w' (by rw [← hm1]; exact h1) h2 h3
    | true =>
      simp only [hwt, cond_true, if_true] at h ⊢
      cases hop : oper E call a o with
      | none => simp [hop] at h
      | some r =>
        obtain ⟨kk, a1⟩ := r
        simp only [hop] at h
        obtain ⟨v, m', dn, hdoes, _, _⟩ := oper_does hE hcall hop
        refine .inl (hdoes.wp φ w ac Q _ hR hρ fun φ' v' w' dn' h1 h2 h3 h4 => ?_)
        have hm1 : a1.m = m' := (Act.put_tmp hdoes.put).2.2.1
        have hA1 : ActR φ' a1 (({ ac with defers := dn' ++ ac.defers } : Go.Act).put o.dst v') := ((hA.mono h1.1).appendDefers h3 m').put hdoes.put h2
        exact opers_sound hE hcall hok l (k + 1) a1 a' _ φ' w' hl' h hA1 (by rw [hm1]; exact h4) fun φ'' ac' w'' g1 g2 g3 => hQ φ'' ac' w'' (h1.trans (by rw [← hm1]; exact g1)) g2 g3

end
end Go.Ev
