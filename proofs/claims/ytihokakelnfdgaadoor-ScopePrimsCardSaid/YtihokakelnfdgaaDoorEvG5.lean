/- Part of an evaluator for closed runs, and of its proof (EvG5). -/
import Derived.Test.YtihokakelnfdgaaDoorEvG4
namespace Go.Ev
open Go.RowKit
set_option linter.unusedVariables false
set_option linter.unusedSectionVars false
variable [Sym]

section
variable {E : Env} {G : Nat} {w0 : World} {call : CallFn} {ops : List Oper} {l : List Ent} {A : Nat → Act} {φ0 φ : Phi} {S : Nat → Prop} {p : Nat} {ac : Go.Act} {w : World} {x : Nat} {e : Ent}

theorem DRs.append {φ : Phi} : ∀ {a a' b b'}, DRs φ a a' → DRs φ b b' → DRs φ (a ++ b) (a' ++ b')
  | _, _, _, _, .nil, hb => hb
  | _, _, _, _, .cons h hl, hb => .cons h (DRs.append hl hb)

/-- one operation, at whatever time it may be done. -/
theorem On.step (hE : EnvOk E G) (hcall : CallOk E G w0 call) (hok : ops.all (operOk G) = true) (hn1 : (A 0).n ≤ 1000000000) (hr : Run E call ops l A) (h : On E G w0 ops l A φ0 S p φ ac w) (hp : ∀ e, l[p]? = some e → isEff E e.o.op = true)
    (hS : Closed ops S) (he : l[x]? = some e) (hn : ¬ S e.i) (hS' : Closed ops fun k => S k ∨ k = e.i) {Q : Exit → Go.Act → World → Prop} {K : Go.Act → World → Prop}
    (hK : ∀ q φ' ac' w', On E G w0 ops l A φ0 (fun k => S k ∨ k = e.i) q φ' ac' w' → (∀ e, l[q]? = some e → isEff E e.o.op = true) → K ac' w') : wpOp E.P ⟨ops⟩ Q e.i K ac w := by
  have hat := (hr.plan.at_ e (List.mem_of_getElem? he)).1
  have hoo : operOk G e.o = true := List.all_eq_true.1 hok _ (List.mem_of_getElem? hat)
  have e1 : (⟨ops⟩ : Array Oper)[e.i]? = some e.o := by simpa using hat
  have hρ := h.operands hr hS he hn hS' hoo
  have hw := h.guard hr hS he hn hS'
  have hxl := lt_of_get he
  obtain ⟨k, hs, hk⟩ := hr.step x e he
  have hnx : (A x).n = (A 0).n := hr.n_stay x (Nat.le_of_lt hxl)
  have vput : ∀ {b : Act} {v : Value}, b.put e.o.dst v = some (A (x + 1)) → b.n = (A x).n → ∀ d, e.o.dst = some d → d < (A 0).n ∧ (A (x + 1)).tmp d = v := by
    intro b v hb hbn d hd
    obtain ⟨h1, h2⟩ := (Act.put_tmp hb).2.2.2.2 d hd
    rw [hbn, hnx] at h1 h2
    exact ⟨h1, h2 hn1⟩
  unfold wpOp
  simp only [e1, hw]
  cases hee : isEff E e.o.op with
  | true =>
    -- it is the stage's own
    have hxp : x = p := by
      rcases Nat.lt_trichotomy x p with hlt | heq | hgt
      · exact absurd (h.ahead x e hlt he hee) hn
      · exact heq
      · have hpe : l[p]? = some l[p] := List.getElem?_eq_getElem (by omega)
        have := hr.plan.bit hS' he (.inr rfl) (hr.plan.eff_bit hgt hpe he (hp _ hpe) (.inl hee))
        rcases this with this | this
        · exact absurd this (h.after p _ (Nat.le_refl _) hpe (hp _ hpe))
        · have := hr.plan.inj hpe he this; omega
    subst hxp
    have fin : ∀ φ' ac' w' v v', Ext φ φ' (A x).m (A (x + 1)).m → Rel E.P G w0 φ' (A (x + 1)).m w' → (∀ d, e.o.dst = some d → d < (A 0).n ∧ (A (x + 1)).tmp d = v) → (∀ d, e.o.dst = some d → VR φ' v v') → ac'.tmps = (ac.put e.o.dst v').tmps → DRs φ' (A (x + 1)).defers ac'.defers → K ac' w' := by
      intro φ' ac' w' v v' g1 g2 g3 g4 g5 g6
      obtain ⟨q, h1, h2⟩ := (h.moved hr hS he hee hn g1 g2 g3 g4 g5 g6).advance hr _ _ (Nat.le_refl _)
      exact hK q φ' ac' w' h1 h2
    unfold stepOp at hs
    cases hwt : wanted (A x) ops e.o with
    | false =>
      simp only [hwt, cond_false, Bool.false_eq_true, if_false] at hs ⊢
      split at hs
      · cases hs
      · rename_i a1 hput
        simp only [Option.some.injEq, Prod.mk.injEq] at hs
        obtain ⟨_, rfl⟩ := hs
        obtain ⟨_, hd, hm, _⟩ := Act.put_tmp hput
        exact fin φ _ w undef undef (Ext.refl _ (by rw [hm]; exact Nat.le_refl _)) (by rw [hm]; exact h.rel) (vput hput rfl) (fun _ _ => VR.undef) rfl (by rw [put_defers, hd]; exact h.defers)
    | true =>
      simp only [hwt, cond_true, if_true] at hs ⊢
      obtain ⟨v, m', dn, hdoes, _, _⟩ := oper_does (w0 := w0) hE hcall hs
      obtain ⟨_, hd, hm, _⟩ := Act.put_tmp hdoes.put
      refine .inl (hdoes.wp φ w ac Q K h.rel hρ fun φ' v' w' dn' h1 h2 h3 h4 => ?_)
      refine fin φ' _ w' v v' (by rw [hm]; exact h1) (by rw [hm]; exact h4) (vput hdoes.put rfl) (fun _ _ => h2) ?_ ?_
      · cases e.o.dst <;> rfl
      · rw [put_defers, hd]
        show DRs φ' (dn ++ (A x).defers) (dn' ++ ac.defers)
        exact DRs.append h3 (h.defers.mono h1.1)
  | false =>
    have hk' : k = 0 ∨ (k = 1 ∧ isAl e.o.op = true) := hk.resolve_left (by rw [hee]; decide)
    have keep : ∀ y f, y ≠ x → y < p → l[y]? = some f → isAl f.o.op = true → wanted (A y) ops f.o = true → ¬ S f.i → φ (A y).m.next = none := fun y f _ h2 h3 h4 h5 h6 => h.pend y f h2 h3 h4 h5 h6
    rcases step_still hs hk' with ⟨hwt, hput⟩ | ⟨hwt, v, hq, hput⟩ | ⟨hwt, hal, hsm, v, m', ha, hput⟩
    · simp only [hwt, Bool.false_eq_true, if_false]
      exact hK p φ _ w (h.still hr hS he hee hn h.ext (Phi.le_refl _) h.rel keep (vput hput rfl) fun _ _ => VR.undef) hp
    · simp only [hwt, if_true]
      have hnal : isAl e.o.op = false := by
        cases hb : isAl e.o.op with
        | false => rfl
        | true => rw [isAl_not_quiet hb] at hq; cases hq
      have hq2 : ∃ v2, quiet E (A p).m (A x).eval e.o.op = some v2 ∧ ∀ d, e.o.dst = some d → v2 = v := by
        rcases h.asked hr hp hS he hee hn hS' with ⟨hlt, hstill⟩ | hag
        · have hsub := sub_stay hr x (p - x) (by have := h.le; omega) (fun y _ h2 => h.fresh y (by omega)) fun y f h1 h2 hf => hstill y f h1 (by omega) hf
          rw [show x + (p - x) = p by omega] at hsub
          exact ⟨v, quiet_mono hsub _ hq, fun _ _ => rfl⟩
        · unfold again at hag
          simp only [hwt, hnal, cond_true, cond_false] at hag
          split at hag
          · rename_i v2 hv2 hd
            exact ⟨v2, hv2, fun d hd' => by rw [hd] at hd'; cases hd'⟩
          · rename_i v2 d hv2 hd
            refine ⟨v2, hv2, fun d' hd' => ?_⟩
            rw [sameV_eq hag]
            exact ((vput hput rfl) d hd).2
          · cases hag
      obtain ⟨v2, hv2, hvv⟩ := hq2
      obtain ⟨v', hrun, hvr⟩ := quiet_sound hE h.rel e.o hρ hv2
      refine .inl (wp_of_did (φ := φ) (.inl ⟨v', hrun, hvr⟩) fun v'' hv'' => ?_)
      exact hK p φ _ w (h.still hr hS he hee hn h.ext (Phi.le_refl _) h.rel keep (vput hput rfl) fun d hd => by rw [← hvv d hd]; exact hv'') hp
    · simp only [hwt, if_true]
      have hxp : x < p := by
        rcases Nat.lt_trichotomy x p with hlt | heq | hgt
        · exact hlt
        · subst heq; have := hp e he; rw [hee] at this; cases this
        · have hpe : l[p]? = some l[p] := List.getElem?_eq_getElem (by omega)
          have := hr.plan.bit hS' he (.inr rfl) (hr.plan.eff_bit hgt hpe he (hp _ hpe) (.inr hal))
          rcases this with this | this
          · exact absurd this (h.after p _ (Nat.le_refl _) hpe (hp _ hpe))
          · have := hr.plan.inj hpe he this; omega
      obtain ⟨obj, ob, rfl, hmade⟩ := allocs_made hE e.o hρ ha
      have hm : (A (x + 1)).m = (A x).m.new obj := (Act.put_tmp hput).2.2.1
      have hnone : φ (A x).m.next = none := h.pend x e hxp he hal hwt hn
      have hthere : (A (x + 1)).m.get (A x).m.next = some obj := by rw [hm]; exact Mem.get_new_same _ _ (by omega)
      have hobj : ∃ o2, (A p).m.get (A x).m.next = some o2 ∧ ∀ ψ : Phi, φ.le ψ → ObjR E.P ψ 0 o2 (some ob) := by
        rcases h.asked hr hp hS he hee hn hS' with ⟨hlt, hstill⟩ | hag
        · have hsub := sub_stay hr (x + 1) (p - (x + 1)) (by have := h.le; omega) (fun y _ h2 => h.fresh y (by omega)) fun y f h1 h2 hf => hstill y f (by omega) (by omega) hf
          rw [show x + 1 + (p - (x + 1)) = p by omega] at hsub
          exact ⟨obj, hsub _ _ hthere, hmade.obj⟩
        · unfold again at hag
          simp only [hwt, hal, cond_true, hthere] at hag
          cases hg : (A p).m.get (A x).m.next with
          | none => rw [hg] at hag; simp [sameObj] at hag
          | some o2 => rw [hg] at hag; exact ⟨o2, rfl, fun ψ hψ => sameObj_rel hag (hmade.obj ψ hψ)⟩
      obtain ⟨o2, ho2, hobr⟩ := hobj
      obtain ⟨w', v', h1, h2, h3, h4, h5, h6⟩ := hmade.run w
      have hle : φ.le (φ.set (A x).m.next w.heap.size 0) := Phi.le_set hnone _ _
      have hrel : Rel E.P G w0 (φ.set (A x).m.next w.heap.size 0) (A p).m w' := h.rel.meet ho2 hnone (hobr _ hle) h2 h3 h4 h5
      have hv' : VR (φ.set (A x).m.next w.heap.size 0) v v' := h6 _ (Phi.set_same _ _ _ _)
      refine .inl (wp_of_did (φ := φ.set (A x).m.next w.heap.size 0) (.inl ⟨v', h1, hv'⟩) fun v'' hv'' => ?_)
      refine hK p _ _ w' (h.still hr hS he hee hn ⟨fun b b' hb => ⟨(hle _ _ (h.ext.1 b b' hb).1).1, ?_⟩, fun b hb => ?_, h.ext.2.2⟩ hle hrel ?_ (vput hput rfl) fun _ _ => hv'') hp
      · rw [(hle _ _ (h.ext.1 b b' hb).1).2]; exact (h.ext.1 b b' hb).2
      · have := h.mono 0 x (Nat.zero_le _) (by omega)
        rw [Phi.set_other _ (by omega)]
        exact h.ext.2.1 b hb
      · intro y f hyx hyp hf hfa hfw hfn
        have hno := h.pend y f hyp hf hfa hfw hfn
        obtain ⟨k2, hs2, hk2⟩ := hr.step y f hf
        have hk2' : k2 = 0 ∨ (k2 = 1 ∧ isAl f.o.op = true) := hk2.resolve_left (by rw [isAl_not_eff hfa]; decide)
        have hlt2 : (A (y + 1)).m.next = (A y).m.next + 1 := by
          rcases step_still hs2 hk2' with ⟨hw, _⟩ | ⟨_, u, hq, _⟩ | ⟨_, _, _, u, m'', ha2, hput2⟩
          · rw [hw] at hfw; cases hfw
          · rw [isAl_not_quiet hfa] at hq; cases hq
          · obtain ⟨obj2, rfl⟩ := allocs_new ha2
            rw [(Act.put_tmp hput2).2.2.1, Mem.next_new]
        have hlt1 : (A (x + 1)).m.next = (A x).m.next + 1 := by rw [hm, Mem.next_new]
        have hne : (A y).m.next ≠ (A x).m.next := by
          rcases Nat.lt_or_ge y x with hyx' | hyx'
          · have := h.mono (y + 1) x (by omega) (by omega); omega
          · have := h.mono (x + 1) y (by omega) (by omega); omega
        rw [Phi.set_other _ hne]
        exact hno

theorem depsIn_mem {d : Nat} : ∀ {es : List Edge}, d ∈ depsIn es ↔ ∃ e ∈ es, Region.binds .any e = true ∧ e.on = d
  | [] => by simp [depsIn]
  | e :: es => by
    have ih := @depsIn_mem d es
    cases hb : Region.binds .any e with
    | true => simp only [depsIn, hb, cond_true, List.mem_cons, ih]
              constructor
              · rintro (h | ⟨f, h1, h2⟩)
                · exact ⟨e, .inl rfl, hb, h.symm⟩
                · exact ⟨f, .inr h1, h2⟩
              · rintro ⟨f, h1 | h1, h2, h3⟩
                · subst h1; exact .inl h3.symm
                · exact .inr ⟨f, h1, h2, h3⟩
    | false => simp only [depsIn, hb, cond_false, List.mem_cons, ih]
               constructor
               · rintro ⟨f, h1, h2⟩; exact ⟨f, .inr h1, h2⟩
               · rintro ⟨f, h1 | h1, h2, h3⟩
                 · subst h1; rw [hb] at h2; cases h2
                 · exact ⟨f, h1, h2, h3⟩

/-- what is listed. -/
def Lst (listed : Array Bool) (k : Nat) : Prop := listed.getD k false = true

theorem lst_set {listed : Array Bool} {i : Nat} (hi : i < listed.size) (k : Nat) : Lst (listed.setIfInBounds i true) k ↔ Lst listed k ∨ k = i := by
  unfold Lst
  by_cases h : i = k
  · subst h
    simp [Array.getD_eq_getD_getElem?, hi]
  · have : (listed.setIfInBounds i true).getD k false = listed.getD k false := by
      simp [Array.getD_eq_getD_getElem?, h]
    rw [this]
    constructor
    · exact .inl
    · rintro (h' | h')
      · exact h'
      · exact absurd h'.symm h

theorem not_lst {listed : Array Bool} {k : Nat} (hk : k < listed.size) : ¬ Lst listed k ↔ listed.getD k true = false := by
  unfold Lst
  simp [Array.getD_eq_getD_getElem?, hk]

theorem ready_spec {listed : Array Bool} (hsz : listed.size = ops.length) {j : Nat} : j ∈ Region.ready .any ⟨ops⟩ listed ↔ ¬ Lst listed j ∧ ∃ o, ops[j]? = some o ∧ ∀ d ∈ depsOf o, Lst listed d := by
  rw [mem_ready]
  constructor
  · rintro ⟨h1, o, h2, h3⟩
    have h2' : ops[j]? = some o := by simpa using h2
    refine ⟨(not_lst (by rw [hsz]; exact lt_of_get h2')).2 h1, o, h2', fun d hd => ?_⟩
    obtain ⟨e, he, hb, rfl⟩ := depsIn_mem.1 hd
    exact h3 e (Array.mem_toList_iff.1 he) hb
  · rintro ⟨h1, o, h2, h3⟩
    refine ⟨(not_lst (by rw [hsz]; exact lt_of_get h2)).1 h1, o, by simpa using h2, fun e he hb => ?_⟩
    exact h3 e.on (depsIn_mem.2 ⟨e, Array.mem_toList_iff.2 he, hb, rfl⟩)

theorem ready_nil (hp : Plan E ops l) {listed : Array Bool} (hsz : listed.size = ops.length) (h : Region.ready .any ⟨ops⟩ listed = []) : ∀ k, k < ops.length → Lst listed k := by
  intro k
  induction k using Nat.strongRecOn with
  | _ k ih =>
    intro hk
    have ho : ops[k]? = some ops[k] := List.getElem?_eq_getElem hk
    apply Classical.byContradiction
    intro hn
    have : k ∈ Region.ready .any ⟨ops⟩ listed := (ready_spec hsz).2 ⟨hn, _, ho, fun d hd => by
      have := hp.low k _ ho d hd
      exact ih d this (by omega)⟩
    rw [h] at this
    cases this

theorem all_orders (hE : EnvOk E G) (hcall : CallOk E G w0 call) (hok : ops.all (operOk G) = true) (hn1 : (A 0).n ≤ 1000000000) (hr : Run E call ops l A) {Q : Exit → Go.Act → World → Prop}
    (hQ : ∀ φ' ac' w', Ext φ0 φ' (A 0).m (A l.length).m → ActR φ' (A l.length) ac' → Rel E.P G w0 φ' (A l.length).m w' → Q .normal ac' w') :
    ∀ (fuel : Nat) (listed : Array Bool) (L : List Nat) (p : Nat) (φ : Phi) (ac : Go.Act) (w : World), listed.size = ops.length → L.length ≤ fuel → (∀ k, k < ops.length → ¬ Lst listed k → k ∈ L) → Closed ops (Lst listed) →
      On E G w0 ops l A φ0 (Lst listed) p φ ac w → (∀ e, l[p]? = some e → isEff E e.o.op = true) → wpAny E.P .any ⟨ops⟩ Q fuel listed ac w := by
  have fin : ∀ (listed : Array Bool) (p : Nat) (φ : Phi) (ac : Go.Act) (w : World), (∀ k, k < ops.length → Lst listed k) → On E G w0 ops l A φ0 (Lst listed) p φ ac w → (∀ e, l[p]? = some e → isEff E e.o.op = true) → Q .normal ac w := by
    intro listed p φ ac w hall h hp
    have hpl : p = l.length := by
      rcases Nat.lt_or_ge p l.length with hlt | hge
      · have he : l[p]? = some l[p] := List.getElem?_eq_getElem hlt
        have hat := (hr.plan.at_ _ (List.mem_of_getElem? he)).1
        exact absurd (hall _ (lt_of_get hat)) (h.after p _ (Nat.le_refl _) he (hp _ he))
      · have := h.le; omega
    subst hpl
    refine hQ φ ac w h.ext ⟨?_, ?_, fun t => ?_, h.defers⟩ h.rel
    · rw [h.size, hr.n_stay _ (Nat.le_refl _)]
    · rw [hr.n_stay _ (Nat.le_refl _)]; exact hn1
    · refine h.tmps t l.length (Nat.le_refl _) ?_ ?_
      · intro y f hy hf _
        exact hall _ (lt_of_get (hr.plan.at_ _ (List.mem_of_getElem? hf)).1)
      · intro y f hy hf _ _
        exact absurd (lt_of_get hf) (by omega)
  intro fuel
  induction fuel with
  | zero =>
    intro listed L p φ ac w hsz hL hLs hS h hp
    have hall : ∀ k, k < ops.length → Lst listed k := fun k hk => by
      apply Classical.byContradiction
      intro hn
      have := hLs k hk hn
      rw [List.eq_nil_of_length_eq_zero (Nat.le_zero.1 hL)] at this
      cases this
    refine ⟨?_, fin listed p φ ac w hall h hp⟩
    cases hrd : Region.ready .any ⟨ops⟩ listed with
    | nil => rfl
    | cons j js =>
      have hj : j ∈ Region.ready .any ⟨ops⟩ listed := by rw [hrd]; simp
      obtain ⟨h1, o, h2, _⟩ := (ready_spec hsz).1 hj
      exact absurd (hall j (lt_of_get h2)) h1
  | succ fuel ih =>
    intro listed L p φ ac w hsz hL hLs hS h hp
    refine ⟨fun hnil => fin listed p φ ac w (ready_nil hr.plan hsz hnil) h hp, fun i hi => ?_⟩
    obtain ⟨hun, o, ho, hdeps⟩ := (ready_spec hsz).1 hi
    have hil := lt_of_get ho
    obtain ⟨x, e, he, hei⟩ := hr.plan.all i hil
    subst hei
    have hset := lst_set (listed := listed) (i := e.i) (by rw [hsz]; exact hil)
    have hseteq : Lst (listed.setIfInBounds e.i true) = fun k => Lst listed k ∨ k = e.i := funext fun k => propext (hset k)
    have hS' : Closed ops fun k => Lst listed k ∨ k = e.i := by
      intro k ok hok' hk d hd
      rcases hk with hk | hk
      · exact .inl (hS k ok hok' hk d hd)
      · subst hk
        rw [ho] at hok'; cases hok'
        exact .inl (hdeps d hd)
    refine h.step hE hcall hok hn1 hr hp hS he hun hS' fun q φ' ac' w' h' hq => ?_
    refine ih (listed.setIfInBounds e.i true) (L.erase e.i) q φ' ac' w' (by rw [Array.size_setIfInBounds, hsz]) ?_ ?_ (by rw [hseteq]; exact hS') (by rw [hseteq]; exact h') hq
    · rw [List.length_erase_of_mem (hLs _ hil hun)]; omega
    · intro k hk hkn
      have hkn' : ¬ (Lst listed k ∨ k = e.i) := fun hh => hkn ((hset k).2 hh)
      exact (List.mem_erase_of_ne fun hh => hkn' (.inr hh)).2 (hLs k hk fun hh => hkn' (.inl hh))

/-- regions that draw their order. -/
theorem drawn_ok (hE : EnvOk E G) (hcall : CallOk E G w0 call) : DrawnOk E G w0 call := by
  intro id ops a a' ac φ w Q hok h hA hR hQ
  unfold drawn at h
  split at h
  · cases h
  · rename_i l needs hplan
    obtain ⟨hpl, rfl⟩ := plan_some hplan
    split at h
    · cases h
    · rename_i tr htr
      generalize hneeds : List.all (needsOf E l) _ = bb at h
      cases bb with
      | false => cases h
      | true =>
        simp only [cond_true] at h
        obtain ⟨hlen, h0⟩ := trace_len l a tr htr
        obtain ⟨A, hAx⟩ : ∃ A : Nat → Act, ∀ x, A x = (tr[x]?).getD a := ⟨_, fun _ => rfl⟩
        have hA0 : A 0 = a := by rw [hAx]; simp [h0]
        have hr : Run E call ops l A := by
          refine ⟨hpl, fun x e he => ?_, fun x p e he hp hin => ?_⟩
          · obtain ⟨ax, ax', k, h1, h2, h3, h4⟩ := trace_step l a tr htr x e he
            refine ⟨k, ?_, h4⟩
            simp only [hAx, h1, h2, Option.getD_some]
            exact h3
          · have := List.all_eq_true.1 hneeds _ hin
            simp only [nth_eq, he] at this
            have hx1 : x < tr.length := by have := lt_of_get he; omega
            have hx2 : x + 1 < tr.length := by have := lt_of_get he; omega
            have hp2 : p < tr.length := by omega
            rw [List.getElem?_eq_getElem hx1, List.getElem?_eq_getElem hx2, List.getElem?_eq_getElem hp2] at this
            simp only [hAx, List.getElem?_eq_getElem hx1, List.getElem?_eq_getElem hx2, List.getElem?_eq_getElem hp2, Option.getD_some]
            exact this
        have hlast : A l.length = a' := by
          rw [last_eq, hlen] at h
          simp only [Nat.add_sub_cancel] at h
          rw [hAx]; simp [h]
        refine wp_region_any hE.mixed ?_
        have none : ∀ k, ¬ Lst (Array.replicate ops.length false) k := by
          intro k hk
          unfold Lst at hk
          rw [Array.getD_eq_getD_getElem?, Array.getElem?_replicate] at hk
          split at hk <;> simp at hk
        have hstart : On E G w0 ops l A φ (Lst (Array.replicate ops.length false)) 0 φ ac { w with drawn := w.drawn + 1 } := by
          refine ⟨Nat.zero_le _, fun x e hx => absurd hx (Nat.not_lt_zero _), fun x e _ _ _ => none _, Ext.refl _ (Nat.le_refl _), ?_, ?_, ?_, fun x e hx => absurd hx (Nat.not_lt_zero _), ?_, ?_, ?_⟩
          · rw [hA0]; exact hR.drew
          · intro x y h1 h2
            obtain rfl : y = 0 := by omega
            obtain rfl : x = 0 := by omega
            exact Nat.le_refl _
          · intro x hx
            obtain rfl : x = 0 := by omega
            rw [hA0]; exact hR.fresh
          · intro t x hx h1 h2
            have hstay := hr.tmp_stay t 0 x (by omega) fun y e _ h4 he hd => none _ (h1 y e (by omega) he hd)
            rw [Nat.zero_add, hA0] at hstay
            rw [hstay]
            exact hA.tmps t
          · rw [hA0]; exact hA.size
          · rw [hA0]; exact hA.defers
        obtain ⟨q, h1, h2⟩ := hstart.advance hr _ _ (Nat.le_refl _)
        refine all_orders hE hcall hok (by rw [hA0]; exact hA.bound) hr (fun φ' ac' w' g1 g2 g3 => ?_) ops.length _ (List.range ops.length) q φ ac _ (by simp) (by simp) (fun k hk _ => List.mem_range.2 hk) (fun k o _ hk => absurd hk (none k)) h1 h2
        rw [hA0, hlast] at g1
        rw [hlast] at g2 g3
        exact hQ φ' ac' w' g1 g2 g3

/-- the evaluator is sound. -/
theorem ev_sound (hE : EnvOk E G) (hKn : KnownOk E w0) (n : Nat) : CodeOk E G w0 n ∧ LoopOk E G w0 n ∧ CallOk E G w0 (Ev.call E n) ∧ CallDOk E G w0 (callD E n) :=
  sound hE hKn (fun call hc => drawn_ok hE hc) n

end
end Go.Ev
