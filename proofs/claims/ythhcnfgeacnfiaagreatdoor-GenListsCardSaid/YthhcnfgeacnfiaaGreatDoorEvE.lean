/- Part of a verified evaluator of the model's programs and of runs by it: EvG5 EvUse EvLaid EvShut EvSym EvWp EvOps. -/
import Derived.Test.YthhcnfgeacnfiaaGreatDoorEvD
import Derived.OpenShut
import Derived.LaidMore
import Derived.Test.YthhcnfgeacnfiaaGreatDoorEvA
namespace Go.Ev
set_option linter.unusedSimpArgs false
open Go.RowKit
set_option linter.unusedVariables false
set_option linter.unusedSectionVars false
variable [Sym]

section
variable {E : Env} {G : Nat} {w0 : World} {call : CallFn} {ops : List Oper} {l : List Ent} {A : Nat → Act} {φ0 φ : Phi} {S : Nat → Prop} {p : Nat} {ac : Go.Act} {w : World} {x : Nat} {e : Ent}

theorem DRs.append {φ : Phi} : ∀ {a a' b b'}, DRs φ a a' → DRs φ b b' → DRs φ (a ++ b) (a' ++ b')
  | _, _, _, _, .nil, hb => hb
  | _, _, _, _, .cons h hl, hb => .cons h (DRs.append hl hb)

/-- one operation, at whatever time it may be done. -/
theorem On.step (hE : EnvOk E G) (hcall : CallOk E G w0 call) (hok : ops.all (operOk G) = true) (hn1 : (A 0).n ≤ 1000000000) (hr : Run E call ops l A) (h : On E G w0 ops l A φ0 S p φ ac w) (hp : ∀ e, l[p]? = some e → isEff E e.o.op = true)
    (hS : Closed ops S) (he : l[x]? = some e) (hn : ¬ S e.i) (hS' : Closed ops fun k => S k ∨ k = e.i) {Q : Exit → Go.Act → World → Prop} {K : Go.Act → World → Prop}
    (hK : ∀ q φ' ac' w', On E G w0 ops l A φ0 (fun k => S k ∨ k = e.i) q φ' ac' w' → (∀ e, l[q]? = some e → isEff E e.o.op = true) → K ac' w') : wpOp E.P ⟨ops⟩ Q e.i K ac w := by
  have hat := (hr.plan.at_ e (List.mem_of_getElem? he)).1
  have hoo : operOk G e.o = true := List.all_eq_true.1 hok _ (List.mem_of_getElem? hat)
  have e1 : (⟨ops⟩ : Array Oper)[e.i]? = some e.o := by simpa using hat
  have hρ := h.operands hr hS he hn hS' hoo
  have hw := h.guard hr hS he hn hS'
  have hxl := lt_of_get he
  obtain ⟨k, hs, hk⟩ := hr.step x e he
  have hnx : (A x).n = (A 0).n := hr.n_stay x (Nat.le_of_lt hxl)
  have vput : ∀ {b : Act} {v : Value}, b.put e.o.dst v = some (A (x + 1)) → b.n = (A x).n → ∀ d, e.o.dst = some d → d < (A 0).n ∧ (A (x + 1)).tmp d = v := by
    intro b v hb hbn d hd
    obtain ⟨h1, h2⟩ := (Act.put_tmp hb).2.2.2.2 d hd
    rw [hbn, hnx] at h1 h2
    exact ⟨h1, h2 hn1⟩
  unfold wpOp
  simp only [e1, hw]
  cases hee : isEff E e.o.op with
  | true =>
    -- it is the stage's own
    have hxp : x = p := by
      rcases Nat.lt_trichotomy x p with hlt | heq | hgt
      · exact absurd (h.ahead x e hlt he hee) hn
      · exact heq
      · have hpe : l[p]? = some l[p] := List.getElem?_eq_getElem (by omega)
        have := hr.plan.bit hS' he (.inr rfl) (hr.plan.eff_bit hgt hpe he (hp _ hpe) (.inl hee))
        rcases this with this | this
        · exact absurd this (h.after p _ (Nat.le_refl _) hpe (hp _ hpe))
        · have := hr.plan.inj hpe he this; omega
    subst hxp
    have fin : ∀ φ' ac' w' v v', Ext φ φ' (A x).m (A (x + 1)).m → Rel E.P G w0 φ' (A (x + 1)).m w' → (∀ d, e.o.dst = some d → d < (A 0).n ∧ (A (x + 1)).tmp d = v) → (∀ d, e.o.dst = some d → VR φ' v v') → ac'.tmps = (ac.put e.o.dst v').tmps → DRs φ' (A (x + 1)).defers ac'.defers → K ac' w' := by
      intro φ' ac' w' v v' g1 g2 g3 g4 g5 g6
      obtain ⟨q, h1, h2⟩ := (h.moved hr hS he hee hn g1 g2 g3 g4 g5 g6).advance hr _ _ (Nat.le_refl _)
      exact hK q φ' ac' w' h1 h2
    unfold stepOp at hs
    cases hwt : wanted (A x) ops e.o with
    | false =>
      simp only [hwt, cond_false, Bool.false_eq_true, if_false] at hs ⊢
      split at hs
      · cases hs
      · rename_i a1 hput
        simp only [Option.some.injEq, Prod.mk.injEq] at hs
        obtain ⟨_, rfl⟩ := hs
        obtain ⟨_, hd, hm, _⟩ := Act.put_tmp hput
        exact fin φ _ w undef undef (Ext.refl _ (by rw [hm]; exact Nat.le_refl _)) (by rw [hm]; exact h.rel) (vput hput rfl) (fun _ _ => VR.undef) rfl (by rw [put_defers, hd]; exact h.defers)
    | true =>
      simp only [hwt, cond_true, if_true] at hs ⊢
      obtain ⟨v, m', dn, hdoes, _, _⟩ := oper_does (w0 := w0) hE hcall hs
      obtain ⟨_, hd, hm, _⟩ := Act.put_tmp hdoes.put
      refine .inl (hdoes.wp φ w ac Q K h.rel hρ fun φ' v' w' dn' h1 h2 h3 h4 => ?_)
      refine fin φ' _ w' v v' (by rw [hm]; exact h1) (by rw [hm]; exact h4) (vput hdoes.put rfl) (fun _ _ => h2) ?_ ?_
      · cases e.o.dst <;> rfl
      · rw [put_defers, hd]
        show DRs φ' (dn ++ (A x).defers) (dn' ++ ac.defers)
        exact DRs.append h3 (h.defers.mono h1.1)
  | false =>
    have hk' : k = 0 ∨ (k = 1 ∧ isAl e.o.op = true) := hk.resolve_left (by rw [hee]; decide)
    have keep : ∀ y f, y ≠ x → y < p → l[y]? = some f → isAl f.o.op = true → wanted (A y) ops f.o = true → ¬ S f.i → φ (A y).m.next = none := fun y f _ h2 h3 h4 h5 h6 => h.pend y f h2 h3 h4 h5 h6
    rcases step_still hs hk' with ⟨hwt, hput⟩ | ⟨hwt, v, hq, hput⟩ | ⟨hwt, hal, hsm, v, m', ha, hput⟩
    · simp only [hwt, Bool.false_eq_true, if_false]
      exact hK p φ _ w (h.still hr hS he hee hn h.ext (Phi.le_refl _) h.rel keep (vput hput rfl) fun _ _ => VR.undef) hp
    · simp only [hwt, if_true]
      have hnal : isAl e.o.op = false := by
        cases hb : isAl e.o.op with
        | false => rfl
        | true => rw [isAl_not_quiet hb] at hq; cases hq
      have hq2 : ∃ v2, quiet E (A p).m (A x).eval e.o.op = some v2 ∧ ∀ d, e.o.dst = some d → v2 = v := by
        rcases h.asked hr hp hS he hee hn hS' with ⟨hlt, hstill⟩ | hag
        · have hsub := sub_stay hr x (p - x) (by have := h.le; omega) (fun y _ h2 => h.fresh y (by omega)) fun y f h1 h2 hf => hstill y f h1 (by omega) hf
          rw [show x + (p - x) = p by omega] at hsub
          exact ⟨v, quiet_mono hsub _ hq, fun _ _ => rfl⟩
        · unfold again at hag
          simp only [hwt, hnal, cond_true, cond_false] at hag
          split at hag
          · rename_i v2 hv2 hd
            exact ⟨v2, hv2, fun d hd' => by rw [hd] at hd'; cases hd'⟩
          · rename_i v2 d hv2 hd
            refine ⟨v2, hv2, fun d' hd' => ?_⟩
            rw [sameV_eq hag]
            exact ((vput hput rfl) d hd).2
          · cases hag
      obtain ⟨v2, hv2, hvv⟩ := hq2
      obtain ⟨v', hrun, hvr⟩ := quiet_sound hE h.rel e.o hρ hv2
      refine .inl (wp_of_did (φ := φ) (.inl ⟨v', hrun, hvr⟩) fun v'' hv'' => ?_)
      exact hK p φ _ w (h.still hr hS he hee hn h.ext (Phi.le_refl _) h.rel keep (vput hput rfl) fun d hd => by rw [← hvv d hd]; exact hv'') hp
    · simp only [hwt, if_true]
      have hxp : x < p := by
        rcases Nat.lt_trichotomy x p with hlt | heq | hgt
        · exact hlt
        · subst heq; have := hp e he; rw [hee] at this; cases this
        · have hpe : l[p]? = some l[p] := List.getElem?_eq_getElem (by omega)
          have := hr.plan.bit hS' he (.inr rfl) (hr.plan.eff_bit hgt hpe he (hp _ hpe) (.inr hal))
          rcases this with this | this
          · exact absurd this (h.after p _ (Nat.le_refl _) hpe (hp _ hpe))
          · have := hr.plan.inj hpe he this; omega
      obtain ⟨obj, ob, rfl, hmade⟩ := allocs_made hE e.o hρ ha
      have hm : (A (x + 1)).m = (A x).m.new obj := (Act.put_tmp hput).2.2.1
      have hnone : φ (A x).m.next = none := h.pend x e hxp he hal hwt hn
      have hthere : (A (x + 1)).m.get (A x).m.next = some obj := by rw [hm]; exact Mem.get_new_same _ _ trivial
      have hobj : ∃ o2, (A p).m.get (A x).m.next = some o2 ∧ ∀ ψ : Phi, φ.le ψ → ObjR E.P ψ 0 o2 (some ob) := by
        rcases h.asked hr hp hS he hee hn hS' with ⟨hlt, hstill⟩ | hag
        · have hsub := sub_stay hr (x + 1) (p - (x + 1)) (by have := h.le; omega) (fun y _ h2 => h.fresh y (by omega)) fun y f h1 h2 hf => hstill y f (by omega) (by omega) hf
          rw [show x + 1 + (p - (x + 1)) = p by omega] at hsub
          exact ⟨obj, hsub _ _ hthere, hmade.obj⟩
        · unfold again at hag
          simp only [hwt, hal, cond_true, hthere] at hag
          cases hg : (A p).m.get (A x).m.next with
          | none => rw [hg] at hag; simp [sameObj] at hag
          | some o2 => rw [hg] at hag; exact ⟨o2, rfl, fun ψ hψ => sameObj_rel hag (hmade.obj ψ hψ)⟩
      obtain ⟨o2, ho2, hobr⟩ := hobj
      obtain ⟨w', v', h1, h2, h3, h4, h5, h6⟩ := hmade.run w
      have hle : φ.le (φ.set (A x).m.next w.heap.size 0) := Phi.le_set hnone _ _
      have hrel : Rel E.P G w0 (φ.set (A x).m.next w.heap.size 0) (A p).m w' := h.rel.meet ho2 hnone (hobr _ hle) h2 h3 h4 h5
      have hv' : VR (φ.set (A x).m.next w.heap.size 0) v v' := h6 _ (Phi.set_same _ _ _ _)
      refine .inl (wp_of_did (φ := φ.set (A x).m.next w.heap.size 0) (.inl ⟨v', h1, hv'⟩) fun v'' hv'' => ?_)
      refine hK p _ _ w' (h.still hr hS he hee hn ⟨fun b b' hb => ⟨(hle _ _ (h.ext.1 b b' hb).1).1, ?_⟩, fun b hb => ?_, h.ext.2.2⟩ hle hrel ?_ (vput hput rfl) fun _ _ => hv'') hp
      · rw [(hle _ _ (h.ext.1 b b' hb).1).2]; exact (h.ext.1 b b' hb).2
      · have := h.mono 0 x (Nat.zero_le _) (by omega)
        rw [Phi.set_other _ (by omega)]
        exact h.ext.2.1 b hb
      · intro y f hyx hyp hf hfa hfw hfn
        have hno := h.pend y f hyp hf hfa hfw hfn
        obtain ⟨k2, hs2, hk2⟩ := hr.step y f hf
        have hk2' : k2 = 0 ∨ (k2 = 1 ∧ isAl f.o.op = true) := hk2.resolve_left (by rw [isAl_not_eff hfa]; decide)
        have hlt2 : (A (y + 1)).m.next = (A y).m.next + 1 := by
          rcases step_still hs2 hk2' with ⟨hw, _⟩ | ⟨_, u, hq, _⟩ | ⟨_, _, _, u, m'', ha2, hput2⟩
          · rw [hw] at hfw; cases hfw
          · rw [isAl_not_quiet hfa] at hq; cases hq
          · obtain ⟨obj2, rfl⟩ := allocs_new ha2
            rw [(Act.put_tmp hput2).2.2.1, Mem.next_new]
        have hlt1 : (A (x + 1)).m.next = (A x).m.next + 1 := by rw [hm, Mem.next_new]
        have hne : (A y).m.next ≠ (A x).m.next := by
          rcases Nat.lt_or_ge y x with hyx' | hyx'
          · have := h.mono (y + 1) x (by omega) (by omega); omega
          · have := h.mono (x + 1) y (by omega) (by omega); omega
        rw [Phi.set_other _ hne]
        exact hno

theorem depsIn_mem {d : Nat} : ∀ {es : List Edge}, d ∈ depsIn es ↔ ∃ e ∈ es, Region.binds .any e = true ∧ e.on = d
  | [] => by simp [depsIn]
  | e :: es => by
    have ih := @depsIn_mem d es
    cases hb : Region.binds .any e with
    | true => simp only [depsIn, hb, cond_true, List.mem_cons, ih]
              constructor
              · rintro (h | ⟨f, h1, h2⟩)
                · exact ⟨e, .inl rfl, hb, h.symm⟩
                · exact ⟨f, .inr h1, h2⟩
              · rintro ⟨f, h1 | h1, h2, h3⟩
                · subst h1; exact .inl h3.symm
                · exact .inr ⟨f, h1, h2, h3⟩
    | false => simp only [depsIn, hb, cond_false, List.mem_cons, ih]
               constructor
               · rintro ⟨f, h1, h2⟩; exact ⟨f, .inr h1, h2⟩
               · rintro ⟨f, h1 | h1, h2, h3⟩
                 · subst h1; rw [hb] at h2; cases h2
                 · exact ⟨f, h1, h2, h3⟩

/-- what is listed. -/
def Lst (listed : Array Bool) (k : Nat) : Prop := listed.getD k false = true

theorem lst_set {listed : Array Bool} {i : Nat} (hi : i < listed.size) (k : Nat) : Lst (listed.setIfInBounds i true) k ↔ Lst listed k ∨ k = i := by
  unfold Lst
  by_cases h : i = k
  · subst h
    simp [Array.getD_eq_getD_getElem?, hi]
  · have : (listed.setIfInBounds i true).getD k false = listed.getD k false := by
      simp [Array.getD_eq_getD_getElem?, h]
    rw [this]
    constructor
    · exact .inl
    · rintro (h' | h')
      · exact h'
      · exact absurd h'.symm h

theorem not_lst {listed : Array Bool} {k : Nat} (hk : k < listed.size) : ¬ Lst listed k ↔ listed.getD k true = false := by
  unfold Lst
  simp [Array.getD_eq_getD_getElem?, hk]

theorem ready_spec {listed : Array Bool} (hsz : listed.size = ops.length) {j : Nat} : j ∈ Region.ready .any ⟨ops⟩ listed ↔ ¬ Lst listed j ∧ ∃ o, ops[j]? = some o ∧ ∀ d ∈ depsOf o, Lst listed d := by
  rw [mem_ready]
  constructor
  · rintro ⟨h1, o, h2, h3⟩
    have h2' : ops[j]? = some o := by simpa using h2
    refine ⟨(not_lst (by rw [hsz]; exact lt_of_get h2')).2 h1, o, h2', fun d hd => ?_⟩
    obtain ⟨e, he, hb, rfl⟩ := depsIn_mem.1 hd
    exact h3 e (Array.mem_toList_iff.1 he) hb
  · rintro ⟨h1, o, h2, h3⟩
    refine ⟨(not_lst (by rw [hsz]; exact lt_of_get h2)).1 h1, o, by simpa using h2, fun e he hb => ?_⟩
    exact h3 e.on (depsIn_mem.2 ⟨e, Array.mem_toList_iff.2 he, hb, rfl⟩)

theorem ready_nil (hp : Plan E ops l) {listed : Array Bool} (hsz : listed.size = ops.length) (h : Region.ready .any ⟨ops⟩ listed = []) : ∀ k, k < ops.length → Lst listed k := by
  intro k
  induction k using Nat.strongRecOn with
  | _ k ih =>
    intro hk
    have ho : ops[k]? = some ops[k] := List.getElem?_eq_getElem hk
    apply Classical.byContradiction
    intro hn
    have : k ∈ Region.ready .any ⟨ops⟩ listed := (ready_spec hsz).2 ⟨hn, _, ho, fun d hd => by
      have := hp.low k _ ho d hd
      exact ih d this (by omega)⟩
    rw [h] at this
    cases this

theorem all_orders (hE : EnvOk E G) (hcall : CallOk E G w0 call) (hok : ops.all (operOk G) = true) (hn1 : (A 0).n ≤ 1000000000) (hr : Run E call ops l A) {Q : Exit → Go.Act → World → Prop}
    (hQ : ∀ φ' ac' w', Ext φ0 φ' (A 0).m (A l.length).m → ActR φ' (A l.length) ac' → Rel E.P G w0 φ' (A l.length).m w' → Q .normal ac' w') :
    ∀ (fuel : Nat) (listed : Array Bool) (L : List Nat) (p : Nat) (φ : Phi) (ac : Go.Act) (w : World), listed.size = ops.length → L.length ≤ fuel → (∀ k, k < ops.length → ¬ Lst listed k → k ∈ L) → Closed ops (Lst listed) →
      On E G w0 ops l A φ0 (Lst listed) p φ ac w → (∀ e, l[p]? = some e → isEff E e.o.op = true) → wpAny E.P .any ⟨ops⟩ Q fuel listed ac w := by
  have fin : ∀ (listed : Array Bool) (p : Nat) (φ : Phi) (ac : Go.Act) (w : World), (∀ k, k < ops.length → Lst listed k) → On E G w0 ops l A φ0 (Lst listed) p φ ac w → (∀ e, l[p]? = some e → isEff E e.o.op = true) → Q .normal ac w := by
    intro listed p φ ac w hall h hp
    have hpl : p = l.length := by
      rcases Nat.lt_or_ge p l.length with hlt | hge
      · have he : l[p]? = some l[p] := List.getElem?_eq_getElem hlt
        have hat := (hr.plan.at_ _ (List.mem_of_getElem? he)).1
        exact absurd (hall _ (lt_of_get hat)) (h.after p _ (Nat.le_refl _) he (hp _ he))
      · have := h.le; omega
    subst hpl
    refine hQ φ ac w h.ext ⟨?_, ?_, fun t => ?_, h.defers⟩ h.rel
    · rw [h.size, hr.n_stay _ (Nat.le_refl _)]
    · rw [hr.n_stay _ (Nat.le_refl _)]; exact hn1
    · refine h.tmps t l.length (Nat.le_refl _) ?_ ?_
      · intro y f hy hf _
        exact hall _ (lt_of_get (hr.plan.at_ _ (List.mem_of_getElem? hf)).1)
      · intro y f hy hf _ _
        exact absurd (lt_of_get hf) (by omega)
  intro fuel
  induction fuel with
  | zero =>
    intro listed L p φ ac w hsz hL hLs hS h hp
    have hall : ∀ k, k < ops.length → Lst listed k := fun k hk => by
      apply Classical.byContradiction
      intro hn
      have := hLs k hk hn
      rw [List.eq_nil_of_length_eq_zero (Nat.le_zero.1 hL)] at this
      cases this
    refine ⟨?_, fin listed p φ ac w hall h hp⟩
    cases hrd : Region.ready .any ⟨ops⟩ listed with
    | nil => rfl
    | cons j js =>
      have hj : j ∈ Region.ready .any ⟨ops⟩ listed := by rw [hrd]; simp
      obtain ⟨h1, o, h2, _⟩ := (ready_spec hsz).1 hj
      exact absurd (hall j (lt_of_get h2)) h1
  | succ fuel ih =>
    intro listed L p φ ac w hsz hL hLs hS h hp
    refine ⟨fun hnil => fin listed p φ ac w (ready_nil hr.plan hsz hnil) h hp, fun i hi => ?_⟩
    obtain ⟨hun, o, ho, hdeps⟩ := (ready_spec hsz).1 hi
    have hil := lt_of_get ho
    obtain ⟨x, e, he, hei⟩ := hr.plan.all i hil
    subst hei
    have hset := lst_set (listed := listed) (i := e.i) (by rw [hsz]; exact hil)
    have hseteq : Lst (listed.setIfInBounds e.i true) = fun k => Lst listed k ∨ k = e.i := funext fun k => propext (hset k)
    have hS' : Closed ops fun k => Lst listed k ∨ k = e.i := by
      intro k ok hok' hk d hd
      rcases hk with hk | hk
      · exact .inl (hS k ok hok' hk d hd)
      · subst hk
        rw [ho] at hok'; cases hok'
        exact .inl (hdeps d hd)
    refine h.step hE hcall hok hn1 hr hp hS he hun hS' fun q φ' ac' w' h' hq => ?_
    refine ih (listed.setIfInBounds e.i true) (L.erase e.i) q φ' ac' w' (by rw [Array.size_setIfInBounds, hsz]) ?_ ?_ (by rw [hseteq]; exact hS') (by rw [hseteq]; exact h') hq
    · rw [List.length_erase_of_mem (hLs _ hil hun)]; omega
    · intro k hk hkn
      have hkn' : ¬ (Lst listed k ∨ k = e.i) := fun hh => hkn ((hset k).2 hh)
      exact (List.mem_erase_of_ne fun hh => hkn' (.inr hh)).2 (hLs k hk fun hh => hkn' (.inl hh))

/-- regions that draw their order. -/
theorem drawn_ok (hE : EnvOk E G) (hcall : CallOk E G w0 call) : DrawnOk E G w0 call := by
  intro id ops a a' ac φ w Q hok h hA hR hQ
  unfold drawn at h
  split at h
  · cases h
  · rename_i l needs hplan
    obtain ⟨hpl, rfl⟩ := plan_some hplan
    split at h
    · cases h
    · rename_i tr htr
      generalize hneeds : List.all (needsOf E l) _ = bb at h
      cases bb with
      | false => cases h
      | true =>
        simp only [cond_true] at h
        obtain ⟨hlen, h0⟩ := trace_len l a tr htr
        obtain ⟨A, hAx⟩ : ∃ A : Nat → Act, ∀ x, A x = (tr[x]?).getD a := ⟨_, fun _ => rfl⟩
        have hA0 : A 0 = a := by rw [hAx]; simp [h0]
        have hr : Run E call ops l A := by
          refine ⟨hpl, fun x e he => ?_, fun x p e he hp hin => ?_⟩
          · obtain ⟨ax, ax', k, h1, h2, h3, h4⟩ := trace_step l a tr htr x e he
            refine ⟨k, ?_, h4⟩
            simp only [hAx, h1, h2, Option.getD_some]
            exact h3
          · have := List.all_eq_true.1 hneeds _ hin
            simp only [nth_eq, he] at this
            have hx1 : x < tr.length := by have := lt_of_get he; omega
            have hx2 : x + 1 < tr.length := by have := lt_of_get he; omega
            have hp2 : p < tr.length := by omega
            rw [List.getElem?_eq_getElem hx1, List.getElem?_eq_getElem hx2, List.getElem?_eq_getElem hp2] at this
            simp only [hAx, List.getElem?_eq_getElem hx1, List.getElem?_eq_getElem hx2, List.getElem?_eq_getElem hp2, Option.getD_some]
            exact this
        have hlast : A l.length = a' := by
          rw [last_eq, hlen] at h
          simp only [Nat.add_sub_cancel] at h
          rw [hAx]; simp [h]
        refine wp_region_any hE.mixed ?_
        have none : ∀ k, ¬ Lst (Array.replicate ops.length false) k := by
          intro k hk
          unfold Lst at hk
          rw [Array.getD_eq_getD_getElem?, Array.getElem?_replicate] at hk
          split at hk <;> simp at hk
        have hstart : On E G w0 ops l A φ (Lst (Array.replicate ops.length false)) 0 φ ac { w with drawn := w.drawn + 1 } := by
          refine ⟨Nat.zero_le _, fun x e hx => absurd hx (Nat.not_lt_zero _), fun x e _ _ _ => none _, Ext.refl _ (Nat.le_refl _), ?_, ?_, ?_, fun x e hx => absurd hx (Nat.not_lt_zero _), ?_, ?_, ?_⟩
          · rw [hA0]; exact hR.drew
          · intro x y h1 h2
            obtain rfl : y = 0 := by omega
            obtain rfl : x = 0 := by omega
            exact Nat.le_refl _
          · intro x hx
            obtain rfl : x = 0 := by omega
            rw [hA0]; exact hR.fresh
          · intro t x hx h1 h2
            have hstay := hr.tmp_stay t 0 x (by omega) fun y e _ h4 he hd => none _ (h1 y e (by omega) he hd)
            rw [Nat.zero_add, hA0] at hstay
            rw [hstay]
            exact hA.tmps t
          · rw [hA0]; exact hA.size
          · rw [hA0]; exact hA.defers
        obtain ⟨q, h1, h2⟩ := hstart.advance hr _ _ (Nat.le_refl _)
        refine all_orders hE hcall hok (by rw [hA0]; exact hA.bound) hr (fun φ' ac' w' g1 g2 g3 => ?_) ops.length _ (List.range ops.length) q φ ac _ (by simp) (by simp) (fun k hk _ => List.mem_range.2 hk) (fun k o _ hk => absurd hk (none k)) h1 h2
        rw [hA0, hlast] at g1
        rw [hlast] at g2 g3
        exact hQ φ' ac' w' g1 g2 g3

/-- the evaluator is sound. -/
theorem ev_sound (hE : EnvOk E G) (hKn : KnownOk E w0) (n : Nat) : CodeOk E G w0 n ∧ LoopOk E G w0 n ∧ CallOk E G w0 (Ev.call E n) ∧ CallDOk E G w0 (callD E n) :=
  sound hE hKn (fun call hc => drawn_ok hE hc) n

end
end Go.Ev

namespace Go.Ev
set_option linter.unusedSimpArgs false
open Go.RowKit
set_option linter.unusedVariables false
set_option linter.unusedSectionVars false
variable [Sym]

/-- things laid from i on, but for those that are left out. -/
def layFrom {α : Type} (c : Tree α) (i : Nat) : List (Option α) → Tree α
 | [] => c
 | some v :: l => layFrom (c.set D i v) (i + 1) l
 | none :: l => layFrom c (i + 1) l

theorem get_layFrom {α : Type} : ∀ (l : List (Option α)) (c : Tree α) (i j : Nat) (x : α), i + l.length ≤ 2000000000 →
  (layFrom c i l).get j = some x → (i ≤ j ∧ l[j - i]? = some (some x)) ∨ c.get j = some x
 | [], c, i, j, x, _, h => .inr h
 | some v :: l, c, i, j, x, hl, h => by
  simp only [List.length_cons] at hl
  simp only [layFrom] at h
  rcases get_layFrom l _ _ _ _ (by omega) h with ⟨h1, h2⟩ | h
  ·refine .inl ⟨by omega, ?_⟩
   rw [show j - i = (j - (i + 1)) + 1 by omega]
   simpa using h2
  ·by_cases hij : i = j
   ·subst hij
    rw [get_set_D _ _ _ (by omega)] at h
    refine .inl ⟨Nat.le_refl _, ?_⟩
    simpa using h
   ·rw [Tree.get_set_other _ _ _ _ _ hij] at h
    exact .inr h
 | none :: l, c, i, j, x, hl, h => by
  simp only [List.length_cons] at hl
  simp only [layFrom] at h
  rcases get_layFrom l _ _ _ _ (by omega) h with ⟨h1, h2⟩ | h
  ·refine .inl ⟨by omega, ?_⟩
   rw [show j - i = (j - (i + 1)) + 1 by omega]
   simpa using h2
  ·exact .inr h

theorem get_lay {α : Type} {l : List (Option α)} (h : l.length ≤ 2000000000) {j : Nat} {x : α} (hx : (layFrom .leaf 0 l).get j = some x) : l[j]? = some (some x) := by
 rcases get_layFrom _ _ _ _ _ (by omega) hx with ⟨_, h2⟩ | h2
 ·simpa using h2
 ·rw [Tree.get_leaf] at h2; cases h2

/-- those that pass. -/
def pass {α : Type} (f : α → Bool) (l : List α) : List (Option α) := l.map fun x => bif f x then some x else none

theorem get_pass {α : Type} {f : α → Bool} {l : List α} (h : l.length ≤ 2000000000) {j : Nat} {x : α} (hx : (layFrom .leaf 0 (pass f l)).get j = some x) : l[j]? = some x ∧ f x = true := by
 have := get_lay (by simpa [pass] using h) hx
 unfold pass at this
 rw [List.getElem?_map] at this
 cases hl : l[j]? with
 | none => rw [hl] at this; cases this
 | some y =>
  rw [hl] at this
  simp only [Option.map_some, Option.some.injEq] at this
  cases hf : f y with
  | false => rw [hf] at this; cases this
  | true => rw [hf] at this; cases this; exact ⟨rfl, hf⟩

def fnOk (G : Nat) (fn : Func) : Bool := !(fn.name == "runtime.NumGoroutine") && (match fn.body with | some c => codeOk G c | none => true)
def zeroOk (i : TypeInfo) : Bool := match i.zero with | some z => plainV z | none => true
def eqOk (P : Program) (t : TypeId) : Bool := !(P.stoodInHeld t) && !(P.eqGuardType P.depth t)

/-- what a program must be that the evaluator may speak of it: closed facts. -/
theorem envOk_of {E : Env} {G : Nat} {ts : List TypeInfo} {fs : List Func} (hts : E.P.types.toList = ts) (hfs : E.P.funcs.toList = fs) (hT : E.types = layFrom .leaf 0 (pass zeroOk ts)) (hF : E.funcs = layFrom .leaf 0 (pass (fnOk G) fs))
  (hTl : ts.length ≤ 2000000000) (hFl : fs.length ≤ 2000000000) (he : E.eqs.all (eqOk E.P) = true) (hm : E.P.follows .mixedOrders = true)
  (hfa : ∀ op x y r, factOf E.facts op x y = some r → ∃ u v, (∀ φ x', VR φ x x' → x' = u) ∧ (∀ φ y', VR φ y y' → y' = v) ∧ plainV u = true ∧ plainV v = true ∧ ∀ m t, binOp0 E m op t u v = some r) : EnvOk E G where
 facts := hfa
 types := fun t i h => by
  rw [hT] at h
  have := (get_pass hTl h).1
  rw [← hts] at this
  have this2 : E.P.types[t]? = some i := by simpa using this
  have hlt : t < E.P.types.size := (Array.getElem?_eq_some_iff.1 this2).1
  unfold Tables.info?
  rw [if_pos hlt]
  exact this2
 funcs := fun f fn h => by
  rw [hF] at h
  obtain ⟨h1, h2⟩ := get_pass hFl h
  simp only [fnOk, Bool.and_eq_true, Bool.not_eq_true'] at h2
  refine ⟨by rw [← hfs] at h1; simpa using h1, h2.1, fun c hc => ?_⟩
  have h3 := h2.2
  rw [hc] at h3
  exact h3
 eqs := fun t h => by
  obtain ⟨u, hu, htu⟩ := List.any_eq_true.1 h
  obtain rfl : t = u := Nat.eq_of_beq_eq_true htu
  have := List.all_eq_true.1 he t hu
  simp only [eqOk, Bool.and_eq_true, Bool.not_eq_true'] at this
  exact this
 mixed := hm
 zeros := fun t z h => by
  unfold Env.zero at h
  split at h
  ·cases h
  ·rename_i i hi
   unfold Env.ti at hi
   rw [hT] at hi
   have := (get_pass hTl hi).2
   unfold zeroOk at this
   rw [h] at this
   exact this

/-! ## Values without addresses -/
theorem VR.cell_eq {φ : Phi} {v v' : Value} (h : VR φ v v') (hp : Ev.plainCell v = true) : v' = v := by
 cases h <;> first | rfl | (simp [Ev.plainCell] at hp)

theorem VRs.plain_eq {φ : Phi} : ∀ {l l' : List Value}, VRs φ l l' → l.all Ev.plainCell = true → l' = l
 | _, _, .nil, _ => rfl
 | _, _, .cons h hl, hp => by
  simp only [List.all_cons, Bool.and_eq_true] at hp
  rw [VR.cell_eq h hp.1, VRs.plain_eq hl hp.2]

theorem VR.plain_eq {φ : Phi} {v v' : Value} (h : VR φ v v') (hp : Ev.plainV v = true) : v' = v := by
 cases h with
 | agg hl => rw [VRs.plain_eq hl hp]
 | tuple hl => rw [VRs.plain_eq hl hp]
 | bool b => rfl
 | int k n => rfl
 | float k n => rfl
 | complex k n m => rfl
 | string s => rfl
 | pnil => rfl
 | snil n c => rfl
 | mnil => rfl
 | cnil => rfl
 | nilFunc => rfl
 | nilIface => rfl
 | _ => simp [Ev.plainV, Ev.plainCell] at hp

theorem VRs.plains_eq {φ : Phi} : ∀ {l l' : List Value}, VRs φ l l' → l.all Ev.plainV = true → l' = l
 | _, _, .nil, _ => rfl
 | _, _, .cons h hl, hp => by
  simp only [List.all_cons, Bool.and_eq_true] at hp
  rw [VR.plain_eq h hp.1, VRs.plains_eq hl hp.2]

theorem VRs.plainV {φ : Phi} : ∀ (l : List Value), l.all Ev.plainV = true → VRs φ l l
 | [], _ => .nil
 | v :: l, h => by
  simp only [List.all_cons, Bool.and_eq_true] at h
  exact .cons (VR.plain v h.1) (VRs.plainV l h.2)

/-! ## The start -/

/-- the memory at the start: package-level variables that are told, and others that are not looked at. -/
def startMem : List (Option (Nat × TypeId × List Value)) → Mem
 | gs => { t := layFrom .leaf 0 (gs.map fun | some (n, e, l) => some (.cells n (ofListFrom .leaf 0 l) e 1) | none => some .dead), next := gs.length }

/-- a world that fits it. -/
def Fits (gs : List (Option (Nat × TypeId × List Value))) (w : World) : Prop :=
 gs.length ≤ w.heap.size ∧ ∀ (g n : Nat) (e : TypeId) (l : List Value), gs[g]? = some (some (n, e, l)) → ∃ (c : Array Value) (fr : Nat × Nat), w.heap[g]? = some (Obj.cells c e fr) ∧ n ≤ c.size ∧ l.length ≤ 1000000000 ∧ n ≤ l.length ∧ l.all plainCell = true ∧ ∀ i, i < n → c[i]? = l[i]?

theorem Fits.below {gs : List (Option (Nat × TypeId × List Value))} {w w' : World} {B : Nat} (h : Fits gs w) (hb : Below B w w') (hB : gs.length ≤ B) : Fits gs w' := by
 refine ⟨Nat.le_trans h.1 hb.size, fun g n e l hg => ?_⟩
 have hlt : g < gs.length := (List.getElem?_eq_some_iff.1 hg).1
 rw [hb.block g (by omega)]
 exact h.2 g n e l hg

theorem startMem_rel {P : Program} {gs : List (Option (Nat × TypeId × List Value))} {w : World} (hgs : gs.length ≤ 1000000000) (h : Fits gs w) :
  Rel P gs.length w ⟨fun b => if b < gs.length then some b else none, fun _ => 0⟩ (startMem gs) w := by
 have hget : ∀ b o, (startMem gs).get b = some o → b < gs.length ∧ ((o = .dead) ∨ ∃ n e l, gs[b]? = some (some (n, e, l)) ∧ o = .cells n (ofListFrom .leaf 0 l) e 1) := by
  intro b o hb
  have := get_lay (by rw [List.length_map]; omega) (show (layFrom .leaf 0 (gs.map fun | some (n, e, l) => some (AObj.cells n (ofListFrom .leaf 0 l) e 1) | none => some .dead)).get b = some o from hb)
  rw [List.getElem?_map] at this
  cases hg : gs[b]? with
  | none => rw [hg] at this; cases this
  | some x =>
   rw [hg] at this
   refine ⟨(List.getElem?_eq_some_iff.1 hg).1, ?_⟩
   simp only [Option.map_some, Option.some.injEq] at this
   cases x with
   | none => exact .inl (Option.some.inj this).symm
   | some y => obtain ⟨n, e, l⟩ := y; exact .inr ⟨n, e, l, rfl, (Option.some.inj this).symm⟩
 have hphi : ∀ b b', (⟨fun b => if b < gs.length then some b else none, fun _ => 0⟩ : Phi) b = some b' → b' = b ∧ b < gs.length := by
  intro b b' hb
  have hb' : (if b < gs.length then some b else none) = some b' := hb
  split at hb'
  ·cases hb'; exact ⟨rfl, by assumption⟩
  ·cases hb'
 refine ⟨fun g hg => if_pos hg, fun b b' hb => ?_, fun b o b' ho hb => ?_, fun b₁ b₂ o₁ o₂ b' _ _ _ _ h1 h2 => ?_, fun b o b' ho hr hb => ?_, fun b o ho => (hget b o ho).1, Below.refl _ _⟩
 ·obtain ⟨rfl, hlt⟩ := hphi b b' hb
  exact ⟨hlt, Nat.lt_of_lt_of_le hlt h.1⟩
 ·obtain ⟨rfl, hlt⟩ := hphi b b' hb
  rcases (hget _ o ho).2 with rfl | ⟨n, e, l, hg, rfl⟩
  ·trivial
  ·obtain ⟨c, fr, h1, h2, h3, h4, h5, h6⟩ := h.2 _ n e l hg
   refine ⟨c, fr, ⟨_, h1, fun _ => rfl⟩, h2, fun i hi _ => ?_, fun hk => absurd hk (by decide), fun hk => absurd rfl hk⟩
   have hi' : i < l.length := by omega
   have e1 : l[i]? = some l[i] := List.getElem?_eq_getElem hi'
   refine ⟨l[i], l[i], ?_, (h6 i hi).trans e1, VR.plainCell _ (List.all_eq_true.1 h5 _ (List.getElem_mem hi'))⟩
   rw [get_ofListFrom _ _ _ _ (by omega), if_pos (by omega), Nat.sub_zero]
   exact e1
 ·obtain ⟨rfl, _⟩ := hphi _ _ h1
  obtain ⟨rfl, _⟩ := hphi _ _ h2
  rfl
 ·rcases (hget b o ho).2 with rfl | ⟨n, e, l, hg, rfl⟩ <;> cases hr

/-- what a call gives back. -/
def back : Option (Value × Mem) → Option Value
 | some (v, _) => some v
 | none => none

/-- a closed run; the arguments may be signs. -/
theorem closed_args {E : Env} {gs : List (Option (Nat × TypeId × List Value))} (hE : EnvOk E gs.length) (hgs : gs.length ≤ 1000000000) {n f : Nat} {args args' : List Value} {v : Value} (h : back (call E n f args (startMem gs)) = some v) (ha : ∀ φ, VRs φ args args') {w : World} (hw : Fits gs w) (hKn : KnownOk E w) :
  Calls E.P f ⟨args'⟩ w fun e w' => ∃ φ v', e = .returned v' ∧ VR φ v v' ∧ Below w.heap.size w w' := by
 cases hc : call E n f args (startMem gs) with
 | none => rw [hc] at h; cases h
 | some r =>
  obtain ⟨v1, m'⟩ := r
  rw [hc] at h
  cases h
  obtain ⟨_, hcalls⟩ := (ev_sound (w0 := w) hE hKn n).2.2.1 f args args' (startMem gs) m' v _ w hc (ha _) (startMem_rel hgs hw)
  refine hcalls.mono fun e w' he => ?_
  obtain ⟨φ', v', rfl, _, hv', hr⟩ := he
  exact ⟨φ', v', rfl, hv', hr.below⟩

/-- a closed run. -/
theorem closed_at {E : Env} {gs : List (Option (Nat × TypeId × List Value))} (hE : EnvOk E gs.length) (hgs : gs.length ≤ 1000000000) {n f : Nat} {args : List Value} {v : Value} (h : back (call E n f args (startMem gs)) = some v) (ha : args.all plainV = true) (hv : plainV v = true) {w : World} (hw : Fits gs w) (hKn : KnownOk E w) :
  Calls E.P f ⟨args⟩ w fun e w' => e = .returned v ∧ Below w.heap.size w w' := by
 refine (closed_args hE hgs h (fun φ => VRs.plainV args ha) hw hKn).mono fun e w' he => ?_
 obtain ⟨φ', v', rfl, hv', hb⟩ := he
 rw [hv'.plain_eq hv]
 exact ⟨rfl, hb⟩

/-- nothing is known ahead. -/
theorem known_none {E : Env} (hk : E.known = []) (w : World) : KnownOk E w := fun f args v hf => by rw [hk] at hf; cases hf

/-- what is known of one call without signs. -/
theorem known_plain {E : Env} {w0 : World} {f : Nat} {args : List Value} {v : Value} (ha : args.all plainV = true) (hv : plainV v = true) (h : ∀ w, Below w0.heap.size w0 w → Calls E.P f ⟨args⟩ w fun e w' => e = .returned v ∧ Below w.heap.size w w') :
  ∀ φ args' w, VRs φ args args' → Below w0.heap.size w0 w → Calls E.P f ⟨args'⟩ w fun e w' => ∃ v', e = .returned v' ∧ VR φ v v' ∧ Below w.heap.size w w' := by
 intro φ args' w hr hw
 rw [hr.plains_eq ha]
 exact (h w hw).mono fun e w' ⟨he, hb⟩ => ⟨v, he, VR.plain v hv, hb⟩

end Go.Ev

namespace Go.Ev
set_option linter.unusedSimpArgs false
open Go.RowKit
set_option linter.unusedVariables false
set_option linter.unusedSectionVars false
variable [Sym]

section
variable {H : Type} {enc : TypeId × Value → H} {P : Program} {w : World} {base : Nat} {spare : Nat → Bool} {held : Bool} {fuel n : Nat} {t e : TypeId} {cs : List Value} {x : DataW H × List MemPlace}

/-- a row of strings that is told. -/
theorem cells_strings (ht : P.underlying t = some (.array n e)) (he : P.underlying e = some .string) (ce : P.cellsOf e = 1) (h : DataW.trod enc P w base spare held fuel t cs = some x) {bs : List (List UInt8)} (hx : x.1 = .agg (bs.map fun b => .lit (.string b))) (hn : bs.length = n) :
  cs.length = P.cellsOf t ∧ ∀ i, i < n → cs[i]? = (bs.map fun l => Value.string ⟨⟨l⟩⟩)[i]? := by
 obtain ⟨xs, m1, rfl, rfl, hlen, hxn, hel⟩ := DataW.trod_array ht h
 simp only [DataW.agg.injEq] at hx
 refine ⟨hlen, fun i hi => ?_⟩
 have h1 := hel i hi
 rw [ce, Nat.mul_one] at h1
 have hxi : xs[i]? = some xs[i] := List.getElem?_eq_getElem (by omega)
 rw [hxi] at h1
 obtain ⟨s, e1, e2, _⟩ := DataW.trod_string he h1
 have e3 : cs[i]? = some (.string s) := by
  have := congrArg (·[0]?) e1
  simp only [List.getElem?_take, List.getElem?_drop] at this
  simpa using this
 have e4 := congrArg (·[i]?) hx
 simp only [List.getElem?_map, hxi, Option.map_some, e2] at e4
 rw [e3, List.getElem?_map]
 cases hb : bs[i]? with
 | none => rw [hb] at e4; cases e4
 | some b =>
  rw [hb] at e4
  simp only [Option.map_some, Option.some.injEq, DataW.lit.injEq, Lit.string.injEq] at e4
  subst e4
  rfl

/-- a row of integers that is told. -/
theorem cells_ints {k : IntKind} (ht : P.underlying t = some (.array n e)) (he : P.underlying e = some (.int k)) (ce : P.cellsOf e = 1) (h : DataW.trod enc P w base spare held fuel t cs = some x) {bs : List Int} (hx : x.1 = .agg (bs.map fun b => .lit (.int k b))) (hn : bs.length = n) :
  cs.length = P.cellsOf t ∧ ∀ i, i < n → cs[i]? = (bs.map fun l => Value.int k l)[i]? := by
 obtain ⟨xs, m1, rfl, rfl, hlen, hxn, hel⟩ := DataW.trod_array ht h
 simp only [DataW.agg.injEq] at hx
 refine ⟨hlen, fun i hi => ?_⟩
 have h1 := hel i hi
 rw [ce, Nat.mul_one] at h1
 have hxi : xs[i]? = some xs[i] := List.getElem?_eq_getElem (by omega)
 rw [hxi] at h1
 obtain ⟨s, e1, e2, _⟩ := DataW.trod_int he h1
 have e3 : cs[i]? = some (.int k s) := by
  have := congrArg (·[0]?) e1
  simp only [List.getElem?_take, List.getElem?_drop] at this
  simpa using this
 have e4 := congrArg (·[i]?) hx
 simp only [List.getElem?_map, hxi, Option.map_some, e2] at e4
 rw [e3, List.getElem?_map]
 cases hb : bs[i]? with
 | none => rw [hb] at e4; cases e4
 | some b =>
  rw [hb] at e4
  simp only [Option.map_some, Option.some.injEq, DataW.lit.injEq, Lit.int.injEq, true_and] at e4
  subst e4
  rfl

/-- a variable's block. -/
theorem var_block {w : World} {nm : String} {g : Nat} {cs : Array Value} (hg : P.globalNamed nm = some g) (hv : w.var? P nm = some cs) : ∃ e fr, w.heap[g]? = some (Obj.cells cs e fr) := by
 unfold World.var? at hv
 rw [hg, Option.bind_some] at hv
 split at hv
 ·rename_i c e fr hh
  cases hv
  exact ⟨e, fr, hh⟩
 ·cases hv
end
end Go.Ev

namespace Go.Ev
set_option linter.unusedSimpArgs false
open Go.RowKit
set_option linter.unusedVariables false
set_option linter.unusedSectionVars false

/-- a closed run where nothing is known ahead. -/
theorem closed {E : Env} {gs : List (Option (Nat × TypeId × List Value))} (hE : ∀ [Sym], EnvOk E gs.length) (hk : E.known = []) (hgs : gs.length ≤ 1000000000) {n f : Nat} {args : List Value} {v : Value} (h : back (call E n f args (startMem gs)) = some v) (ha : args.all plainV = true) (hv : plainV v = true) {w : World} (hw : Fits gs w) :
  Calls E.P f ⟨args⟩ w fun e w' => e = .returned v ∧ Below w.heap.size w w' :=
 letI : Sym := ⟨fun _ => none⟩
 closed_at hE hgs h ha hv hw (known_none hk w)

variable [Sym]

theorem bytesSame_eq {a b : Value} (h : bytesSame a b = true) : a = b := by
 unfold bytesSame at h
 split at h
 ·rw [eq_of_beq h]
 ·simp only [Bool.and_eq_true, decide_eq_true_eq] at h; rw [h.1, h.2]
 ·rw [bytesEq_eq] at h; rw [eq_of_beq h]
 ·rw [Nat.eq_of_beq_eq_true h]
 ·cases h

theorem argsSame_eq : ∀ {a b : List Value}, argsSame a b = true → a = b
 | [], [], _ => rfl
 | [], _ :: _, h => by simp [argsSame] at h
 | _ :: _, [], h => by simp [argsSame] at h
 | a :: l, b :: r, h => by
  simp only [argsSame, Bool.and_eq_true] at h
  rw [bytesSame_eq h.1, argsSame_eq h.2]

theorem factOf_mem {op : BinOp} {x y r : Value} : ∀ {l : List (BinOp × Value × Value × Value)}, factOf l op x y = some r → (op, x, y, r) ∈ l
 | [], h => by simp [factOf] at h
 | (op', x', y', r') :: l, h => by
  simp only [factOf] at h
  cases hb : decide (op' = op) && (bytesSame x' x && bytesSame y' y) with
  | false => rw [hb] at h; exact List.mem_cons_of_mem _ (factOf_mem h)
  | true =>
   rw [hb] at h
   cases h
   simp only [Bool.and_eq_true, decide_eq_true_eq] at hb
   obtain ⟨rfl, h1, h2⟩ := hb
   rw [bytesSame_eq h1, bytesSame_eq h2]
   exact List.mem_cons_self

theorem knownOf_mem {f : Nat} {args : List Value} {v : Value} : ∀ {l : List (Nat × List Value × Value)}, knownOf l f args = some v → (f, args, v) ∈ l
 | [], h => by simp [knownOf] at h
 | (g, as, u) :: l, h => by
  simp only [knownOf] at h
  cases hb : Nat.beq g f && argsSame as args with
  | false => rw [hb] at h; exact List.mem_cons_of_mem _ (knownOf_mem h)
  | true =>
   rw [hb] at h
   cases h
   simp only [Bool.and_eq_true] at hb
   rw [Nat.eq_of_beq_eq_true hb.1, argsSame_eq hb.2]
   exact List.mem_cons_self

/-- what a sign, or a value without addresses, stands for. -/
def Stands (x u : Value) : Prop := (∃ n, x = .chan (some n) ∧ Sym.val n = some u ∧ tokOk u = true) ∨ (x = u ∧ plainV u = true)

theorem Stands.plain {x u : Value} (h : Stands x u) : plainV u = true := by
 rcases h with ⟨n, _, _, h⟩ | ⟨_, h⟩
 ·cases u <;> first | rfl | (simp [tokOk] at h)
 ·exact h

theorem Stands.only {x u : Value} (h : Stands x u) {φ : Phi} {x' : Value} (hx : VR φ x x') : x' = u := by
 rcases h with ⟨n, rfl, hn, _⟩ | ⟨rfl, h⟩
 ·cases hx with
  | tok _ h1 _ => exact Option.some.inj (h1.symm.trans hn)
 ·exact hx.plain_eq h

theorem Stands.rel {x u : Value} (h : Stands x u) (φ : Phi) : VR φ x u := by
 rcases h with ⟨n, rfl, hn, ho⟩ | ⟨rfl, h⟩
 ·exact .tok n hn ho
 ·exact VR.plain _ h

theorem Stands.tok {n : Nat} {u : Value} (h : Sym.val n = some u) (ho : tokOk u = true) : Stands (.chan (some n)) u := .inl ⟨n, rfl, h, ho⟩
theorem Stands.val {u : Value} (h : plainV u = true) : Stands u u := .inr ⟨rfl, h⟩

inductive StandsL : List Value → List Value → Prop where
 | nil : StandsL [] []
 | cons {x u : Value} {l r : List Value} (h : Stands x u) (hl : StandsL l r) : StandsL (x :: l) (u :: r)

theorem StandsL.only {φ : Phi} : ∀ {l r l' : List Value}, StandsL l r → VRs φ l l' → l' = r
 | _, _, _, .nil, .nil => rfl
 | _, _, _, .cons h hl, .cons h' hl' => by rw [h.only h', StandsL.only hl hl']

theorem StandsL.rel (φ : Phi) : ∀ {l r : List Value}, StandsL l r → VRs φ l r
 | _, _, .nil => .nil
 | _, _, .cons h hl => .cons (h.rel φ) (StandsL.rel φ hl)

/-- the facts of a list, one by one. -/
theorem facts_of {E : Env} (h : ∀ q ∈ E.facts, ∃ u v, Stands q.2.1 u ∧ Stands q.2.2.1 v ∧ ∀ m t, binOp0 E m q.1 t u v = some q.2.2.2) :
  ∀ op x y r, factOf E.facts op x y = some r → ∃ u v, (∀ φ x', VR φ x x' → x' = u) ∧ (∀ φ y', VR φ y y' → y' = v) ∧ plainV u = true ∧ plainV v = true ∧ ∀ m t, binOp0 E m op t u v = some r := by
 intro op x y r hf
 obtain ⟨u, v, h1, h2, h3⟩ := h _ (factOf_mem hf)
 exact ⟨u, v, fun φ x' hx => h1.only hx, fun φ y' hy => h2.only hy, h1.plain, h2.plain, h3⟩

/-- the known calls of a list, one by one. -/
theorem known_of {E : Env} {w0 : World} (h : ∀ q ∈ E.known, (∃ fn, E.funcs.get q.1 = some fn ∧ fn.body.isSome = true) ∧ ∃ us v, StandsL q.2.1 us ∧ (∀ φ, VR φ q.2.2 v) ∧ ∀ w, Below w0.heap.size w0 w → Calls E.P q.1 ⟨us⟩ w fun e w' => e = .returned v ∧ Below w.heap.size w w') : KnownOk E w0 := by
 intro f args v hf
 obtain ⟨h1, us, u, h2, h3, h4⟩ := h _ (knownOf_mem hf)
 refine ⟨h1, fun φ args' w hr hw => ?_⟩
 rw [h2.only hr]
 exact (h4 w hw).mono fun e w' ⟨he, hb⟩ => ⟨u, he, h3 φ, hb⟩

end Go.Ev

namespace Go.Ev
set_option linter.unusedSimpArgs false
set_option linter.unusedVariables false

/-- the operations of a region that draws, one by one. -/
def runL (E : Env) (call : CallFn) (all : List Oper) : List Ent → Act → Option Act
 | [], a => some a
 | e :: l, a => match stepOp E call all a e.o with
  | none => none
  | some (k, a') => bif isEff E e.o.op || Nat.beq k 0 || (Nat.beq k 1 && isAl e.o.op) then runL E call all l a' else none

theorem trace_runL {E : Env} {call : CallFn} {all : List Oper} : ∀ (l : List Ent) (a : Act), (match trace E call all l a with | none => none | some tr => last tr) = runL E call all l a
 | [], a => rfl
 | e :: l, a => by
  simp only [trace, runL]
  cases hs : stepOp E call all a e.o with
  | none => rfl
  | some r =>
   obtain ⟨k, a'⟩ := r
   simp only
   cases hc : (isEff E e.o.op || Nat.beq k 0 || (Nat.beq k 1 && isAl e.o.op)) with
   | false => rfl
   | true =>
    simp only [cond_true]
    rw [← trace_runL l a']
    cases ht : trace E call all l a' with
    | none => rfl
    | some tr =>
     letI : Sym := ⟨fun _ => none⟩
     obtain ⟨hlen, _⟩ := trace_len l a' tr ht
     match tr, hlen with
     | b :: bs, _ => rfl

theorem drawn_runL {E : Env} {call : CallFn} {ops : List Oper} {l : List Ent} (hp : plan E ops = some (l, [])) (a : Act) : drawn E call ops a = runL E call ops l a := by
 rw [← trace_runL l a]
 unfold drawn
 rw [hp]
 cases ht : trace E call ops l a with
 | none => simp [ht]
 | some tr => simp [ht]

/-- operations, one by one, in this order. -/
def runO (E : Env) (call : CallFn) (all : List Oper) : List Oper → Act → Option Act
 | [], a => some a
 | o :: l, a => match stepOp E call all a o with
  | none => none
  | some (k, a') => bif isEff E o.op || Nat.beq k 0 || (Nat.beq k 1 && isAl o.op) then runO E call all l a' else none

theorem runL_runO {E : Env} {call : CallFn} {all : List Oper} : ∀ (l : List Ent) (a : Act), runL E call all l a = runO E call all (l.map fun e => e.o) a
 | [], a => rfl
 | e :: l, a => by
  simp only [runL, runO, List.map_cons]
  cases hs : stepOp E call all a e.o with
  | none => rfl
  | some r =>
   obtain ⟨k, a'⟩ := r
   simp only
   rw [runL_runO l a']

/-- in the text's order, nothing to be asked again. -/
def planText (E : Env) (ops : List Oper) : Bool :=
 match plan E ops with
 | some (l, []) => decide ((l.map fun e => e.i) = List.range ops.length)
 | _ => false

theorem drawn_text {E : Env} {call : CallFn} {ops : List Oper} (h : planText E ops = true) (a : Act) : drawn E call ops a = runO E call ops ops a := by
 unfold planText at h
 split at h
 ·rename_i l hp
  have hi := of_decide_eq_true h
  letI : Sym := ⟨fun _ => none⟩
  obtain ⟨hpl, _⟩ := plan_some hp
  rw [drawn_runL hp, runL_runO]
  have : (l.map fun e => e.o) = ops := by
   apply List.ext_getElem?
   intro j
   have hj := congrArg (·[j]?) hi
   simp only [List.getElem?_map] at hj ⊢
   cases hl : l[j]? with
   | none =>
    have : l.length ≤ j := List.getElem?_eq_none_iff.1 hl
    rw [List.getElem?_eq_none (by rw [← hpl.len]; exact this)]
    rfl
   | some e =>
    rw [hl] at hj
    have hlt : j < l.length := (List.getElem?_eq_some_iff.1 hl).1
    rw [List.getElem?_range (by rw [← hpl.len]; exact hlt)] at hj
    simp only [Option.map_some, Option.some.injEq] at hj
    have := (hpl.at_ e (List.mem_of_getElem? hl)).1
    rw [hj] at this
    rw [this]
    rfl
  rw [this]
 ·cases h

end Go.Ev

namespace Go.Ev
set_option linter.unusedSimpArgs false
set_option linter.unusedVariables false
variable {E : Env}

/-- a call comes to an end, and what it leaves fits. -/
def Runs (E : Env) (f : Nat) (args : List Value) (m : Mem) (Q : Value → Mem → Prop) : Prop := ∃ n v m', call E n f args m = some (v, m') ∧ Q v m'
def RunsD (E : Env) (f : Nat) (args : List Value) (m : Mem) (Q : Mem → Prop) : Prop := ∃ n m', callD E n f args m = some m' ∧ Q m'
theorem Runs.mono {f : Nat} {args : List Value} {m : Mem} {Q R : Value → Mem → Prop} (h : Runs E f args m Q) (hR : ∀ v m', Q v m' → R v m') : Runs E f args m R :=
 let ⟨n, v, m', h1, h2⟩ := h; ⟨n, v, m', h1, hR v m' h2⟩
theorem RunsD.mono {f : Nat} {args : List Value} {m : Mem} {Q R : Mem → Prop} (h : RunsD E f args m Q) (hR : ∀ m', Q m' → R m') : RunsD E f args m R :=
 let ⟨n, m', h1, h2⟩ := h; ⟨n, m', h1, hR m' h2⟩

inductive Kont where
 | seq (y : Code) | block (id : Nat) | loop (x : Code)

def wpC (E : Env) (c : Code) (a : Act) (Q : Ex → Act → Prop) : Prop := ∃ n ex a', code E n c a = some (ex, a') ∧ Q ex a'

def ret (E : Env) : List Kont → Ex → Act → (Ex → Act → Prop) → Prop
 | [], ex, a, Q => Q ex a
 | .seq y :: k, ex, a, Q => match ex with
  | .normal => wpC E y a (fun ex a => ret E k ex a Q)
  | ex => ret E k ex a Q
 | .block id :: k, ex, a, Q => match ex with
  | .exit id' => if id' = id then ret E k .normal a Q else ret E k (.exit id') a Q
  | ex => ret E k ex a Q
 | .loop x :: k, ex, a, Q => match ex with
  | .normal => wpC E (.loop x) a (fun ex a => ret E k ex a Q)
  | ex => ret E k ex a Q

def wp (E : Env) (c : Code) (k : List Kont) (a : Act) (Q : Ex → Act → Prop) : Prop := wpC E c a (fun ex a' => ret E k ex a' Q)

section
variable {k : List Kont} {a : Act} {Q : Ex → Act → Prop} {x y : Code}
theorem ewp_skip (h : ret E k .normal a Q) : wp E .skip k a Q := ⟨1, _, _, rfl, h⟩
theorem ewp_label {l : Nat} (h : ret E k .normal a Q) : wp E (.label l) k a Q := ⟨1, _, _, rfl, h⟩
theorem ewp_exit {i : Nat} (h : ret E k (.exit i) a Q) : wp E (.exit i) k a Q := ⟨1, _, _, rfl, h⟩
theorem ewp_ret (h : ret E k .ret a Q) : wp E .ret k a Q := ⟨1, _, _, rfl, h⟩

theorem ewp_seq (h : wp E x (.seq y :: k) a Q) : wp E (.seq x y) k a Q := by
 obtain ⟨n, ex, a', h1, h2⟩ := h
 cases ex with
 | normal =>
  obtain ⟨n2, ex2, a2, h3, h4⟩ := h2
  refine ⟨max n n2 + 1, ex2, a2, ?_, h4⟩
  simp only [code]
  rw [code_fuel (Nat.le_max_left n n2) h1]
  exact code_fuel (Nat.le_max_right n n2) h3
 | exit i => exact ⟨n + 1, _, a', by simp only [code]; rw [h1], h2⟩
 | ret => exact ⟨n + 1, _, a', by simp only [code]; rw [h1], h2⟩
 | goto l => exact ⟨n + 1, _, a', by simp only [code]; rw [h1], h2⟩

theorem ewp_block {i : Nat} (h : wp E x (.block i :: k) a Q) : wp E (.block i x) k a Q := by
 obtain ⟨n, ex, a', h1, h2⟩ := h
 cases ex with
 | exit j =>
  simp only [ret] at h2
  by_cases hj : j = i
  ·rw [if_pos hj] at h2
   exact ⟨n + 1, _, a', by simp only [code]; rw [h1]; simp only [Tree.beq_true hj, cond_true], h2⟩
  ·rw [if_neg hj] at h2
   exact ⟨n + 1, _, a', by simp only [code]; rw [h1]; simp only [Tree.beq_false hj, cond_false], h2⟩
 | normal => exact ⟨n + 1, _, a', by simp only [code]; rw [h1], h2⟩
 | ret => exact ⟨n + 1, _, a', by simp only [code]; rw [h1], h2⟩
 | goto l => exact ⟨n + 1, _, a', by simp only [code]; rw [h1], h2⟩

theorem ewp_loop1 (h : wp E x (.loop x :: k) a Q) : wp E (.loop x) k a Q := by
 obtain ⟨n, ex, a', h1, h2⟩ := h
 cases ex with
 | normal =>
  obtain ⟨n2, ex2, a2, h3, h4⟩ := h2
  refine ⟨max n n2 + 1, ex2, a2, ?_, h4⟩
  simp only [code]
  rw [code_fuel (Nat.le_max_left n n2) h1]
  exact code_fuel (Nat.le_max_right n n2) h3
 | exit i => exact ⟨n + 1, _, a', by simp only [code]; rw [h1], h2⟩
 | ret => exact ⟨n + 1, _, a', by simp only [code]; rw [h1], h2⟩
 | goto l => exact ⟨n + 1, _, a', by simp only [code]; rw [h1], h2⟩

theorem ewp_condT {c : Operand} (hc : a.eval c = .bool true) (h : wp E x k a Q) : wp E (.cond c x y) k a Q := by
 obtain ⟨n, ex, a', h1, h2⟩ := h
 exact ⟨n + 1, ex, a', by simp only [code, hc]; exact h1, h2⟩
theorem ewp_condF {c : Operand} (hc : a.eval c = .bool false) (h : wp E y k a Q) : wp E (.cond c x y) k a Q := by
 obtain ⟨n, ex, a', h1, h2⟩ := h
 exact ⟨n + 1, ex, a', by simp only [code, hc]; exact h1, h2⟩
theorem ewp_cond {c : Operand} {b : Bool} (hc : a.eval c = .bool b) (h1 : b = true → wp E x k a Q) (h2 : b = false → wp E y k a Q) : wp E (.cond c x y) k a Q := by
 cases b
 ·exact ewp_condF hc (h2 rfl)
 ·exact ewp_condT hc (h1 rfl)

theorem eret_seq (h : wp E y k a Q) : ret E (.seq y :: k) .normal a Q := h
theorem eret_seq_exit {i : Nat} (h : ret E k (.exit i) a Q) : ret E (.seq y :: k) (.exit i) a Q := h
theorem eret_seq_ret (h : ret E k .ret a Q) : ret E (.seq y :: k) .ret a Q := h
theorem eret_block {i : Nat} (h : ret E k .normal a Q) : ret E (.block i :: k) .normal a Q := h
theorem eret_block_same {i : Nat} (h : ret E k .normal a Q) : ret E (.block i :: k) (.exit i) a Q := by simp only [ret, if_true]; exact h
theorem eret_block_other {i j : Nat} (hj : Nat.beq j i = false) (h : ret E k (.exit j) a Q) : ret E (.block i :: k) (.exit j) a Q := by
 have : j ≠ i := fun e => by rw [e, Nat.beq_refl] at hj; cases hj
 simp only [ret, if_neg this]; exact h
theorem eret_block_ret {i : Nat} (h : ret E k .ret a Q) : ret E (.block i :: k) .ret a Q := h
theorem eret_loop (h : wp E (.loop x) k a Q) : ret E (.loop x :: k) .normal a Q := h
theorem eret_loop_exit {i : Nat} (h : ret E k (.exit i) a Q) : ret E (.loop x :: k) (.exit i) a Q := h
theorem eret_loop_ret (h : ret E k .ret a Q) : ret E (.loop x :: k) .ret a Q := h
theorem eret_nil {ex : Ex} (h : Q ex a) : ret E [] ex a Q := h

/-- a loop, by what holds at its head and what becomes less. -/
theorem ewp_loop {ι : Type} (I : ι → Act → Prop) (μ : ι → Nat) (i0 : ι) (h0 : I i0 a)
  (hs : ∀ i a, I i a → (∀ j a', I j a' → μ j < μ i → ret E (.loop x :: k) .normal a' Q) → wp E x (.loop x :: k) a Q) : wp E (.loop x) k a Q := by
 have H : ∀ d i a, μ i ≤ d → I i a → wp E (.loop x) k a Q := by
  intro d
  induction d with
  | zero => exact fun i a hd hi => ewp_loop1 (hs i a hi fun j a' _ hj => by omega)
  | succ d ih => exact fun i a hd hi => ewp_loop1 (hs i a hi fun j a' hI hj => ih j a' (by omega) hI)
 exact H _ _ _ (Nat.le_refl _) h0

/-! Regions. -/
def wpO (E : Env) (all l : List Oper) (k : List Kont) (a : Act) (Q : Ex → Act → Prop) : Prop := ∃ n a', opers E (call E n) all l a = some a' ∧ ret E k .normal a' Q

theorem ewp_region {i : Nat} {ops : Array Oper} (h : wpO E ops.toList ops.toList k a Q) : wp E (.region i ops false) k a Q := by
 obtain ⟨n, a', h1, h2⟩ := h
 exact ⟨n + 1, .normal, a', by simp only [code, h1], h2⟩

theorem kind_ok {call : CallFn} {all : List Oper} {a a' : Act} {o : Oper} {q : Nat} (h : stepOp E call all a o = some (q, a')) : (isEff E o.op || Nat.beq q 0 || (Nat.beq q 1 && isAl o.op)) = true := by
 unfold stepOp at h
 cases hw : wanted a all o with
 | false =>
  rw [hw] at h
  simp only [cond_false] at h
  split at h
  ·cases h
  ·simp only [Option.some.injEq, Prod.mk.injEq] at h; rw [← h.1]; simp [Nat.beq]
 | true =>
  rw [hw] at h
  simp only [cond_true] at h
  unfold oper at h
  split at h
  ·rename_i q' v m' hp
   split at h
   ·cases h
   ·simp only [Option.some.injEq, Prod.mk.injEq] at h
    obtain ⟨rfl, _⟩ := h
    unfold plainOp at hp
    split at hp
    ·simp only [Option.some.injEq, Prod.mk.injEq] at hp; rw [← hp.1]; simp [Nat.beq]
    ·split at hp
     ·rename_i hal
      simp only [Option.some.injEq, Prod.mk.injEq] at hp
      rw [← hp.1]
      have : isAl o.op = true := by
       cases hop : o.op <;> rw [hop] at hal <;> simp [allocs] at hal <;> rfl
      rw [this]; simp [Nat.beq]
     ·split at hp
      ·rename_i hef
       have : isEff E o.op = true := by
        cases hop : o.op <;> rw [hop] at hef <;> first | rfl | (simp [effect] at hef; done) | skip
        case convert s d x =>
         simp only [effect] at hef
         simp only [isEff]
         split at hef
         ·split at hef
          ·rename_i h1 h2; rw [h2]
          ·cases hef
         ·split at hef
          ·rename_i h1 h2; rw [h2]
          ·cases hef
         ·cases hef
        case call c =>
         simp only [effect] at hef
         simp only [isEff]
         split at hef
         ·rename_i hc; rw [hc]
         ·cases hef
       rw [this]; simp
      ·cases hp
  ·split at h
   ·rename_i c hop
    have : isEff E o.op = true := by
     rw [hop]
     split at h
     ·cases h
     ·rename_i g args ht
      unfold target at ht
      simp only [isEff]
      split at ht
      ·rename_i hcl; rw [hcl]
      ·cases ht
    rw [this]; simp
   ·rename_i c hop
    rw [hop]; simp [isEff]
   ·cases h

theorem runO_opers {call : CallFn} {all : List Oper} : ∀ (l : List Oper) (a : Act), runO E call all l a = opers E call all l a
 | [], a => rfl
 | o :: l, a => by
  simp only [runO, opers]
  cases hs : stepOp E call all a o with
  | none => rfl
  | some r =>
   obtain ⟨q, a'⟩ := r
   simp only
   rw [kind_ok hs, cond_true, runO_opers l a']

theorem ewp_regionD {i : Nat} {ops : Array Oper} (hp : planText E ops.toList = true) (h : wpO E ops.toList ops.toList k a Q) : wp E (.region i ops true) k a Q := by
 obtain ⟨n, a', h1, h2⟩ := h
 exact ⟨n + 1, .normal, a', by simp only [code, drawn_text hp, runO_opers, h1], h2⟩

/-- the order of a region that draws, where nothing is asked again. -/
def planOrder (E : Env) (ops : List Oper) : List Oper := match plan E ops with | some (l, _) => l.map fun e => e.o | none => []
def planQuiet (E : Env) (ops : List Oper) : Bool := match plan E ops with | some (_, []) => true | _ => false

theorem ewp_regionP {i : Nat} {ops : Array Oper} {l : List Oper} (hp : planQuiet E ops.toList = true) (hl : planOrder E ops.toList = l) (h : wpO E ops.toList l k a Q) : wp E (.region i ops true) k a Q := by
 obtain ⟨n, a', h1, h2⟩ := h
 unfold planQuiet at hp
 split at hp
 ·rename_i es hpl
  unfold planOrder at hl
  rw [hpl] at hl
  subst hl
  exact ⟨n + 1, .normal, a', by simp only [code, drawn_runL hpl, runL_runO, runO_opers, h1], h2⟩
 ·cases hp

/-- one operation that is no call. -/
def pstep (E : Env) (all : List Oper) (a : Act) (o : Oper) : Option Act :=
 bif wanted a all o then (match plainOp E a.m a.eval o.op with | some (_, v, m') => ({ a with m := m' } : Act).put o.dst v | none => none) else a.put o.dst undef

theorem pstep_step {call : CallFn} {all : List Oper} {a a' : Act} {o : Oper} (h : pstep E all a o = some a') : ∃ q, stepOp E call all a o = some (q, a') := by
 unfold pstep at h
 unfold stepOp
 cases hw : wanted a all o with
 | false => rw [hw] at h; simp only [cond_false] at h ⊢; rw [h]; exact ⟨_, rfl⟩
 | true =>
  rw [hw] at h
  simp only [cond_true] at h ⊢
  unfold oper
  split at h
  ·rename_i q v m' hp
   simp only [hp, h]
   exact ⟨_, rfl⟩
  ·cases h

theorem ewpO_nil {all : List Oper} (h : ret E k .normal a Q) : wpO E all [] k a Q := ⟨0, a, rfl, h⟩
theorem ewpO_plain {all l : List Oper} {o : Oper} {a' : Act} (hp : pstep E all a o = some a') (h : wpO E all l k a' Q) : wpO E all (o :: l) k a Q := by
 obtain ⟨n, a2, h1, h2⟩ := h
 obtain ⟨q, hq⟩ := pstep_step (call := call E n) hp
 exact ⟨n, a2, by simp only [opers, hq]; exact h1, h2⟩

theorem plainOp_value {m : Mem} {ρ : Rho} {c : Go.Call} {f : Operand} (hc : c.callee = .value f) : plainOp E m ρ (.call c) = none := by
 unfold plainOp
 simp only [quiet, hc, allocs, effect]

theorem ewpO_call {all l : List Oper} {d : Option Tmp} {c : Go.Call} {f : Operand} {t : TypeId} {pos : String} {af : Array Edge} {gd : Option (Nat × Bool)} {g : Nat} {args : List Value} {R : Value → Mem → Prop}
  (hw : wanted a all ⟨d, .call c, t, pos, af, gd⟩ = true) (hc : c.callee = .value f) (ht : target a.eval c = some (g, args))
  (hr : Runs E g args a.m R) (h : ∀ v m', R v m' → ∃ a', ({ a with m := m' } : Act).put d v = some a' ∧ wpO E all l k a' Q) : wpO E all (⟨d, .call c, t, pos, af, gd⟩ :: l) k a Q := by
 obtain ⟨n, v, m', h1, h2⟩ := hr
 obtain ⟨a', h3, n2, a2, h4, h5⟩ := h v m' h2
 refine ⟨max n n2, a2, ?_, h5⟩
 have hs : stepOp E (call E (max n n2)) all a ⟨d, .call c, t, pos, af, gd⟩ = some (2, a') := by
  unfold stepOp
  rw [hw, cond_true]
  unfold oper
  rw [plainOp_value hc]
  simp only [ht, call_fuel (Nat.le_max_left n n2) h1, h3]
 simp only [opers, hs]
 exact opers_mono (cle (Nat.le_max_right n n2)) h4

theorem ewpO_defer {all l : List Oper} {d : Option Tmp} {c : Go.Call} {t : TypeId} {pos : String} {af : Array Edge} {gd : Option (Nat × Bool)} {a' : Act} {q : Nat × List Value}
  (hw : wanted a all ⟨d, .defer c, t, pos, af, gd⟩ = true) (ht : target a.eval c = some q) (hput : ({ a with defers := q :: a.defers } : Act).put d undef = some a') (h : wpO E all l k a' Q) : wpO E all (⟨d, .defer c, t, pos, af, gd⟩ :: l) k a Q := by
 obtain ⟨n, a2, h4, h5⟩ := h
 refine ⟨n, a2, ?_, h5⟩
 have hs : stepOp E (call E n) all a ⟨d, .defer c, t, pos, af, gd⟩ = some (2, a') := by
  unfold stepOp
  rw [hw, cond_true]
  unfold oper plainOp
  simp only [quiet, allocs, effect, ht, hput]
 simp only [opers, hs]
 exact h4
end

/-- deferred calls, the last one first. -/
def runsDs (E : Env) : List (Nat × List Value) → Mem → (Mem → Prop) → Prop
 | [], m, Q => Q m
 | (f, args) :: l, m, Q => RunsD E f args m fun m' => runsDs E l m' Q

theorem runsDs_some : ∀ {l : List (Nat × List Value)} {m : Mem} {Q : Mem → Prop}, runsDs E l m Q → ∃ n m', defers (callD E n) l m = some m' ∧ Q m'
 | [], m, Q, h => ⟨0, m, rfl, h⟩
 | (f, args) :: l, m, Q, h => by
  obtain ⟨n, m', h1, h2⟩ := h
  obtain ⟨n2, m2, h3, h4⟩ := runsDs_some h2
  refine ⟨max n n2, m2, ?_, h4⟩
  simp only [defers, callD_fuel (Nat.le_max_left n n2) h1]
  exact defers_mono (fun f args m r h => callD_fuel (Nat.le_max_right n n2) h) h3

/-- the end of a function. -/
def fin (E : Env) (rs : List ResultVar) (Q : Value → Mem → Prop) (ex : Ex) (a : Act) : Prop :=
 (match ex with | .normal => True | .ret => True | _ => False) ∧ runsDs E a.defers a.m fun m' => ∃ vs, results E { a with m := m' } rs = some vs ∧ Q (one vs) m'

theorem runs_of {f : Nat} {fn : Func} {c : Code} {args : List Value} {m : Mem} {Q : Value → Mem → Prop} (hk : knownOf E.known f args = none) (hf : E.funcs.get f = some fn) (hb : fn.body = some c)
  (hn : (Nat.ble args.length fn.ntmps && Nat.ble fn.ntmps 1000000000) = true) (h : wp E c [] { tmps := ofListFrom .leaf 0 args, n := fn.ntmps, defers := [], m := m } (fin E fn.results.toList Q)) : Runs E f args m Q := by
 obtain ⟨n, ex, a', h1, h2, h3⟩ := h
 obtain ⟨n2, m2, h4, vs, h5, h6⟩ := runsDs_some h3
 refine ⟨max n n2 + 1, one vs, m2, ?_, h6⟩
 simp only [call, hk, hf, hb, hn, cond_true]
 have : ended (code E (max n n2) c { tmps := ofListFrom .leaf 0 args, n := fn.ntmps, defers := [], m := m }) = some a' := by
  rw [code_fuel (Nat.le_max_left n n2) h1]
  cases ex <;> first | rfl | exact absurd h2 id
 simp only [this, defers_mono (fun f args m r h => callD_fuel (Nat.le_max_right n n2) h) h4, h5]

/-- the end of a deferred function. -/
def finD (E : Env) (rs : List ResultVar) (Q : Mem → Prop) (ex : Ex) (a : Act) : Prop :=
 (match ex with | .normal => True | .ret => True | _ => False) ∧ a.defers = [] ∧ (∃ vs, results E a rs = some vs) ∧ Q a.m

theorem runsD_of {f : Nat} {fn : Func} {c : Code} {args : List Value} {m : Mem} {Q : Mem → Prop} (hf : E.funcs.get f = some fn) (hb : fn.body = some c)
  (hn : (Nat.ble args.length fn.ntmps && Nat.ble fn.ntmps 1000000000) = true) (h : wp E c [] { tmps := ofListFrom .leaf 0 args, n := fn.ntmps, defers := [], m := m } (finD E fn.results.toList Q)) : RunsD E f args m Q := by
 obtain ⟨n, ex, a', h1, h2, h3, ⟨vs, h5⟩, h6⟩ := h
 refine ⟨n + 1, a'.m, ?_, h6⟩
 simp only [callD, hf, hb, hn, cond_true, h1]
 cases ex <;> first | exact absurd h2 id | (simp only [ended, h3, List.isEmpty_nil, cond_true, h5])
end Go.Ev

namespace Go.Ev
set_option linter.unusedSimpArgs false
set_option linter.unusedVariables false
variable {E : Env}

def Act.upd (a : Act) (d : Nat) (v : Value) : Act := { a with tmps := a.tmps.set (d + 1) d v }
def Act.mem (a : Act) (m : Mem) : Act := { a with m := m }
def Act.push (a : Act) (q : Nat × List Value) : Act := { a with defers := q :: a.defers }
def Act.start (args : List Value) (n : Nat) (m : Mem) : Act := { tmps := ofListFrom .leaf 0 args, n := n, defers := [], m := m }

theorem tmp_upd (a : Act) (d j : Nat) (v : Value) : (a.upd d v).tmp j = if d = j then v else a.tmp j := by
 unfold Act.tmp Act.upd
 by_cases h : d = j
 ·subst h
  simp only [if_true]
  rw [Tree.get_set_same _ _ _ _ Nat.lt_two_pow_self]
 ·simp only [if_neg h]
  rw [Tree.get_set_other _ _ _ _ _ h]
theorem tmp_mem (a : Act) (m : Mem) (j : Nat) : (a.mem m).tmp j = a.tmp j := rfl
theorem tmp_push (a : Act) (q : Nat × List Value) (j : Nat) : (a.push q).tmp j = a.tmp j := rfl
theorem m_upd (a : Act) (d : Nat) (v : Value) : (a.upd d v).m = a.m := rfl
theorem m_mem (a : Act) (m : Mem) : (a.mem m).m = m := rfl
theorem m_push (a : Act) (q : Nat × List Value) : (a.push q).m = a.m := rfl
theorem n_upd (a : Act) (d : Nat) (v : Value) : (a.upd d v).n = a.n := rfl
theorem n_mem (a : Act) (m : Mem) : (a.mem m).n = a.n := rfl
theorem n_push (a : Act) (q : Nat × List Value) : (a.push q).n = a.n := rfl
theorem d_upd (a : Act) (d : Nat) (v : Value) : (a.upd d v).defers = a.defers := rfl
theorem d_mem (a : Act) (m : Mem) : (a.mem m).defers = a.defers := rfl
theorem d_push (a : Act) (q : Nat × List Value) : (a.push q).defers = q :: a.defers := rfl
theorem m_start (args : List Value) (n : Nat) (m : Mem) : (Act.start args n m).m = m := rfl
theorem n_start (args : List Value) (n : Nat) (m : Mem) : (Act.start args n m).n = n := rfl
theorem d_start (args : List Value) (n : Nat) (m : Mem) : (Act.start args n m).defers = [] := rfl

theorem get_ofList : ∀ (l : List Value) (c : Tree Value) (i j : Nat), (ofListFrom c i l).get j = if i ≤ j ∧ j < i + l.length then l[j - i]? else c.get j
 | [], c, i, j => by simp only [ofListFrom, List.length_nil, Nat.add_zero]; rw [if_neg (by omega)]
 | v :: l, c, i, j => by
  simp only [ofListFrom]
  rw [get_ofList l]
  simp only [List.length_cons]
  by_cases hj : i + 1 ≤ j ∧ j < i + 1 + l.length
  ·rw [if_pos hj, if_pos (by omega), show j - i = (j - (i + 1)) + 1 by omega]; rfl
  ·rw [if_neg hj]
   by_cases hij : i = j
   ·subst hij
    rw [Tree.get_set_same _ _ _ _ Nat.lt_two_pow_self, if_pos (by omega)]; simp
   ·rw [Tree.get_set_other _ _ _ _ _ hij, if_neg (by omega)]

theorem tmp_start (args : List Value) (n : Nat) (m : Mem) (j : Nat) : (Act.start args n m).tmp j = args.getD j undef := by
 unfold Act.tmp Act.start
 simp only
 rw [get_ofList]
 by_cases h : j < args.length
 ·rw [if_pos ⟨Nat.zero_le _, by omega⟩, Nat.sub_zero, List.getD, List.getElem?_eq_getElem h]; rfl
 ·rw [if_neg (by omega), Tree.get_leaf, List.getD, List.getElem?_eq_none (by omega)]; rfl

theorem ev_tmp (a : Act) (t : Nat) : a.eval (.tmp t) = a.tmp t := rfl
theorem ev_const (a : Act) (v : Value) : a.eval (.const v) = v := rfl
theorem ev_global (a : Act) (g : Nat) : a.eval (.global g) = .pointer (some ⟨g, 0, none⟩) := rfl
theorem ev_func (a : Act) (f : Nat) : a.eval (.func f) = .func (.func f) #[] #[] := rfl

section
variable {all l : List Oper} {k : List Kont} {a : Act} {Q : Ex → Act → Prop} {d : Nat} {op : Op} {t : TypeId} {pos : String} {af : Array Edge} {gd : Option (Nat × Bool)} {v : Value}

/-- wanted: no guard. -/
theorem want_none {dst : Option Tmp} : wanted a all ⟨dst, op, t, pos, af, none⟩ = true := rfl
theorem want_some {dst : Option Tmp} {j : Nat} {r b b' : Bool} {oj : Oper} {dj : Nat} (h1 : nth all j = some oj) (h2 : oj.dst = some dj) (h3 : a.tmp dj = .bool b) (h4 : (b == b') = r) : wanted a all ⟨dst, op, t, pos, af, some (j, b')⟩ = r := by
 unfold wanted
 simp only [h1, h2, h3, h4]

theorem want_undef {dst : Option Tmp} {j : Nat} {b' : Bool} {oj : Oper} {dj : Nat} (h1 : nth all j = some oj) (h2 : oj.dst = some dj) (h3 : a.tmp dj = undef) : wanted a all ⟨dst, op, t, pos, af, some (j, b')⟩ = false := by
 unfold wanted
 simp only [h1, h2, h3]
 rfl

theorem put_some (h : Nat.blt d a.n = true) : a.put (some d) v = some (a.upd d v) := by
 simp only [Act.put, h, cond_true]; rfl

theorem ewpO_quiet (hw : wanted a all ⟨some d, op, t, pos, af, gd⟩ = true) (hq : quiet E a.m a.eval op = some v) (hd : Nat.blt d a.n = true) (h : wpO E all l k (a.upd d v) Q) :
  wpO E all (⟨some d, op, t, pos, af, gd⟩ :: l) k a Q := by
 refine ewpO_plain (a' := a.upd d v) ?_ h
 unfold pstep
 rw [hw, cond_true]
 simp only [plainOp, hq]
 exact put_some hd
theorem ewpO_quiet0 (hw : wanted a all ⟨none, op, t, pos, af, gd⟩ = true) (hq : quiet E a.m a.eval op = some v) (h : wpO E all l k a Q) :
  wpO E all (⟨none, op, t, pos, af, gd⟩ :: l) k a Q := by
 refine ewpO_plain (a' := a) ?_ h
 unfold pstep
 rw [hw, cond_true]
 simp only [plainOp, hq]
 rfl
theorem ewpO_skip (hw : wanted a all ⟨some d, op, t, pos, af, gd⟩ = false) (hd : Nat.blt d a.n = true) (h : wpO E all l k (a.upd d undef) Q) :
  wpO E all (⟨some d, op, t, pos, af, gd⟩ :: l) k a Q := by
 refine ewpO_plain (a' := a.upd d undef) ?_ h
 unfold pstep
 rw [hw, cond_false]
 exact put_some hd
theorem ewpO_skip0 (hw : wanted a all ⟨none, op, t, pos, af, gd⟩ = false) (h : wpO E all l k a Q) :
  wpO E all (⟨none, op, t, pos, af, gd⟩ :: l) k a Q := by
 refine ewpO_plain (a' := a) ?_ h
 unfold pstep
 rw [hw, cond_false]
 rfl
theorem ewpO_alloc {m' : Mem} (hw : wanted a all ⟨some d, op, t, pos, af, gd⟩ = true) (hn : quiet E a.m a.eval op = none) (hq : allocs E a.m a.eval op = some (v, m')) (hd : Nat.blt d a.n = true) (h : wpO E all l k ((a.mem m').upd d v) Q) :
  wpO E all (⟨some d, op, t, pos, af, gd⟩ :: l) k a Q := by
 refine ewpO_plain (a' := (a.mem m').upd d v) ?_ h
 unfold pstep
 rw [hw, cond_true]
 simp only [plainOp, hn, hq]
 exact put_some (a := a.mem m') hd
theorem ewpO_effect {m' : Mem} (hw : wanted a all ⟨some d, op, t, pos, af, gd⟩ = true) (hn : quiet E a.m a.eval op = none) (hn2 : allocs E a.m a.eval op = none) (hq : effect E a.m a.eval op = some (v, m')) (hd : Nat.blt d a.n = true) (h : wpO E all l k ((a.mem m').upd d v) Q) :
  wpO E all (⟨some d, op, t, pos, af, gd⟩ :: l) k a Q := by
 refine ewpO_plain (a' := (a.mem m').upd d v) ?_ h
 unfold pstep
 rw [hw, cond_true]
 simp only [plainOp, hn, hn2, hq]
 exact put_some (a := a.mem m') hd
theorem ewpO_effect0 {m' : Mem} (hw : wanted a all ⟨none, op, t, pos, af, gd⟩ = true) (hn : quiet E a.m a.eval op = none) (hn2 : allocs E a.m a.eval op = none) (hq : effect E a.m a.eval op = some (v, m')) (h : wpO E all l k (a.mem m') Q) :
  wpO E all (⟨none, op, t, pos, af, gd⟩ :: l) k a Q := by
 refine ewpO_plain (a' := a.mem m') ?_ h
 unfold pstep
 rw [hw, cond_true]
 simp only [plainOp, hn, hn2, hq]
 rfl
theorem ewpO_run {c : Go.Call} {f : Operand} {g : Nat} {args : List Value} {R : Value → Mem → Prop} (hw : wanted a all ⟨some d, .call c, t, pos, af, gd⟩ = true) (hc : c.callee = .value f) (ht : target a.eval c = some (g, args))
  (hr : Runs E g args a.m R) (hd : Nat.blt d a.n = true) (h : ∀ v m', R v m' → wpO E all l k ((a.mem m').upd d v) Q) : wpO E all (⟨some d, .call c, t, pos, af, gd⟩ :: l) k a Q :=
 ewpO_call hw hc ht hr fun v m' hv => ⟨_, put_some (a := a.mem m') hd, h v m' hv⟩
theorem ewpO_run0 {c : Go.Call} {f : Operand} {g : Nat} {args : List Value} {R : Value → Mem → Prop} (hw : wanted a all ⟨none, .call c, t, pos, af, gd⟩ = true) (hc : c.callee = .value f) (ht : target a.eval c = some (g, args))
  (hr : Runs E g args a.m R) (h : ∀ v m', R v m' → wpO E all l k (a.mem m') Q) : wpO E all (⟨none, .call c, t, pos, af, gd⟩ :: l) k a Q :=
 ewpO_call hw hc ht hr fun v m' hv => ⟨_, rfl, h v m' hv⟩
end

/-! The quiet operations, by their kinds. -/
section
variable {m : Mem} {ρ : Rho} {v : Value} {x y : Operand} {t : TypeId}
theorem sq_move (h : ρ x = v) : quiet E m ρ (.move x) = some v := by rw [← h]; rfl
theorem sq_assign (h : ρ x = v) : quiet E m ρ (.assign x) = some v := by rw [← h]; rfl
theorem sq_pickT {c : Operand} (hc : ρ c = .bool true) (h : ρ x = v) : quiet E m ρ (.pick c x y) = some v := by simp only [quiet, hc, h]
theorem sq_pickF {c : Operand} (hc : ρ c = .bool false) (h : ρ y = v) : quiet E m ρ (.pick c x y) = some v := by simp only [quiet, hc, h]
theorem sq_load {b o : Nat} (h : ρ x = .pointer (some ⟨b, o, none⟩)) (hl : loadAt E m t b o = some v) : quiet E m ρ (.load t x) = some v := by simp only [quiet, h, hl]
theorem sq_nil {a : Addr} (h : ρ x = .pointer (some a)) : quiet E m ρ (.nilCheck x) = some (.pointer (some a)) := by simp only [quiet, h]
theorem sq_bin {op : BinOp} {p q : Value} {ty : TypeId} (hx : ρ x = p) (hy : ρ y = q) (h : binOp E m op t p q = some v) : quiet E m ρ (.binOp op t x y ty) = some v := by simp only [quiet, hx, hy, h]
theorem sq_un {op : UnOp} {p : Value} (hx : ρ x = p) (h : unOp op p = some v) : quiet E m ρ (.unOp op t x) = some v := by simp only [quiet, hx, h]
theorem sq_extract {l : List Value} {i : Nat} (hx : ρ x = .tuple ⟨l⟩) (h : nth l i = some v) : quiet E m ρ (.extract x i) = some v := by simp only [quiet, hx, h]
theorem sq_fieldAddr {fs : Array Field} {b o f : Nat} {fd : Field} {sz : Nat} (hu : E.under t = some (.struct fs)) (hx : ρ x = .pointer (some ⟨b, o, none⟩)) (hf : nth fs.toList f = some fd) (hs : E.size fd.type = some (sz + 1)) :
  quiet E m ρ (.fieldAddr t x f) = some (.pointer (some ⟨b, o + fd.offset, none⟩)) := by simp only [quiet, hu, hx, hf, hs]
theorem sq_indexAddr {e b o len cap j sz : Nat} {kd : IntKind} (hu : E.under t = some (.slice e)) (hx : ρ x = .slice (some ⟨b, o, none⟩) len cap) (hi : ρ y = .int kd (Int.ofNat j)) (hj : j < len) (hs : E.size e = some sz) :
  quiet E m ρ (.indexAddr t x y) = some (.pointer (some ⟨b, o + j * sz, none⟩)) := by
 simp only [quiet, hu, hx, hi, hs, show Nat.blt j len = true by simpa [Nat.blt_eq] using hj, cond_true]
theorem sq_indexAddrA {e b o len j sz : Nat} {kd : IntKind} (hu : E.under t = some (.array len e)) (hx : ρ x = .pointer (some ⟨b, o, none⟩)) (hi : ρ y = .int kd (Int.ofNat j)) (hj : j < len) (hs : E.size e = some sz) :
  quiet E m ρ (.indexAddr t x y) = some (.pointer (some ⟨b, o + j * sz, none⟩)) := by
 simp only [quiet, hu, hx, hi, hs, show Nat.blt j len = true by simpa [Nat.blt_eq] using hj, cond_true]
theorem sq_indexS {s : List UInt8} {j : Nat} {kd : IntKind} {c : UInt8} (hu : E.under t = some .string) (hx : ρ x = .string ⟨⟨s⟩⟩) (hi : ρ y = .int kd (Int.ofNat j)) (hc : nth s j = some c) :
  quiet E m ρ (.index t x y) = some (.int .u8 c.toNat) := by simp only [quiet, hu, hx, hi, hc]
theorem sq_field1 {fs : Array Field} {l : List Value} {f : Nat} {fd : Field} {k : Nat} {d : TypeDesc} (hu : E.under t = some (.struct fs)) (hx : ρ x = .agg ⟨l⟩) (hf : nth fs.toList f = some fd) (hs : E.size fd.type = some k) (hd : E.under fd.type = some d) (ha : isAggD d = false) (hv : nth l fd.offset = some v) :
  quiet E m ρ (.field t x f) = some v := by simp only [quiet, hu, hx, hf, hs, hd, ha, cond_false, hv]
theorem sq_fieldA {fs : Array Field} {l : List Value} {f : Nat} {fd : Field} {k : Nat} {d : TypeDesc} {l' : List Value} (hu : E.under t = some (.struct fs)) (hx : ρ x = .agg ⟨l⟩) (hf : nth fs.toList f = some fd) (hs : E.size fd.type = some k) (hd : E.under fd.type = some d) (ha : isAggD d = true) (hv : (l.drop fd.offset).take k = l') :
  quiet E m ρ (.field t x f) = some (.agg ⟨l'⟩) := by simp only [quiet, hu, hx, hf, hs, hd, ha, cond_true, hv]
theorem sq_lenS {c : Go.Call} {s : List UInt8} (hc : c.callee = .builtin .len) (ht : c.argTypes.toList = [t]) (hx : c.args.toList = [x]) (hu : E.under t = some .string) (h : ρ x = .string ⟨⟨s⟩⟩) : quiet E m ρ (.call c) = some (.int .i64 s.length) := by
 simp only [quiet, hc, ht, hx, hu, h]
theorem sq_len {c : Go.Call} {a : Option Addr} {n cap e : Nat} (hc : c.callee = .builtin .len) (ht : c.argTypes.toList = [t]) (hx : c.args.toList = [x]) (hu : E.under t = some (.slice e)) (h : ρ x = .slice a n cap) : quiet E m ρ (.call c) = some (.int .i64 n) := by
 simp only [quiet, hc, ht, hx, hu, h]
theorem sq_max {c : Go.Call} {kd kd' : IntKind} {p q r : Int} (hc : c.callee = .builtin .max) (hx : c.args.toList = [x, y]) (h1 : ρ x = .int kd p) (h2 : ρ y = .int kd' q) (hr : max p q = r) : quiet E m ρ (.call c) = some (.int kd r) := by
 simp only [quiet, hc, hx, h1, h2, ← hr]
 congr 2
 by_cases h : q > p
 ·rw [if_pos h, Int.max_eq_right (by omega)]
 ·rw [if_neg h, Int.max_eq_left (by omega)]
theorem sq_min {c : Go.Call} {kd kd' : IntKind} {p q r : Int} (hc : c.callee = .builtin .min) (hx : c.args.toList = [x, y]) (h1 : ρ x = .int kd p) (h2 : ρ y = .int kd' q) (hr : min p q = r) : quiet E m ρ (.call c) = some (.int kd r) := by
 simp only [quiet, hc, hx, h1, h2, ← hr]
 congr 2
 by_cases h : q < p
 ·rw [if_pos h, Int.min_eq_right (by omega)]
 ·rw [if_neg h, Int.min_eq_left (by omega)]

/-! Numbers. -/
def in64 (n : Int) : Prop := -9223372036854775808 ≤ n ∧ n ≤ 9223372036854775807
theorem b_add {a b r : Int} (hr : a + b = r) (h : -9223372036854775808 ≤ r ∧ r ≤ 9223372036854775807) : binOp E m .add t (.int .i64 a) (.int .i64 b) = some (.int .i64 r) := by
 subst hr
 simp only [binOp, isTok, Bool.or_self, cond_false, binOp0, intOp, if_true]
 rw [show IntKind.i64.wrap (a + b) = a + b by unfold IntKind.wrap; simp [IntKind.bits, IntKind.signed]; omega]
theorem b_sub {a b r : Int} (hr : a - b = r) (h : -9223372036854775808 ≤ r ∧ r ≤ 9223372036854775807) : binOp E m .sub t (.int .i64 a) (.int .i64 b) = some (.int .i64 r) := by
 subst hr
 simp only [binOp, isTok, Bool.or_self, cond_false, binOp0, intOp, if_true]
 rw [show IntKind.i64.wrap (a - b) = a - b by unfold IntKind.wrap; simp [IntKind.bits, IntKind.signed]; omega]
theorem b_lss {kd : IntKind} {a b : Int} {r : Bool} (hr : decide (a < b) = r) : binOp E m .lss t (.int kd a) (.int kd b) = some (.bool r) := by subst hr; simp only [binOp, isTok, Bool.or_self, cond_false, binOp0, intOp, if_true]
theorem b_leq {kd : IntKind} {a b : Int} {r : Bool} (hr : decide (a ≤ b) = r) : binOp E m .leq t (.int kd a) (.int kd b) = some (.bool r) := by subst hr; simp only [binOp, isTok, Bool.or_self, cond_false, binOp0, intOp, if_true]
theorem b_gtr {kd : IntKind} {a b : Int} {r : Bool} (hr : decide (b < a) = r) : binOp E m .gtr t (.int kd a) (.int kd b) = some (.bool r) := by subst hr; simp only [binOp, isTok, Bool.or_self, cond_false, binOp0, intOp, if_true, GT.gt]
theorem b_geq {kd : IntKind} {a b : Int} {r : Bool} (hr : decide (b ≤ a) = r) : binOp E m .geq t (.int kd a) (.int kd b) = some (.bool r) := by subst hr; simp only [binOp, isTok, Bool.or_self, cond_false, binOp0, intOp, if_true, GE.ge]
theorem b_eql {kd : IntKind} {a b : Int} {r : Bool} (hr : decide (a = b) = r) : binOp E m .eql t (.int kd a) (.int kd b) = some (.bool r) := by subst hr; simp only [binOp, isTok, Bool.or_self, cond_false, binOp0, intOp, if_true]; rfl
theorem b_neq {kd : IntKind} {a b : Int} {r : Bool} (hr : (!decide (a = b)) = r) : binOp E m .neq t (.int kd a) (.int kd b) = some (.bool r) := by subst hr; simp only [binOp, isTok, Bool.or_self, cond_false, binOp0, intOp, if_true]; rfl
theorem b_seql {a b : List UInt8} {r : Bool} (hr : bytesEq a b = r) : binOp E m .eql t (.string ⟨⟨a⟩⟩) (.string ⟨⟨b⟩⟩) = some (.bool r) := by subst hr; simp only [binOp, isTok, Bool.or_self, cond_false, binOp0, strOp]
theorem b_sneq {a b : List UInt8} {r : Bool} (hr : (!bytesEq a b) = r) : binOp E m .neq t (.string ⟨⟨a⟩⟩) (.string ⟨⟨b⟩⟩) = some (.bool r) := by subst hr; simp only [binOp, isTok, Bool.or_self, cond_false, binOp0, strOp]
theorem u_not {b r : Bool} (hr : (!b) = r) : unOp .not (.bool b) = some (.bool r) := by subst hr; rfl

/-! Loads. -/
theorem load_cell {b o n ty kd : Nat} {c : Tree Value} {d : TypeDesc} (hu : E.under t = some d) (ha : isAggD d = false) (hm : m.get b = some (.cells n c ty kd)) (ho : o < n) (hv : c.get o = some v) : loadAt E m t b o = some v := by
 simp only [loadAt, hu, hm, ha, cond_false, show Nat.blt o n = true by simpa [Nat.blt_eq] using ho, cond_true, hv]
theorem load_agg {b o n ty kd k : Nat} {c : Tree Value} {d : TypeDesc} {l : List Value} (hu : E.under t = some d) (ha : isAggD d = true) (hs : E.size t = some k) (hm : m.get b = some (.cells n c ty kd)) (ho : o + k ≤ n) (hv : cellsFrom c o k = some l) : loadAt E m t b o = some (.agg ⟨l⟩) := by
 simp only [loadAt, hu, hm, ha, hs, cond_true, Nat.ble_eq_true_of_le ho, hv]
end

theorem runs_start {f : Nat} {fn : Func} {c : Code} {args : List Value} {m : Mem} {Q : Value → Mem → Prop} (hk : knownOf E.known f args = none) (hf : E.funcs.get f = some fn) (hb : fn.body = some c)
  (hn : (Nat.ble args.length fn.ntmps && Nat.ble fn.ntmps 1000000000) = true) (h : wp E c [] (Act.start args fn.ntmps m) (fin E fn.results.toList Q)) : Runs E f args m Q := runs_of hk hf hb hn h

/-- the end of a function that defers nothing and whose results are temporaries. -/
theorem fin_ret {rs : List ResultVar} {Q : Value → Mem → Prop} {a : Act} {vs : List Value} (hd : a.defers = []) (hr : results E a rs = some vs) (h : Q (one vs) a.m) : fin E rs Q .ret a := by
 obtain ⟨tm, n, ds, m⟩ := a
 cases hd
 exact ⟨trivial, vs, hr, h⟩
theorem fin_normal {rs : List ResultVar} {Q : Value → Mem → Prop} {a : Act} {vs : List Value} (hd : a.defers = []) (hr : results E a rs = some vs) (h : Q (one vs) a.m) : fin E rs Q .normal a := by
 obtain ⟨tm, n, ds, m⟩ := a
 cases hd
 exact ⟨trivial, vs, hr, h⟩
theorem res_nil {a : Act} : results E a [] = some [] := rfl
theorem res_tmp {a : Act} {t : Nat} {l : List ResultVar} {r : List Value} {v : Value} (hv : a.tmp t = v) (h : results E a l = some r) : results E a (.tmp t :: l) = some (v :: r) := by simp only [results, h, hv]
theorem res_cell {a : Act} {t ty b o : Nat} {l : List ResultVar} {r : List Value} {v : Value} (hv : a.tmp t = .pointer (some ⟨b, o, none⟩)) (hl : loadAt E a.m ty b o = some v) (h : results E a l = some r) : results E a (.cell t ty :: l) = some (v :: r) := by simp only [results, hv, hl, h]

inductive EvalL (ρ : Rho) : List Operand → List Value → Prop where
 | nil : EvalL ρ [] []
 | cons {x : Operand} {v : Value} {l : List Operand} {r : List Value} (h : ρ x = v) (hl : EvalL ρ l r) : EvalL ρ (x :: l) (v :: r)
theorem EvalL.map {ρ : Rho} : ∀ {l : List Operand} {r : List Value}, EvalL ρ l r → l.map ρ = r
 | _, _, .nil => rfl
 | _, _, .cons h hl => by rw [List.map_cons, h, EvalL.map hl]
theorem target_of {ρ : Rho} {c : Go.Call} {f : Operand} {g : Nat} {first cap vs : List Value} (hc : c.callee = .value f) (hf : ρ f = .func (.func g) ⟨first⟩ ⟨cap⟩) (ha : EvalL ρ c.args.toList vs) : target ρ c = some (g, first ++ vs ++ cap) := by
 simp only [target, hc, hf, ha.map]

theorem nadd1 (x : Nat) : (x : Int) + 1 = ((x + 1 : Nat) : Int) := rfl
theorem nadd2 (x : Nat) : (x : Int) + 2 = ((x + 2 : Nat) : Int) := rfl
theorem nadd3 (x : Nat) : (x : Int) + 3 = ((x + 3 : Nat) : Int) := rfl
theorem nadd (x y : Nat) : (x : Int) + (y : Int) = ((x + y : Nat) : Int) := rfl
theorem nladd1 (x : Nat) : 1 + (x : Int) = ((x + 1 : Nat) : Int) := by omega
theorem nladd2 (x : Nat) : 2 + (x : Int) = ((x + 2 : Nat) : Int) := by omega
theorem nladd3 (x : Nat) : 3 + (x : Int) = ((x + 3 : Nat) : Int) := by omega
theorem nsub1 (x : Nat) (h : 1 ≤ x) : (x : Int) - 1 = ((x - 1 : Nat) : Int) := by omega
theorem nsub (x y : Nat) (h : y ≤ x) : (x : Int) - (y : Int) = ((x - y : Nat) : Int) := by omega
theorem neq_true {a b : Int} (h : a ≠ b) : (!decide (a = b)) = true := by simp [h]
theorem neq_false {a b : Int} (h : a = b) : (!decide (a = b)) = false := by simp [h]
attribute [irreducible] Act.upd Act.mem Act.push Act.start
end Go.Ev
