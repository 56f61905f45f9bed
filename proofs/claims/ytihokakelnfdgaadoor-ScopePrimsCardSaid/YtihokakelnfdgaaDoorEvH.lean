/- Part of an evaluator for closed runs, and of its proof (EvH). -/
import Derived.Test.YtihokakelnfdgaaDoorEvF
import Derived.LoopN
import Derived.Scope
namespace Go.Ev
open Go.RowKit
set_option linter.unusedVariables false
set_option linter.unusedSectionVars false
variable [Sym]

section
variable {E : Env} {G : Nat} {w0 w : World} {φ : Phi} {m : Mem}

theorem results_sound (hE : EnvOk E G) {a : Act} {ac : Go.Act} (hA : ActR φ a ac) (hR : Rel E.P G w0 φ a.m w) : ∀ (l : List ResultVar) (vs : List Value), results E a l = some vs →
    ∃ vs', (l.mapM (m := Sem) fun | .tmp t => pure (ac.tmps.getD t undef) | .cell a t => do loadVar t (← asAddr (ac.tmps.getD a undef))).run E.P w = .ok vs' w ∧ VRs φ vs vs'
  | [], vs, h => by
    simp only [results, Option.some.injEq] at h
    subst h
    exact ⟨[], rfl, .nil⟩
  | .tmp t :: l, vs, h => by
    simp only [results] at h
    split at h
    · cases h
    · rename_i r hr
      cases h
      obtain ⟨vs', h1, h2⟩ := results_sound hE hA hR l r hr
      refine ⟨_, ?_, .cons (hA.tmps t) h2⟩
      simp only [List.mapM_cons, Sem.run_bind, Sem.run_pure, Result.andThen_ok, h1]
  | .cell t ty :: l, vs, h => by
    simp only [results] at h
    split at h
    · rename_i b o ht
      split at h
      · rename_i v r hv hr
        cases h
        obtain ⟨vs', h1, h2⟩ := results_sound hE hA hR l r hr
        have hp := hA.tmps t
        rw [ht] at hp
        obtain ⟨b', hb, hφ⟩ := hp.ptr_inv
        obtain ⟨v', g1, g2⟩ := load_sound hE hR hv hφ
        refine ⟨v' :: vs', ?_, .cons g2 h2⟩
        have hasd : asAddr (ac.tmps.getD t undef) = pure ⟨b', o, none⟩ := by rw [hb]; rfl
        simp only [List.mapM_cons, Sem.run_bind, hasd, Sem.run_pure, Result.andThen_ok, g1, h1]
      · cases h
    · cases h

theorem results_run (hE : EnvOk E G) {a : Act} {ac : Go.Act} (hA : ActR φ a ac) (hR : Rel E.P G w0 φ a.m w) {fn : Func} {vs : List Value} (h : results E a fn.results.toList = some vs) :
    ∃ v', (Go.results fn ac.tmps).run E.P w = .ok v' w ∧ VR φ (one vs) v' := by
  obtain ⟨vs', h1, h2⟩ := results_sound hE hA hR _ _ h
  have hmap : (fn.results.mapM (m := Sem) fun | .tmp t => pure (ac.tmps.getD t undef) | .cell a t => do loadVar t (← asAddr (ac.tmps.getD a undef))).run E.P w = .ok ⟨vs'⟩ w := by
    rw [Array.mapM_eq_mapM_toList]
    simp only [Sem.run_map]
    rw [h1]
    rfl
  refine ⟨if h : (⟨vs'⟩ : Array Value).size = 1 then (⟨vs'⟩ : Array Value)[0] else .tuple ⟨vs'⟩, ?_, ?_⟩
  · unfold Go.results
    rw [Sem.run_bind]
    refine (congrArg (fun r => Result.andThen r _) hmap).trans ?_
    rfl
  · cases h2 with
    | nil => exact .tuple .nil
    | cons ha hl =>
      cases hl with
      | nil => exact ha
      | cons hb hl2 =>
        rw [dif_neg (by simp)]
        exact .tuple (.cons ha (.cons hb hl2))

/-- an exit in both. -/
inductive ExR : Ex → Exit → Prop where
  | normal : ExR .normal .normal
  | exit (id : Nat) : ExR (.exit id) (.exit id)
  | ret : ExR .ret .ret
  | goto (l : Nat) : ExR (.goto l) (.goto l)

/-- what may be said at a jump, so many jumps ahead. -/
def Jumps (P : Program) (c : Code) (Q : Exit → Go.Act → World → Prop) : Nat → Exit → Go.Act → World → Prop
  | 0, .goto l, a, w => findLabel c l = none ∧ Q (.goto l) a w
  | k + 1, .goto l, a, w => (findLabel c l = none ∧ Q (.goto l) a w) ∨ ∃ rest, findLabel c l = some rest ∧ rest.wp P (Jumps P c Q k) a w
  | _, e, a, w => Q e a w

theorem Jumps.other {P : Program} {c : Code} {Q : Exit → Go.Act → World → Prop} {k : Nat} {e : Exit} {a : Go.Act} {w : World} (he : ∀ l, e ≠ .goto l) : Jumps P c Q k e a w = Q e a w := by
  cases e with
  | goto l => exact absurd rfl (he l)
  | _ => cases k <;> rfl

theorem wp_scope_jumpy {P : Program} {c : Code} {Q : Exit → Go.Act → World → Prop} {a : Go.Act} {w : World} (k : Nat) (h : c.wp P (Jumps P c Q k) a w) : (Code.scope c).wp P Q a w := by
  intro b it cs
  have out : ∀ l, findLabel c l = none → gotoIn l (.inScope c :: it) = gotoIn l it := fun l hl => by simp [gotoIn, hl]
  have key : ∀ (k : Nat) (a : Go.Act) (w : World) (rest : Code), rest.wp P (Jumps P c Q k) a w →
      ∃ e a' w', Q e a' w' ∧ Arrives P (lone (b.at a (.code rest :: .inScope c :: it)) cs w) b it cs e a' w' := by
    intro k
    induction k with
    | zero =>
      intro a w rest hr
      obtain ⟨e, a₁, w₁, hq, harr⟩ := hr b (.inScope c :: it) cs
      cases e with
      | normal => exact ⟨.normal, a₁, w₁, hq, Steps.trans harr (.one step_inScope)⟩
      | exit id => exact ⟨.exit id, a₁, w₁, hq, fun k' hk => harr k' (by simp [exitTo, hk])⟩
      | goto l =>
        obtain ⟨hl, hQ⟩ := hq
        exact ⟨.goto l, a₁, w₁, hQ, fun k' hk => harr k' ((out l hl).trans hk)⟩
      | ret => exact ⟨_, a₁, w₁, hq, harr⟩
      | panic ch => exact ⟨_, a₁, w₁, hq, harr⟩
      | outgrown => exact ⟨_, a₁, w₁, hq, harr⟩
    | succ k ih =>
      intro a w rest hr
      obtain ⟨e, a₁, w₁, hq, harr⟩ := hr b (.inScope c :: it) cs
      cases e with
      | normal => exact ⟨.normal, a₁, w₁, hq, Steps.trans harr (.one step_inScope)⟩
      | exit id => exact ⟨.exit id, a₁, w₁, hq, fun k' hk => harr k' (by simp [exitTo, hk])⟩
      | goto l =>
        rcases hq with ⟨hl, hQ⟩ | ⟨rest', hl, hr'⟩
        · exact ⟨.goto l, a₁, w₁, hQ, fun k' hk => harr k' ((out l hl).trans hk)⟩
        · obtain ⟨e₂, a₂, w₂, hq₂, harr₂⟩ := ih a₁ w₁ rest' hr'
          have hg : gotoIn l (.inScope c :: it) = some (.code rest' :: .inScope c :: it) := by simp [gotoIn, hl]
          exact ⟨e₂, a₂, w₂, hq₂, .of_steps (harr _ hg) harr₂⟩
      | ret => exact ⟨_, a₁, w₁, hq, harr⟩
      | panic ch => exact ⟨_, a₁, w₁, hq, harr⟩
      | outgrown => exact ⟨_, a₁, w₁, hq, harr⟩
  obtain ⟨e, a₁, w₁, hq, harr⟩ := key k a w c h
  exact ⟨e, a₁, w₁, hq, .of_steps (.one step_scope) harr⟩

theorem findLabel_ok {G : Nat} : ∀ (c : Code) (l : Nat) (rest : Code), codeOk G c = true → findLabel c l = some rest → codeOk G rest = true
  | .seq a b, l, rest, hok, h => by
    simp only [codeOk, Bool.and_eq_true] at hok
    simp only [findLabel] at h
    split at h
    · rename_i r hr
      cases h
      simp only [codeOk, Bool.and_eq_true]
      exact ⟨findLabel_ok a l r hok.1 hr, hok.2⟩
    · exact findLabel_ok b l rest hok.2 h
  | .label l', l, rest, hok, h => by
    simp only [findLabel] at h
    split at h
    · cases h; rfl
    · cases h
  | .skip, _, _, _, h | .region .., _, _, _, h | .cond .., _, _, _, h | .block .., _, _, _, h | .loop .., _, _, _, h | .rangeFunc .., _, _, _, h | .exit .., _, _, _, h | .scope .., _, _, _, h | .goto .., _, _, _, h | .ret, _, _, _, h | .refuse .., _, _, _, h => by
    simp [findLabel] at h

/-- what is asked of the regions that draw their order. -/
def DrawnOk (E : Env) (G : Nat) (w0 : World) (call : CallFn) : Prop :=
  ∀ (id : Nat) (ops : List Oper) (a a' : Act) (ac : Go.Act) (φ : Phi) (w : World) (Q : Exit → Go.Act → World → Prop), ops.all (operOk G) = true → drawn E call ops a = some a' → ActR φ a ac → Rel E.P G w0 φ a.m w →
    (∀ φ' ac' w', Ext φ φ' a.m a'.m → ActR φ' a' ac' → Rel E.P G w0 φ' a'.m w' → Q .normal ac' w') → (Code.region id ⟨ops⟩ true).wp E.P Q ac w

def CodeOk (E : Env) (G : Nat) (w0 : World) (n : Nat) : Prop :=
  ∀ (c : Code) (a a' : Act) (ex : Ex) (ac : Go.Act) (φ : Phi) (w : World) (Q : Exit → Go.Act → World → Prop), codeOk G c = true → code E n c a = some (ex, a') → ActR φ a ac → Rel E.P G w0 φ a.m w →
    (∀ φ' ac' w' x, Ext φ φ' a.m a'.m → ActR φ' a' ac' → Rel E.P G w0 φ' a'.m w' → ExR ex x → Q x ac' w') → c.wp E.P Q ac w

def LoopOk (E : Env) (G : Nat) (w0 : World) (n : Nat) : Prop :=
  ∀ (c : Code) (a a' : Act) (ex : Ex) (ac : Go.Act) (φ : Phi) (w : World) (Q : Exit → Go.Act → World → Prop), codeOk G c = true → code E n (.loop c) a = some (ex, a') → ActR φ a ac → Rel E.P G w0 φ a.m w →
    (∀ φ' ac' w' x, Ext φ φ' a.m a'.m → ActR φ' a' ac' → Rel E.P G w0 φ' a'.m w' → ExR ex x → Q x ac' w') → Code.rounds E.P c Q n ac w

def CallDOk (E : Env) (G : Nat) (w0 : World) (callD : CallDFn) : Prop :=
  ∀ (g : Nat) (args args' : List Value) (m m' : Mem) (φ : Phi) (u : FrameMode) (w : World), callD g args m = some m' → VRs φ args args' → Rel E.P G w0 φ m w →
    (∃ fn, E.funcs.get g = some fn ∧ fn.body.isSome = true) ∧
    CallsD E.P g ⟨args'⟩ u w fun e u' w' => u' = u ∧ ∃ φ' v', e = .returned v' ∧ Ext φ φ' m m' ∧ Rel E.P G w0 φ' m' w'

theorem tmp_args {args args' : List Value} {n : Nat} (hle : args.length ≤ n) (hn : n ≤ 1000000000) (h : VRs φ args args') (m : Mem) :
    ActR φ { tmps := ofListFrom .leaf 0 args, n := n, defers := [], m := m } { tmps := (⟨args'⟩ : Array Value) ++ Array.replicate (n - (⟨args'⟩ : Array Value).size) undef, defers := [] } := by
  have hl := h.length
  refine ⟨?_, hn, fun t => ?_, .nil⟩
  · show ((⟨args'⟩ : Array Value) ++ Array.replicate (n - args'.length) undef).size = n
    rw [Array.size_append, Array.size_replicate]
    show args'.length + _ = n
    omega
  · have hget : (ofListFrom .leaf 0 args).get t = args[t]? := by
      rw [get_ofListFrom _ _ _ _ (by omega)]
      by_cases ht : t < args.length
      · rw [if_pos (by omega), Nat.sub_zero]
      · rw [if_neg (by omega), Tree.get_leaf, List.getElem?_eq_none (by omega)]
    show VR φ (match (ofListFrom .leaf 0 args).get t with | some v => v | none => undef) (((⟨args'⟩ : Array Value) ++ Array.replicate (n - args'.length) undef).getD t undef)
    rw [hget, Array.getD_eq_getD_getElem?]
    by_cases ht : t < args.length
    · have hx : args[t]? = some args[t] := List.getElem?_eq_getElem ht
      obtain ⟨v', h1, h2⟩ := h.get t _ hx
      rw [hx, Array.getElem?_append_left (show t < (⟨args'⟩ : Array Value).size by show t < args'.length; omega)]
      have : (⟨args'⟩ : Array Value)[t]? = some v' := by rw [List.getElem?_toArray]; exact h1
      rw [this]
      exact h2
    · rw [List.getElem?_eq_none (by omega)]
      have : (((⟨args'⟩ : Array Value) ++ Array.replicate (n - args'.length) undef)[t]?).getD undef = undef := by
        rw [Array.getElem?_append_right (show (⟨args'⟩ : Array Value).size ≤ t by show args'.length ≤ t; omega), Array.getElem?_replicate]
        split <;> rfl
      rw [this]
      exact VR.undef

theorem leaves_sound (hE : EnvOk E G) {callD : CallDFn} (hD : CallDOk E G w0 callD) {fn : Func} {a : Act} {ac : Go.Act} {vs : List Value} {R : Ending → World → Prop} :
    ∀ (ds : List (Nat × List Value)) (ds' : List Deferred) (m m' : Mem) (φ : Phi) (w : World), defers callD ds m = some m' → DRs φ ds ds' → ActR φ a ac → Rel E.P G w0 φ m w → results E { a with m := m' } fn.results.toList = some vs →
      (∀ φ' v' w', Ext φ φ' m m' → VR φ' (one vs) v' → Rel E.P G w0 φ' m' w' → R (.returned v') w') → Leaves E.P fn ac.tmps R ds' .returning w
  | [], ds', m, m', φ, w, h, hds, hA, hR, hres, hK => by
    cases hds
    simp only [defers, Option.some.injEq] at h
    subst h
    obtain ⟨v', h1, h2⟩ := results_run hE (hA.mem m) (fn := fn) hR hres
    exact ⟨v', h1, hK φ v' w (Ext.refl _ (Nat.le_refl _)) h2 hR⟩
  | (f, args) :: ds, ds', m, m', φ, w, h, hds, hA, hR, hres, hK => by
    cases hds with
    | cons hd hds =>
      obtain ⟨cap, args', rfl, hv⟩ := hd
      simp only [defers] at h
      split at h
      · cases h
      · rename_i m1 hc
        obtain ⟨⟨fn', hg, hb⟩, hcalls⟩ := hD f args (args' ++ cap) m m1 φ .returning w hc hv hR
        refine leaves_cons (by simp) (invoke_fn hE hg hb args' cap w) (hcalls.mono fun e u' w' he => ?_)
        obtain ⟨rfl, φ', v', rfl, h1, h2⟩ := he
        exact leaves_sound hE hD ds _ m1 m' φ' w' h (hds.mono h1.1) (hA.mono h1.1) h2 hres fun φ'' v'' w'' g1 g2 g3 => hK φ'' v'' w'' (h1.trans g1) g2 g3

theorem ended_some {r : Option (Ex × Act)} {a : Act} (h : ended r = some a) : r = some (.normal, a) ∨ r = some (.ret, a) := by
  unfold ended at h
  split at h
  · cases h; exact .inl rfl
  · cases h; exact .inr rfl
  · cases h

/-- what is known is so. -/
def KnownOk (E : Env) (w0 : World) : Prop :=
  ∀ f args v, knownOf E.known f args = some v → (∃ fn, E.funcs.get f = some fn ∧ fn.body.isSome = true) ∧
    ∀ φ args' w, VRs φ args args' → Below w0.heap.size w0 w → Calls E.P f ⟨args'⟩ w fun e w' => ∃ v', e = .returned v' ∧ VR φ v v' ∧ Below w.heap.size w w'

theorem Rel.grow {P : Program} (h : Rel P G w0 φ m w) {w' : World} (hb : Below w.heap.size w w') : Rel P G w0 φ m w' where
  glob := h.glob
  lt := fun b b' e => ⟨(h.lt b b' e).1, Nat.lt_of_lt_of_le (h.lt b b' e).2 hb.size⟩
  obj := fun b o b' ho e => by rw [hb.block b' (h.lt b b' e).2]; exact h.obj b o b' ho e
  inj := h.inj
  own := h.own
  fresh := h.fresh
  below := h.below.trans (hb.mono h.below.size)

theorem call_step (hE : EnvOk E G) (hKn : KnownOk E w0) {n : Nat} (hC : CodeOk E G w0 n) (hD : CallDOk E G w0 (callD E n)) : CallOk E G w0 (call E (n + 1)) := by
  intro g args args' m m' v φ w h hv hR
  simp only [call] at h
  split at h
  · rename_i u hk
    simp only [Option.some.injEq, Prod.mk.injEq] at h
    obtain ⟨rfl, rfl⟩ := h
    obtain ⟨k1, k3⟩ := hKn g args u hk
    refine ⟨k1, (k3 φ args' w hv hR.below).mono fun e w' he => ?_⟩
    obtain ⟨v', rfl, hvv, hb⟩ := he
    exact ⟨φ, v', rfl, Ext.refl _ (Nat.le_refl _), hvv, hR.grow hb⟩
  split at h
  · cases h
  · rename_i fn hg
    split at h
    · cases h
    · rename_i c hb
      cases hle : (Nat.ble args.length fn.ntmps && Nat.ble fn.ntmps 1000000000) with
      | false => simp [hle] at h
      | true =>
        simp only [hle, cond_true] at h
        simp only [Bool.and_eq_true] at hle
        have h1 := Nat.le_of_ble_eq_true hle.1
        have h2 := Nat.le_of_ble_eq_true hle.2
        split at h
        · cases h
        · rename_i a ha
          split at h
          · cases h
          · rename_i m1 hd
            split at h
            · cases h
            · rename_i vs hres
              simp only [Option.some.injEq, Prod.mk.injEq] at h
              obtain ⟨rfl, rfl⟩ := h
              obtain ⟨hf, _, hcok⟩ := hE.funcs g fn hg
              refine ⟨⟨fn, hg, by simp [hb]⟩, calls_of_wp_defers hf hb ?_⟩
              have hA0 := tmp_args h1 h2 hv m
              have fin : ∀ φ' ac' w', Ext φ φ' m a.m → ActR φ' a ac' → Rel E.P G w0 φ' a.m w' →
                  Leaves E.P fn ac'.tmps (fun e w' => ∃ φ' v', e = .returned v' ∧ Ext φ φ' m m1 ∧ VR φ' (one vs) v' ∧ Rel E.P G w0 φ' m1 w') ac'.defers .returning w' := by
                intro φ' ac' w' g1 g2 g3
                exact leaves_sound hE hD a.defers ac'.defers a.m m1 φ' w' hd g2.defers g2 g3 hres fun φ'' v'' w'' k1 k2 k3 => ⟨φ'', v'', rfl, g1.trans k1, k2, k3⟩
              rcases ended_some ha with hr | hr
              · refine hC c _ a .normal _ φ w _ (hcok c hb) hr hA0 hR fun φ' ac' w' x g1 g2 g3 hx => ?_
                cases hx
                exact fin φ' ac' w' g1 g2 g3
              · refine hC c _ a .ret _ φ w _ (hcok c hb) hr hA0 hR fun φ' ac' w' x g1 g2 g3 hx => ?_
                cases hx
                exact fin φ' ac' w' g1 g2 g3

theorem callD_step (hE : EnvOk E G) {n : Nat} (hC : CodeOk E G w0 n) : CallDOk E G w0 (callD E (n + 1)) := by
  intro g args args' m m' φ u w h hv hR
  simp only [callD] at h
  split at h
  · cases h
  · rename_i fn hg
    split at h
    · cases h
    · rename_i c hb
      cases hle : (Nat.ble args.length fn.ntmps && Nat.ble fn.ntmps 1000000000) with
      | false => simp [hle] at h
      | true =>
        simp only [hle, cond_true] at h
        simp only [Bool.and_eq_true] at hle
        have h1 := Nat.le_of_ble_eq_true hle.1
        have h2 := Nat.le_of_ble_eq_true hle.2
        split at h
        · cases h
        · rename_i a ha
          cases hem : a.defers.isEmpty with
          | false => simp [hem] at h
          | true =>
            simp only [hem, cond_true] at h
            split at h
            · cases h
            · rename_i vs hres
              simp only [Option.some.injEq] at h
              subst h
              obtain ⟨hf, _, hcok⟩ := hE.funcs g fn hg
              have hds : a.defers = [] := by simpa using hem
              refine ⟨⟨fn, hg, by simp [hb]⟩, (callsD_of_wp hf hb ?_).mono fun e u' w' h => h⟩
              have hA0 := tmp_args h1 h2 hv m
              have fin : ∀ φ' ac' w', Ext φ φ' m a.m → ActR φ' a ac' → Rel E.P G w0 φ' a.m w' →
                  ac'.defers = [] ∧ ∃ v, (Go.results fn ac'.tmps).run E.P w' = .ok v w' ∧ ∃ φ' v', Ending.returned v = .returned v' ∧ Ext φ φ' m a.m ∧ Rel E.P G w0 φ' a.m w' := by
                intro φ' ac' w' g1 g2 g3
                have hd := g2.defers
                rw [hds] at hd
                refine ⟨by revert hd; generalize ac'.defers = x; intro hd; cases hd; rfl, ?_⟩
                obtain ⟨v', k1, k2⟩ := results_run hE g2 g3 (fn := fn) hres
                exact ⟨v', k1, φ', v', rfl, g1, g3⟩
              rcases ended_some ha with hr | hr
              · refine hC c _ a .normal _ φ w _ (hcok c hb) hr hA0 hR fun φ' ac' w' x g1 g2 g3 hx => ?_
                cases hx
                exact fin φ' ac' w' g1 g2 g3
              · refine hC c _ a .ret _ φ w _ (hcok c hb) hr hA0 hR fun φ' ac' w' x g1 g2 g3 hx => ?_
                cases hx
                exact fin φ' ac' w' g1 g2 g3

theorem code_step (hE : EnvOk E G) {n : Nat} (hC : CodeOk E G w0 n) (hL : LoopOk E G w0 n) (hcall : CallOk E G w0 (call E n)) (hdrawn : DrawnOk E G w0 (call E n)) : CodeOk E G w0 (n + 1) ∧ LoopOk E G w0 (n + 1) := by
  have loop : LoopOk E G w0 (n + 1) := by
    intro c a a' ex ac φ w Q hok h hA hR hQ
    simp only [code] at h
    rw [rounds_succ]
    split at h
    · rename_i a1 h1
      refine hC c a a1 .normal ac φ w _ hok h1 hA hR fun φ' ac' w' x g1 g2 g3 hx => ?_
      cases hx
      exact hL c a1 a' ex ac' φ' w' Q hok h g2 g3 fun φ'' ac'' w'' y k1 k2 k3 k4 => hQ φ'' ac'' w'' y (g1.trans k1) k2 k3 k4
    · rename_i hne
      refine hC c a a' ex ac φ w _ hok h hA hR fun φ' ac' w' x g1 g2 g3 hx => ?_
      cases hx with
      | normal => exact absurd h (hne a')
      | exit id => exact hQ φ' ac' w' _ g1 g2 g3 (.exit id)
      | ret => exact hQ φ' ac' w' _ g1 g2 g3 .ret
      | goto l => exact hQ φ' ac' w' _ g1 g2 g3 (.goto l)
  refine ⟨?_, loop⟩
  intro c a a' ex ac φ w Q hok h hA hR hQ
  cases c with
  | skip =>
    simp only [code, Option.some.injEq, Prod.mk.injEq] at h
    obtain ⟨rfl, rfl⟩ := h
    exact wp_skip (hQ φ ac w _ (Ext.refl _ (Nat.le_refl _)) hA hR .normal)
  | region id ops draw =>
    have hall : ops.toList.all (operOk G) = true := hok
    cases draw with
    | false =>
      simp only [code] at h
      split at h
      · cases h
      · rename_i a1 h1
        simp only [Option.some.injEq, Prod.mk.injEq] at h
        obtain ⟨rfl, rfl⟩ := h
        refine wp_region ?_
        have := opers_sound hE hcall (all := ops.toList) hall (Q := Q) ops.toList 0 a a1 ac φ w rfl h1 hA hR fun φ' ac' w' g1 g2 g3 => hQ φ' ac' w' _ g1 g2 g3 .normal
        simpa using this
    | true =>
      simp only [code] at h
      split at h
      · cases h
      · rename_i a1 h1
        simp only [Option.some.injEq, Prod.mk.injEq] at h
        obtain ⟨rfl, rfl⟩ := h
        exact hdrawn id ops.toList a a1 ac φ w Q hall h1 hA hR fun φ' ac' w' g1 g2 g3 => hQ φ' ac' w' _ g1 g2 g3 .normal
  | seq x y =>
    simp only [codeOk, Bool.and_eq_true] at hok
    simp only [code] at h
    refine wp_seq ?_
    split at h
    · rename_i a1 h1
      refine hC x a a1 .normal ac φ w _ hok.1 h1 hA hR fun φ' ac' w' e g1 g2 g3 hx => ?_
      cases hx
      exact hC y a1 a' ex ac' φ' w' Q hok.2 h g2 g3 fun φ'' ac'' w'' e' k1 k2 k3 k4 => hQ φ'' ac'' w'' e' (g1.trans k1) k2 k3 k4
    · rename_i hne
      refine hC x a a' ex ac φ w _ hok.1 h hA hR fun φ' ac' w' e g1 g2 g3 hx => ?_
      cases hx with
      | normal => exact absurd h (hne a')
      | exit id => exact hQ φ' ac' w' _ g1 g2 g3 (.exit id)
      | ret => exact hQ φ' ac' w' _ g1 g2 g3 .ret
      | goto l => exact hQ φ' ac' w' _ g1 g2 g3 (.goto l)
  | cond c x y =>
    simp only [codeOk, Bool.and_eq_true] at hok
    simp only [code] at h
    have hv := hA.eval hR c hok.1.1
    split at h
    · rename_i hb
      rw [hb] at hv
      exact wp_cond_true hv.bool_inv (hC x a a' ex ac φ w Q hok.1.2 h hA hR hQ)
    · rename_i hb
      rw [hb] at hv
      exact wp_cond_false hv.bool_inv (hC y a a' ex ac φ w Q hok.2 h hA hR hQ)
    · cases h
  | block id x =>
    simp only [codeOk] at hok
    simp only [code] at h
    refine wp_block ?_
    split at h
    · rename_i id' a1 h1
      refine hC x a a1 (.exit id') ac φ w _ hok h1 hA hR fun φ' ac' w' e g1 g2 g3 hx => ?_
      cases hx
      cases hb : Nat.beq id' id with
      | true =>
        simp only [hb, cond_true, Option.some.injEq, Prod.mk.injEq] at h
        obtain ⟨rfl, rfl⟩ := h
        have := Nat.eq_of_beq_eq_true hb
        subst this
        simp only [Exit.inBlock, if_true]
        exact hQ φ' ac' w' _ g1 g2 g3 .normal
      | false =>
        simp only [hb, cond_false, Option.some.injEq, Prod.mk.injEq] at h
        obtain ⟨rfl, rfl⟩ := h
        have hne : id' ≠ id := fun e => by subst e; simp at hb
        simp only [Exit.inBlock, hne, if_false]
        exact hQ φ' ac' w' _ g1 g2 g3 (.exit id')
    · rename_i hne
      refine hC x a a' ex ac φ w _ hok h hA hR fun φ' ac' w' e g1 g2 g3 hx => ?_
      cases hx with
      | normal => exact hQ φ' ac' w' _ g1 g2 g3 .normal
      | exit id' => exact absurd h (hne id' a')
      | ret => exact hQ φ' ac' w' _ g1 g2 g3 .ret
      | goto l => exact hQ φ' ac' w' _ g1 g2 g3 (.goto l)
  | loop x =>
    simp only [codeOk] at hok
    exact wp_loop_rounds (n + 1) (loop x a a' ex ac φ w Q hok h hA hR hQ)
  | label l =>
    simp only [code, Option.some.injEq, Prod.mk.injEq] at h
    obtain ⟨rfl, rfl⟩ := h
    exact wp_label (hQ φ ac w _ (Ext.refl _ (Nat.le_refl _)) hA hR .normal)
  | goto l =>
    simp only [code, Option.some.injEq, Prod.mk.injEq] at h
    obtain ⟨rfl, rfl⟩ := h
    exact wp_goto (hQ φ ac w _ (Ext.refl _ (Nat.le_refl _)) hA hR (.goto l))
  | scope x =>
    simp only [codeOk] at hok
    simp only [code] at h
    have key : ∀ (k : Nat) (c : Code) (b : Act) (bc : Go.Act) (ψ : Phi) (v : World), codeOk G c = true → jumps (code E n) x k (code E n c b) = some (ex, a') → Ext φ ψ a.m b.m → ActR ψ b bc → Rel E.P G w0 ψ b.m v → c.wp E.P (Jumps E.P x Q k) bc v := by
      intro k
      induction k with
      | zero => intro c b bc ψ v _ hj; simp [jumps] at hj
      | succ k ih =>
        intro c b bc ψ v hc hj hx hA' hR'
        simp only [jumps] at hj
        split at hj
        · rename_i l b1 hrun
          refine hC c b b1 (.goto l) bc ψ v _ hc hrun hA' hR' fun φ' ac' w' e g1 g2 g3 he => ?_
          cases he
          split at hj
          · rename_i rest hl
            exact .inr ⟨rest, hl, ih rest b1 ac' φ' w' (findLabel_ok x l rest hok hl) hj (hx.trans g1) g2 g3⟩
          · rename_i hl
            simp only [Option.some.injEq, Prod.mk.injEq] at hj
            obtain ⟨rfl, rfl⟩ := hj
            exact .inl ⟨hl, hQ φ' ac' w' _ (hx.trans g1) g2 g3 (.goto l)⟩
        · rename_i hne
          refine hC c b a' ex bc ψ v _ hc hj hA' hR' fun φ' ac' w' e g1 g2 g3 he => ?_
          cases he with
          | normal => exact hQ φ' ac' w' _ (hx.trans g1) g2 g3 .normal
          | exit id => exact hQ φ' ac' w' _ (hx.trans g1) g2 g3 (.exit id)
          | ret => exact hQ φ' ac' w' _ (hx.trans g1) g2 g3 .ret
          | goto l => exact absurd hj (hne l a')
    exact wp_scope_jumpy n (key n x a ac φ w hok h (Ext.refl _ (Nat.le_refl _)) hA hR)
  | exit id =>
    simp only [code, Option.some.injEq, Prod.mk.injEq] at h
    obtain ⟨rfl, rfl⟩ := h
    exact wp_exit (hQ φ ac w _ (Ext.refl _ (Nat.le_refl _)) hA hR (.exit id))
  | ret =>
    simp only [code, Option.some.injEq, Prod.mk.injEq] at h
    obtain ⟨rfl, rfl⟩ := h
    exact wp_ret (hQ φ ac w _ (Ext.refl _ (Nat.le_refl _)) hA hR .ret)
  | _ => simp [code] at h

/-- the evaluator is right. -/
theorem sound (hE : EnvOk E G) (hKn : KnownOk E w0) (hdrawn : ∀ call, CallOk E G w0 call → DrawnOk E G w0 call) : ∀ n, CodeOk E G w0 n ∧ LoopOk E G w0 n ∧ CallOk E G w0 (call E n) ∧ CallDOk E G w0 (callD E n)
  | 0 => by
    refine ⟨?_, ?_, ?_, ?_⟩
    · intro c a a' ex ac φ w Q hok h; simp [code] at h
    · intro c a a' ex ac φ w Q hok h; simp [code] at h
    · intro g args args' m m' v φ w h; simp [call] at h
    · intro g args args' m m' φ u w h; simp [callD] at h
  | n + 1 => by
    obtain ⟨h1, h2, h3, h4⟩ := sound hE hKn hdrawn n
    obtain ⟨c1, c2⟩ := code_step hE h1 h2 h3 (hdrawn _ h3)
    exact ⟨c1, c2, call_step hE hKn h1 h4, callD_step hE h1⟩

end
end Go.Ev
