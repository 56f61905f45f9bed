/- Part of an evaluator for closed runs, and of its proof (EvE). -/
import Derived.Test.YtihokakelnfdgaaDoorEvD
import Derived.Defers
import Derived.Orders
namespace Go.Ev
open Go.RowKit
set_option linter.unusedVariables false
set_option linter.unusedSectionVars false
variable [Sym]

/-- a deferred call. -/
def DR (φ : Phi) (d : Nat × List Value) (d' : Deferred) : Prop :=
  ∃ cap args : List Value, d' = { target := .fn (.func d.1) ⟨cap⟩, args := ⟨args⟩ } ∧ VRs φ d.2 (args ++ cap)

inductive DRs (φ : Phi) : List (Nat × List Value) → List Deferred → Prop where
  | nil : DRs φ [] []
  | cons {d d' l l'} (h : DR φ d d') (hl : DRs φ l l') : DRs φ (d :: l) (d' :: l')

theorem DRs.mono {φ ψ : Phi} (hle : φ.le ψ) : ∀ {l l'}, DRs φ l l' → DRs ψ l l'
  | _, _, .nil => .nil
  | _, _, .cons ⟨cap, args, h1, h2⟩ hl => .cons ⟨cap, args, h1, h2.mono hle⟩ (DRs.mono hle hl)

/-- the state of a function. -/
structure ActR (φ : Phi) (a : Act) (ac : Go.Act) : Prop where
  size : ac.tmps.size = a.n
  bound : a.n ≤ 1000000000
  tmps : ∀ t, VR φ (a.tmp t) (ac.tmps.getD t undef)
  defers : DRs φ a.defers ac.defers

theorem ActR.mono {φ ψ : Phi} (hle : φ.le ψ) {a : Act} {ac : Go.Act} (h : ActR φ a ac) : ActR ψ a ac :=
  ⟨h.size, h.bound, fun t => (h.tmps t).mono hle, h.defers.mono hle⟩

theorem ActR.mem {φ : Phi} {a : Act} {ac : Go.Act} (h : ActR φ a ac) (m : Mem) : ActR φ { a with m := m } ac := ⟨h.size, h.bound, h.tmps, h.defers⟩

section
variable {E : Env} {G : Nat} {w0 w : World} {φ : Phi} {m : Mem}

theorem ActR.eval {a : Act} {ac : Go.Act} (h : ActR φ a ac) (hR : Rel E.P G w0 φ m w) (x : Operand) (hx : operandOk G x = true) : VR φ (a.eval x) (ac.eval x) := by
  cases x with
  | tmp t => exact h.tmps t
  | const v => exact VR.plain v hx
  | global g => exact .ptr 0 (hR.glob g (by simpa [operandOk, Nat.blt_eq] using hx))
  | func f => exact .func _ .nil .nil

theorem Act.put_tmp {a a' : Act} {dst : Option Tmp} {v : Value} (h : a.put dst v = some a') : a'.n = a.n ∧ a'.defers = a.defers ∧ a'.m = a.m ∧ (∀ t, dst ≠ some t → a'.tmp t = a.tmp t) ∧ ∀ d, dst = some d → d < a.n ∧ (a.n ≤ 1000000000 → a'.tmp d = v) := by
  cases dst with
  | none =>
    simp only [Act.put, Option.some.injEq] at h
    subst h
    exact ⟨rfl, rfl, rfl, fun _ _ => rfl, fun d hd => by cases hd⟩
  | some d =>
    simp only [Act.put] at h
    cases hb : Nat.blt d a.n with
    | false => simp [hb] at h
    | true =>
      simp only [hb, cond_true, Option.some.injEq] at h
      subst h
      have hlt : d < a.n := by simpa [Nat.blt_eq] using hb
      refine ⟨rfl, rfl, rfl, fun t ht => ?_, fun d' hd => ?_⟩
      · simp only [Act.tmp]
        rw [Tree.get_set_other _ _ _ _ _ (fun e => ht (by rw [e]))]
      · have hdd : d = d' := Option.some.inj hd
        subst hdd
        refine ⟨hlt, fun hbd => ?_⟩
        have hsmall : d ≤ 2000000000 := Nat.le_trans (Nat.le_of_lt hlt) (Nat.le_trans hbd (by decide))
        simp only [Act.tmp]
        rw [get_set_D _ _ _ hsmall]

theorem ActR.put {a a' : Act} {ac : Go.Act} (h : ActR φ a ac) {dst : Option Tmp} {v v' : Value} (hp : a.put dst v = some a') (hv : VR φ v v') : ActR φ a' (ac.put dst v') := by
  obtain ⟨h1, h2, h3, h4, h5⟩ := Act.put_tmp hp
  cases dst with
  | none =>
    refine ⟨by rw [h1]; exact h.size, by rw [h1]; exact h.bound, fun t => ?_, by rw [h2]; exact h.defers⟩
    rw [h4 t (by simp)]
    exact h.tmps t
  | some d =>
    obtain ⟨hlt, hd⟩ := h5 d rfl
    refine ⟨?_, by rw [h1]; exact h.bound, fun t => ?_, by rw [h2]; exact h.defers⟩
    · show (ac.tmps.setIfInBounds d v').size = _
      rw [Array.size_setIfInBounds, h.size, h1]
    · show VR φ _ ((ac.tmps.setIfInBounds d v').getD t undef)
      by_cases ht : d = t
      · subst ht
        rw [hd h.bound]
        have : (ac.tmps.setIfInBounds d v').getD d undef = v' := by
          simp only [Array.getD_eq_getD_getElem?, Array.getElem?_setIfInBounds]
          simp [h.size, hlt]
        rw [this]; exact hv
      · rw [h4 t (by simpa using ht)]
        have : (ac.tmps.setIfInBounds d v').getD t undef = ac.tmps.getD t undef := by
          simp only [Array.getD_eq_getD_getElem?, Array.getElem?_setIfInBounds]
          simp [ht]
        rw [this]; exact h.tmps t

/-- what is asked of the calls that are made within. -/
def CallOk (E : Env) (G : Nat) (w0 : World) (call : CallFn) : Prop :=
  ∀ (g : Nat) (args args' : List Value) (m m' : Mem) (v : Value) (φ : Phi) (w : World), call g args m = some (v, m') → VRs φ args args' → Rel E.P G w0 φ m w →
    (∃ fn, E.funcs.get g = some fn ∧ fn.body.isSome = true) ∧
    Calls E.P g ⟨args'⟩ w fun e w' => ∃ φ' v', e = .returned v' ∧ Ext φ φ' m m' ∧ VR φ' v v' ∧ Rel E.P G w0 φ' m' w'

/-- the outcome of one operation. -/
def Outcome (E : Env) (G : Nat) (w0 : World) (φ : Phi) (m m' : Mem) (a' : Act) (act' : Go.Act → World → Prop) : Prop := True

theorem resolve_value {ρ' : Operand → Value} {c : Call} {f : Operand} {g : Nat} {first cap : List Value} (ty : TypeId) (hc : c.callee = .value f) (hf : ρ' f = .func (.func g) ⟨first⟩ ⟨cap⟩) (P : Program) (w : World) :
    (resolve ρ' c ty).run P w = .ok { target := .fn (.func g) ⟨cap⟩, args := ⟨first ++ c.args.toList.map ρ'⟩ } w := by
  have e : (⟨first⟩ : Array Value) ++ c.args.map ρ' = ⟨first ++ c.args.toList.map ρ'⟩ := by
    apply Array.ext'
    simp
  simp only [resolve, hc, Deferred.ofValue, hf, Sem.run_pure, e]

theorem invoke_fn (hE : EnvOk E G) {g : Nat} {fn : Func} (hg : E.funcs.get g = some fn) (hb : fn.body.isSome = true) (args cap : List Value) (w : World) :
    (invoke (.fn (.func g) ⟨cap⟩) ⟨args⟩).run E.P w = .ok (.enter g ⟨args ++ cap⟩) w := by
  obtain ⟨h1, h2, _⟩ := hE.funcs g fn hg
  have e : (⟨args⟩ : Array Value) ++ ⟨cap⟩ = ⟨args ++ cap⟩ := by
    apply Array.ext'
    simp
  have hn : fn.body.isNone = false := by cases h : fn.body <;> simp_all
  simp only [invoke, callFunc, Sem.run_bind, run_program, Result.andThen_ok, h1, h2, hn, Bool.false_eq_true, if_false, Sem.run_pure, e]

theorem target_sound {ρ ρ' : Operand → Value} {c : Call} {g : Nat} {args : List Value} (h : target ρ c = some (g, args)) (hρ : ∀ x ∈ (Op.call c).operands.toList, VR φ (ρ x) (ρ' x)) :
    ∃ f first' cap', c.callee = .value f ∧ ρ' f = .func (.func g) ⟨first'⟩ ⟨cap'⟩ ∧ VRs φ args (first' ++ c.args.toList.map ρ' ++ cap') := by
  unfold target at h
  split at h
  · rename_i f hc
    split at h
    · rename_i g' first cap hf
      simp only [Option.some.injEq, Prod.mk.injEq] at h
      obtain ⟨rfl, rfl⟩ := h
      have hfv := hρ f (by simp [Op.operands, Call.operands, hc])
      rw [hf] at hfv
      obtain ⟨first', cap', e1, e2, e3⟩ := hfv.func_inv
      have rel : ∀ (l : List Operand), (∀ x ∈ l, VR φ (ρ x) (ρ' x)) → VRs φ (l.map ρ) (l.map ρ') := by
        intro l
        induction l with
        | nil => intro _; exact .nil
        | cons y l ih => intro hl; exact .cons (hl y (by simp)) (ih fun z hz => hl z (by simp [hz]))
      have ra := rel c.args.toList (fun x hx => hρ x (by simp only [Op.operands, Call.operands, Array.toList_append]; exact List.mem_append.2 (.inr hx)))
      exact ⟨f, first', cap', hc, e1, (e2.append ra).append e3⟩
    · cases h
  · cases h

/-- one operation that is no call, in a world that fits. -/
theorem plainOp_sound (hE : EnvOk E G) {ρ ρ' : Rho} (hR : Rel E.P G w0 φ m w) (o : Oper) (hρ : ∀ x ∈ o.op.operands.toList, VR φ (ρ x) (ρ' x)) {k : Nat} {v : Value} {m' : Mem} (h : plainOp E m ρ o.op = some (k, v, m')) :
    ∃ φ' w', Did E.P (execOp ρ' o) w v φ' w' ∧ Ext φ φ' m m' ∧ Rel E.P G w0 φ' m' w' := by
  unfold plainOp at h
  split at h
  · rename_i v' hq
    simp only [Option.some.injEq, Prod.mk.injEq] at h
    obtain ⟨rfl, rfl, rfl⟩ := h
    obtain ⟨v', h1, h2⟩ := quiet_sound hE hR o hρ hq
    exact ⟨φ, w, .inl ⟨v', h1, h2⟩, Ext.refl _ (Nat.le_refl _), hR⟩
  · cases hb : Nat.blt m.next 1000000000 with
    | false => simp [hb] at h
    | true =>
      have hlt : m.next < 1000000000 := by simpa [Nat.blt_eq] using hb
      simp only [hb, cond_true] at h
      split at h
      · rename_i v' m1 ha
        simp only [Option.some.injEq, Prod.mk.injEq] at h
        obtain ⟨rfl, rfl, rfl⟩ := h
        obtain ⟨obj, ob, rfl, hmade⟩ := allocs_made hE o hρ ha
        obtain ⟨w', v', h1, h2, h3, h4, h5, h6⟩ := hmade.run w
        refine ⟨φ.set m.next w.heap.size 0, w', .inl ⟨v', h1, h6 _ (Phi.set_same _ _ _ _)⟩, Ext.set hR.next_none _ _ (Nat.le_succ _), ?_⟩
        exact hR.alloc obj (by omega) (hmade.obj _ (hR.le_next _ _)) h2 h3 h4 h5
      · split at h
        · rename_i v' m1 he
          simp only [Option.some.injEq, Prod.mk.injEq] at h
          obtain ⟨rfl, rfl, rfl⟩ := h
          exact effect_sound hE hR (by omega) o hρ he
        · cases h

end
end Go.Ev
