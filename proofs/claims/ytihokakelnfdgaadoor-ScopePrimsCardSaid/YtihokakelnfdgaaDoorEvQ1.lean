/- Part of an evaluator for closed runs, and of its proof (EvQ1). -/
import Derived.Test.YtihokakelnfdgaaDoorEvMem
import Derived.Laws.Strings
import Derived.Laws.Concat
namespace Go.Ev
open Go.RowKit
set_option linter.unusedVariables false
set_option linter.unusedSectionVars false
variable [Sym]

def operandOk (G : Nat) : Operand → Bool
  | .const v => plainV v
  | .global g => Nat.blt g G
  | _ => true

def operOk (G : Nat) (o : Oper) : Bool := o.op.operands.toList.all (operandOk G)

def codeOk (G : Nat) : Code → Bool
  | .region _ ops _ => ops.toList.all (operOk G)
  | .seq a b => codeOk G a && codeOk G b
  | .cond c a b => operandOk G c && codeOk G a && codeOk G b
  | .block _ b | .loop b | .scope b => codeOk G b
  | _ => true

structure EnvOk (E : Env) (G : Nat) : Prop where
  types : ∀ t i, E.types.get t = some i → E.P.info? t = some i
  funcs : ∀ f fn, E.funcs.get f = some fn → E.P.funcs[f]? = some fn ∧ (fn.name == "runtime.NumGoroutine") = false ∧ ∀ c, fn.body = some c → codeOk G c = true
  eqs : ∀ t, E.eqs.any (Nat.beq t) = true → E.P.stoodInHeld t = false ∧ E.P.eqGuardType E.P.depth t = false
  mixed : E.P.follows .mixedOrders = true
  facts : ∀ op x y r, factOf E.facts op x y = some r → ∃ u v, (∀ φ x', VR φ x x' → x' = u) ∧ (∀ φ y', VR φ y y' → y' = v) ∧ plainV u = true ∧ plainV v = true ∧ ∀ m t, binOp0 E m op t u v = some r
  zeros : ∀ t z, E.zero t = some z → plainV z = true

section
variable {E : Env} {G : Nat} (hE : EnvOk E G)
include hE

theorem ti_info {t : TypeId} {i : TypeInfo} (h : E.ti t = some i) : E.P.info? t = some i := hE.types t i h

theorem under_eq {t : TypeId} {d : TypeDesc} (h : E.under t = some d) : E.P.underlying t = some d := by
  unfold Env.under at h
  cases hi : E.ti t with
  | none => simp [hi] at h
  | some i =>
    have hp := ti_info hE hi
    simp only [hi] at h
    unfold Program.underlying
    rw [hp]
    obtain ⟨desc, _, _, _, _, _, _, _, _, _⟩ := i
    cases desc <;> simp only at h ⊢ <;> try exact h
    rename_i nm u
    cases hu : E.ti u with
    | none => simp [hu] at h
    | some j => rw [ti_info hE hu]; simpa [hu] using h

theorem size_run {t : TypeId} {k : Nat} (h : E.size t = some k) (w : World) : (sizeOf t).run E.P w = .ok k w := by
  unfold Env.size at h
  cases hi : E.ti t with
  | none => simp [hi] at h
  | some i =>
    simp only [hi, Option.some.injEq] at h
    simp [sizeOf, typeInfo, ti_info hE hi, h]

theorem under_run {t : TypeId} {d : TypeDesc} (h : E.under t = some d) (w : World) : (underlying t).run E.P w = .ok d w := run_underlying (under_eq hE h) w

theorem zero_run {t : TypeId} {z : Value} (h : E.zero t = some z) (w : World) : (zeroValue t).run E.P w = .ok z w := by
  unfold Env.zero at h
  cases hi : E.ti t with
  | none => simp [hi] at h
  | some i => simp only [hi] at h; simp [zeroValue, typeInfo, ti_info hE hi, h]

theorem agg_run {t : TypeId} {d : TypeDesc} (h : E.under t = some d) (w : World) : (isAgg t).run E.P w = .ok (isAggD d) w := by
  unfold isAgg
  simp only [Sem.run_bind, under_run hE h, Result.andThen_ok]
  cases d <;> rfl

end

/-! what a value is that is related to one whose form is known -/
section
variable {φ : Phi} {v' : Value}
theorem VR.ptr_inv {b o : Nat} (h : VR φ (.pointer (some ⟨b, o, none⟩)) v') : ∃ b', v' = .pointer (some ⟨b', o, none⟩) ∧ φ b = some b' := by
  cases h with | ptr o h => exact ⟨_, rfl, h⟩
theorem VR.ptr_any {a : Addr} (h : VR φ (.pointer (some a)) v') : ∃ b', v' = .pointer (some ⟨b', a.off, none⟩) ∧ φ a.block = some b' ∧ a.spot = none := by
  cases h with | ptr o h => exact ⟨_, rfl, h, rfl⟩
theorem VR.pnil_inv (h : VR φ (.pointer none) v') : v' = .pointer none := by cases h; rfl
theorem VR.int_inv {k : IntKind} {n : Int} (h : VR φ (.int k n) v') : v' = .int k n := by cases h; rfl
theorem VR.bool_inv {b : Bool} (h : VR φ (.bool b) v') : v' = .bool b := by cases h; rfl
theorem VR.string_inv {s : ByteArray} (h : VR φ (.string s) v') : v' = .string s := by cases h; rfl
theorem VR.slice_inv {b o n c : Nat} (h : VR φ (.slice (some ⟨b, o, none⟩) n c) v') : ∃ b' c', v' = .slice (some ⟨b', o, none⟩) n c' ∧ φ b = some b' ∧ c ≤ c' ∧ c' ≤ c + φ.cap b := by
  cases h with | slice o n h hc => exact ⟨_, _, rfl, h, hc.1, hc.2⟩
theorem VR.slost_inv {b o s n c : Nat} (h : VR φ (.slice (some ⟨b, o, some s⟩) n c) v') : ∃ a c', v' = .slice (some a) 0 c' ∧ n = 0 ∧ c = 0 := by
  cases h with | slost b o s a c => exact ⟨_, _, rfl, rfl, rfl⟩
theorem VR.snil_inv {n c : Nat} (h : VR φ (.slice none n c) v') : v' = .slice none n c := by cases h; rfl
theorem VR.agg_inv {l : List Value} (h : VR φ (.agg ⟨l⟩) v') : ∃ l', v' = .agg ⟨l'⟩ ∧ VRs φ l l' := by cases h with | agg h => exact ⟨_, rfl, h⟩
theorem VR.tuple_inv {l : List Value} (h : VR φ (.tuple ⟨l⟩) v') : ∃ l', v' = .tuple ⟨l'⟩ ∧ VRs φ l l' := by cases h with | tuple h => exact ⟨_, rfl, h⟩
theorem VR.map_inv {r : Nat} (h : VR φ (.map (some r)) v') : ∃ r', v' = .map (some r') ∧ φ r = some r' := by cases h with | map h => exact ⟨_, rfl, h⟩
theorem VR.mnil_inv (h : VR φ (.map none) v') : v' = .map none := by cases h; rfl
theorem VR.func_inv {fn : Fn} {f c : List Value} (h : VR φ (.func fn ⟨f⟩ ⟨c⟩) v') : ∃ f' c', v' = .func fn ⟨f'⟩ ⟨c'⟩ ∧ VRs φ f f' ∧ VRs φ c c' := by cases h with | func fn hf hc => exact ⟨_, _, rfl, hf, hc⟩
theorem VR.nilFunc_inv (h : VR φ .nilFunc v') : v' = .nilFunc := by cases h; rfl
end

theorem nth_eq {α : Type} : ∀ (l : List α) (i : Nat), nth l i = l[i]?
  | [], i => by simp [nth]
  | x :: l, 0 => by simp [nth]
  | x :: l, i + 1 => by simp [nth, nth_eq l i]

theorem cellsFrom_len {c : Tree Value} : ∀ {k o : Nat} {l : List Value}, cellsFrom c o k = some l → l.length = k
  | 0, o, l, h => by simp [cellsFrom] at h; subst h; rfl
  | k + 1, o, l, h => by
    simp only [cellsFrom] at h
    split at h
    · cases h
    · split at h
      · cases h
      · rename_i l' hl; cases h; simp [cellsFrom_len hl]

theorem cellsFrom_rel {φ : Phi} {c : Tree Value} {c' : Array Value} {n : Nat} (hc : ∀ i, i < n → ∃ v v', c.get i = some v ∧ c'[i]? = some v' ∧ VR φ v v') :
    ∀ (k o : Nat) (l : List Value), o + k ≤ n → cellsFrom c o k = some l → ∃ l', VRs φ l l' ∧ l'.length = k ∧ ∀ j v, l'[j]? = some v → c'[o + j]? = some v
  | 0, o, l, _, h => by
    simp [cellsFrom] at h; subst h
    exact ⟨[], .nil, rfl, fun j v hv => by simp at hv⟩
  | k + 1, o, l, hk, h => by
    obtain ⟨v, v', h1, h2, h3⟩ := hc o (by omega)
    simp only [cellsFrom, h1] at h
    cases hl : cellsFrom c (o + 1) k with
    | none => simp [hl] at h
    | some r =>
      simp only [hl, Option.some.injEq] at h
      subst h
      obtain ⟨l', a, b, d⟩ := cellsFrom_rel hc k (o + 1) r (by omega) hl
      refine ⟨v' :: l', .cons h3 a, by simp [b], fun j x hx => ?_⟩
      cases j with
      | zero => simp at hx; subst hx; simpa using h2
      | succ j => have := d j x (by simpa using hx); rw [show o + (j + 1) = o + 1 + j by omega]; exact this

theorem add_at (b o j : Nat) : (⟨b, o, none⟩ : Addr).add j = ⟨b, o + j, none⟩ := by unfold Addr.add; split <;> simp_all

theorem cell_at {w : World} {b : Nat} {c : Array Value} {e : TypeId} {fr : Nat × Nat} (h : w.heap[b]? = some (.cells c e fr)) (i : Nat) : w.cell? ⟨b, i, none⟩ = c[i]? := by
  simp [World.cell?, h]

section
variable {E : Env} {G : Nat} {w0 w : World} {φ : Phi} {m : Mem}

theorem loadCells_sound {b b' o k n : Nat} {c : Tree Value} {e : TypeId} {kd : Nat} {l : List Value} (hR : Rel E.P G w0 φ m w) (hm : m.get b = some (.cells n c e kd)) (hφ : φ b = some b')
    (hk : o + k ≤ n) (hl : cellsFrom c o k = some l) : ∃ l', (loadCells ⟨b', o, none⟩ k).run E.P w = .ok ⟨l'⟩ w ∧ VRs φ l l' ∧ l'.length = k := by
  obtain ⟨c', fr, hob, hn, hc, _⟩ := hR.obj b _ b' hm hφ
  obtain ⟨l', h1, h2, h3⟩ := cellsFrom_rel hc k o l hk hl
  refine ⟨l', ?_, h1, h2⟩
  have := run_loadCells_list (P := E.P) w ⟨b', o, none⟩ l' (fun j v hv => by rw [add_at, cell_at hob]; exact h3 j v hv)
  rw [h2] at this
  exact this

theorem load_sound (hE : EnvOk E G) (hR : Rel E.P G w0 φ m w) {t : TypeId} {b b' o : Nat} {v : Value} (h : loadAt E m t b o = some v) (hφ : φ b = some b') :
    ∃ v', (loadVar t ⟨b', o, none⟩).run E.P w = .ok v' w ∧ VR φ v v' := by
  unfold loadAt at h
  split at h
  · rename_i d n c e kd hd hm
    unfold loadVar
    simp only [Sem.run_bind, agg_run hE hd, Result.andThen_ok]
    cases ha : isAggD d with
    | true =>
      simp only [ha, cond_true] at h
      cases hs : E.size t with
      | none => simp [hs] at h
      | some k =>
        simp only [hs] at h
        cases hle : Nat.ble (o + k) n with
        | false => simp [hle] at h
        | true =>
          simp only [hle, cond_true] at h
          cases hl : cellsFrom c o k with
          | none => simp [hl] at h
          | some l =>
            simp only [hl, Option.some.injEq] at h
            subst h
            obtain ⟨l', h1, h2, _⟩ := loadCells_sound (E := E) hR hm hφ (Nat.le_of_ble_eq_true hle) hl
            exact ⟨.agg ⟨l'⟩, by simp [size_run hE hs, h1], .agg h2⟩
    | false =>
      simp only [ha, cond_false] at h
      cases hlt : Nat.blt o n with
      | false => simp [hlt] at h
      | true =>
        simp only [hlt, cond_true] at h
        have hon : o < n := by simpa [Nat.blt_eq] using hlt
        obtain ⟨c', fr, hob, hn, hc, _⟩ := hR.obj b _ b' hm hφ
        obtain ⟨x, x', h1, h2, h3⟩ := hc o hon
        obtain rfl : x = v := Option.some.inj (h1.symm.trans h)
        exact ⟨x', by simp [cell_at hob, h2], h3⟩
  · cases h

end
end Go.Ev
