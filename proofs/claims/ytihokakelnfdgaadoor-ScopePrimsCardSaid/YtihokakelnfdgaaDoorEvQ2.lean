/- Part of an evaluator for closed runs, and of its proof (EvQ2). -/
import Derived.Test.YtihokakelnfdgaaDoorEvQ1
namespace Go.Ev
open Go.RowKit
set_option linter.unusedVariables false
set_option linter.unusedSectionVars false
variable [Sym]

theorem bytesEq_eq : ∀ (a b : List UInt8), bytesEq a b = (a == b)
  | [], [] => rfl
  | [], b :: r => rfl
  | a :: l, [] => rfl
  | a :: l, b :: r => by
    simp only [bytesEq, List.cons_beq_cons, bytesEq_eq l r]
    by_cases h : a = b
    · subst h; simp
    · have : Nat.beq a.toNat b.toNat = false := Tree.beq_false fun e => h (UInt8.toNat_inj.1 e)
      simp [this, h]

theorem bytesLt_eq : ∀ (a b : List UInt8), bytesLt a b = Op.bytesLess a b
  | [], [] => rfl
  | _ :: _, [] => rfl
  | [], _ :: _ => rfl
  | a :: x, b :: y => by
    simp only [bytesLt, Op.bytesLess, bytesLt_eq x y]
    by_cases h : a < b
    · have : Nat.blt a.toNat b.toNat = true := by simpa [Nat.blt_eq, UInt8.lt_iff_toNat_lt] using h
      simp [this, h]
    · have h1 : Nat.blt a.toNat b.toNat = false := by
        cases hb : Nat.blt a.toNat b.toNat
        · rfl
        · exact absurd (by simpa [Nat.blt_eq, UInt8.lt_iff_toNat_lt] using hb) h
      by_cases e : a = b
      · subst e; simp [h1]
      · have h2 : Nat.beq a.toNat b.toNat = false := Tree.beq_false fun e' => e (UInt8.toNat_inj.1 e')
        simp [h1, h2, h, e]

section
variable {P : Program} {w : World}

theorem intOp_run {op : BinOp} {k : IntKind} {a b : Int} {v : Value} (h : intOp op k a b = some v) (hs : op ≠ .shl) (hr : op ≠ .shr) (t : TypeId) :
    (Go.binOp op t (.int k a) (.int k b)).run P w = .ok v w := by
  cases op <;> simp only [intOp, Option.some.injEq] at h <;> first
    | (subst h; simp [Go.binOp, Op.intArith, Op.intCmp, Op.intBits]; done)
    | (split at h
       · cases h
       · rename_i hb; cases h; simp [Go.binOp, Op.intDiv, hb])
    | cases h
    | simp at hs
    | simp at hr

theorem strAdd_run {a b : List UInt8} {v : Value} (h : (bif Nat.ble (a.length + b.length) 1000000000 then some (Value.string ⟨⟨a ++ b⟩⟩) else none) = some v) (t : TypeId) :
    (Go.binOp .add t (.string ⟨⟨a⟩⟩) (.string ⟨⟨b⟩⟩)).run P w = .ok v w := by
  cases hb : Nat.ble (a.length + b.length) 1000000000 with
  | false => simp [hb] at h
  | true =>
    simp only [hb, cond_true, Option.some.injEq] at h
    subst h
    have hle := Nat.le_of_ble_eq_true hb
    have hsz : (ByteArray.mk ⟨a⟩).size + (ByteArray.mk ⟨b⟩).size ≤ 9223372036854775807 := by
      show a.length + b.length ≤ _
      omega
    have := run_string_add_sum (P := P) (w := w) (ByteArray.mk ⟨a⟩) (ByteArray.mk ⟨b⟩) hsz
    rw [binOp_string_add, this]
    have e := ByteArray.mk_append_mk a b
    simp only [List.toArray] at e
    rw [e]

theorem strOp_run {op : BinOp} {a b : List UInt8} {v : Value} (h : strOp op a b = some v) (t : TypeId) :
    (Go.binOp op t (.string ⟨⟨a⟩⟩) (.string ⟨⟨b⟩⟩)).run P w = .ok v w := by
  have ta : (ByteArray.mk ⟨a⟩).toList = a := by rw [ByteArray.toList_eq]
  have tb : (ByteArray.mk ⟨b⟩).toList = b := by rw [ByteArray.toList_eq]
  cases op <;> simp only [strOp, Option.some.injEq] at h <;> first
    | (subst h; simp [Go.binOp, Op.stringOp, ta, tb, bytesEq_eq, bytesLt_eq]; done)
    | exact strAdd_run h t
    | cases h

theorem shiftOp_run {op : BinOp} {k k' : IntKind} {a b : Int} {v : Value} (h : shiftOp op k a b = some v) (t : TypeId) :
    (op = .shl ∨ op = .shr) → (Go.binOp op t (.int k a) (.int k' b)).run P w = .ok v w := by
  unfold shiftOp at h
  split at h
  · cases h
  · rename_i hb
    rintro (rfl | rfl) <;> simp at h <;> subst h <;> simp [Go.binOp, Op.shift, hb]

theorem unOp_run {op : UnOp} {x v : Value} (h : unOp op x = some v) : (Op.unary op x).run P w = .ok v w := by
  unfold unOp at h
  split at h
  · cases h; simp [Op.unary, Op.intArith]
  · cases h; simp [Op.unary]
  · cases h
end

section
variable {E : Env} {G : Nat} {w0 w : World} {φ : Phi} {m : Mem}

theorem not_frozen {b' : Nat} {c' : Array Value} {e : TypeId} (h : w.heap[b']? = some (.cells c' e (0, 0))) (i : Nat) : w.frozen? ⟨b', i, none⟩ = false := by
  simp [World.frozen?, h]

theorem notStr_sound (hR : Rel E.P G w0 φ m w) {b b' : Nat} (h : notStr m b = true) (hφ : φ b = some b') : ∃ c' e, w.heap[b']? = some (.cells c' e (0, 0)) := by
  unfold notStr at h
  split at h
  · rename_i n c e hm
    obtain ⟨c', fr, hob, _, _, h0, _⟩ := hR.obj b _ b' hm hφ
    rw [h0 rfl] at hob
    exact ⟨c', e, hob⟩
  · cases h

theorem notStr_alive {b : Nat} (h : notStr m b = true) : ∃ o, m.get b = some o ∧ o.alive = true := by
  unfold notStr at h
  split at h
  · rename_i n c e hm; exact ⟨_, hm, rfl⟩
  · cases h

theorem sameAddr_far (hR : Rel E.P G w0 φ m w) {a b : Nat} {oa ob : Nat} {a' b' : Nat} (ha : notStr m a = true) (hb : notStr m b = true) (hab : a ≠ b) (hφa : φ a = some a') (hφb : φ b = some b') :
    (sameAddr ⟨a', oa, none⟩ ⟨b', ob, none⟩).run E.P w = .ok false w := by
  obtain ⟨ca, ea, ha'⟩ := notStr_sound hR ha hφa
  obtain ⟨cb, eb, hb'⟩ := notStr_sound hR hb hφb
  obtain ⟨x, hx, hxa⟩ := notStr_alive ha
  obtain ⟨y, hy, hya⟩ := notStr_alive hb
  have hne : a' ≠ b' := fun e => hab (hR.inj a b x y a' hx hy hxa hya hφa (e ▸ hφb))
  simp [sameAddr, hne, not_frozen ha', noView, viewAt, World.shape?, ha', hb', mayBeOne, stringish, not_frozen hb']

theorem eqPtr_sound (hE : EnvOk E G) (hR : Rel E.P G w0 φ m w) {t : TypeId} {x y x' y' : Value} {r : Bool} (h : eqPtr E m t x y = some r) (hx : VR φ x x') (hy : VR φ y y') (d : Nat) :
    (Op.equalIn (d + 1) t x' y').run E.P w = .ok r w := by
  unfold eqPtr at h
  split at h
  · rename_i ht; cases h; cases hx.pnil_inv; cases hy.pnil_inv; simp [Op.equalIn, under_run hE ht]
  · rename_i ht; cases h; cases hx.pnil_inv; obtain ⟨b', rfl, _⟩ := hy.ptr_any; simp [Op.equalIn, under_run hE ht]
  · rename_i ht; cases h; cases hy.pnil_inv; obtain ⟨b', rfl, _⟩ := hx.ptr_any; simp [Op.equalIn, under_run hE ht]
  · rename_i e a b ht
    obtain ⟨ba, oa, sa⟩ := a
    obtain ⟨bb, ob, sb⟩ := b
    obtain ⟨a', rfl, hφa, hsa⟩ := hx.ptr_any
    obtain ⟨b', rfl, hφb, hsb⟩ := hy.ptr_any
    simp only at hφa hφb hsa hsb
    split at h
    · rename_i k hk
      cases hbb : Nat.beq ba bb with
      | true =>
        simp only [hbb, cond_true] at h
        have := Nat.eq_of_beq_eq_true hbb
        subst this
        rw [hφa] at hφb
        cases hφb
        split at h
        · cases h
          simp only [Op.equalIn, Sem.run_bind, under_run hE ht, Result.andThen_ok, size_run hE hk]
          simp only [sameAddr]
          simp
          rw [Bool.eq_iff_iff]; simp
        · cases h
      | false =>
        simp only [hbb, cond_false] at h
        cases hn : notStr m ba && notStr m bb with
        | false => simp [hn] at h
        | true =>
          simp only [hn, cond_true, Option.some.injEq] at h
          subst h
          simp only [Bool.and_eq_true] at hn
          have hne : ba ≠ bb := fun e => by subst e; simp at hbb
          have hs := sameAddr_far (E := E) (oa := oa) (ob := ob) hR hn.1 hn.2 hne hφa hφb
          simp [Op.equalIn, under_run hE ht, size_run hE hk, hs]
    · cases h
  · rename_i ht; cases h; cases hx.snil_inv; cases hy.snil_inv; simp [Op.equalIn, under_run hE ht]
  · rename_i ht; cases h; cases hx.snil_inv; cases hy <;> simp [Op.equalIn, under_run hE ht]
  · rename_i ht; cases h; cases hy.snil_inv; cases hx <;> simp [Op.equalIn, under_run hE ht]
  · rename_i ht; cases h; cases hx.mnil_inv; cases hy.mnil_inv; simp [Op.equalIn, under_run hE ht]
  · rename_i ht; cases h; cases hx.mnil_inv; obtain ⟨r', rfl, _⟩ := hy.map_inv; simp [Op.equalIn, under_run hE ht]
  · rename_i ht; cases h; cases hy.mnil_inv; obtain ⟨r', rfl, _⟩ := hx.map_inv; simp [Op.equalIn, under_run hE ht]
  · rename_i ht; cases h; cases hx.nilFunc_inv; cases hy.nilFunc_inv; simp [Op.equalIn, under_run hE ht]
  · rename_i ht; cases h; cases hx.nilFunc_inv; cases hy; simp [Op.equalIn, under_run hE ht]
  · rename_i ht; cases h; cases hy.nilFunc_inv; cases hx; simp [Op.equalIn, under_run hE ht]
  · cases h
end
end Go.Ev
