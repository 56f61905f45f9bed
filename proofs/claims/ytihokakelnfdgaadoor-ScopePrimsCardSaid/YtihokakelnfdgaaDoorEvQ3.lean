/- Part of an evaluator for closed runs, and of its proof (EvQ3). -/
import Derived.Test.YtihokakelnfdgaaDoorEvQ2
import Derived.Laws.StructEq
namespace Go.Ev
open Go.RowKit
set_option linter.unusedVariables false
set_option linter.unusedSectionVars false
variable [Sym]

section
variable {E : Env} {G : Nat} {w0 w : World} {φ : Phi} {m : Mem}

theorem part_run (hE : EnvOk E G) {t : TypeId} {d : TypeDesc} (ht : E.under t = some d) (hd : isAggD d = false) (l : List Value) (i : Nat) (v : Value) (h : l[i]? = some v) :
    (part t ⟨l⟩ i).run E.P w = .ok v w := by
  unfold part
  simp only [Sem.run_bind, agg_run hE ht, hd, Result.andThen_ok]
  simp [h]

theorem part_run_agg (hE : EnvOk E G) {t : TypeId} {d : TypeDesc} {k : Nat} (ht : E.under t = some d) (hd : isAggD d = true) (hk : E.size t = some k) (l : List Value) (i : Nat) :
    (part t ⟨l⟩ i).run E.P w = .ok (.agg ⟨(l.drop i).take k⟩) w := by
  unfold part
  simp only [Sem.run_bind, agg_run hE ht, hd, Result.andThen_ok]
  simp [size_run hE hk]

theorem eqFlds_run (hE : EnvOk E G) (d : Nat) : ∀ (fs : List Field) (i : Nat) (l r l' r' : List Value) (xs ys : List Value) (b : Bool), eqFlds E i fs l r = some b → VRs φ l l' → VRs φ r r' →
    xs.drop i = l' → ys.drop i = r' → (Op.eqFields (d + 1) ⟨xs⟩ ⟨ys⟩ fs).run E.P w = .ok b w := by
  intro fs
  induction fs with
  | nil =>
    intro i l r l' r' xs ys b h hl hr hx hy
    cases l <;> cases r <;> simp [eqFlds] at h
    subst h
    simp [Op.eqFields]
  | cons f fs ih =>
    intro i l r l' r' xs ys b h hl hr hx hy
    cases hl with
    | nil => simp [eqFlds] at h
    | cons hv hl =>
      rename_i v v' l l'
      cases hr with
      | nil => simp [eqFlds] at h
      | cons hu hr =>
        rename_i u u' r r'
        simp only [eqFlds] at h
        cases hc : (Nat.beq f.offset i && (f.name != "_")) with
        | false => simp [hc] at h
        | true =>
          simp only [hc, cond_true] at h
          simp only [Bool.and_eq_true, bne_iff_ne] at hc
          obtain ⟨ho, hn⟩ := hc
          have ho := Nat.eq_of_beq_eq_true ho
          have gx : xs[f.offset]? = some v' := by rw [ho]; have := congrArg (·[0]?) hx; simpa using this
          have gy : ys[f.offset]? = some u' := by rw [ho]; have := congrArg (·[0]?) hy; simpa using this
          have nx : xs.drop (i + 1) = l' := by rw [← List.drop_drop, hx]; rfl
          have ny : ys.drop (i + 1) = r' := by rw [← List.drop_drop, hy]; rfl
          have rec1 := fun b h => ih (i + 1) l r l' r' xs ys b h hl hr nx ny
          simp only [Op.eqFields, ne_eq, hn, not_false_eq_true, if_true]
          split at h
          · rename_i a c ht
            cases hv.bool_inv; cases hu.bool_inv
            simp only [Sem.run_bind, part_run hE ht rfl _ _ _ gx, part_run hE ht rfl _ _ _ gy, Result.andThen_ok, run_equalIn_bool w d _ _ _ (under_eq hE ht)]
            cases hac : a == c with
            | true => simp only [hac, cond_true] at h; simpa using rec1 b h
            | false => simp only [hac, cond_false, Option.some.injEq] at h; subst h; simp
          · rename_i k a k' c ht
            cases hv.int_inv; cases hu.int_inv
            split at h
            · rename_i hk
              subst hk
              simp only [Sem.run_bind, part_run hE ht rfl _ _ _ gx, part_run hE ht rfl _ _ _ gy, Result.andThen_ok, run_equalIn_int w d _ _ _ _ _ (under_eq hE ht)]
              cases hac : a == c with
              | true => simp only [hac, cond_true] at h; simpa using rec1 b h
              | false => simp only [hac, cond_false, Option.some.injEq] at h; subst h; simp
            · cases h
          · rename_i a c ht
            cases hv.string_inv; cases hu.string_inv
            simp only [Sem.run_bind, part_run hE ht rfl _ _ _ gx, part_run hE ht rfl _ _ _ gy, Result.andThen_ok, run_equalIn_string w d _ _ _ (under_eq hE ht)]
            have e1 : (ByteArray.mk ⟨a⟩).toList = a := by rw [ByteArray.toList_eq]
            have e2 : (ByteArray.mk ⟨c⟩).toList = c := by rw [ByteArray.toList_eq]
            rw [bytesEq_eq] at h
            rw [e1, e2]
            cases hac : a == c with
            | true => simp only [hac, cond_true] at h; simpa using rec1 b h
            | false => simp only [hac, cond_false, Option.some.injEq] at h; subst h; simp
          · cases h

theorem eqAny_run (hE : EnvOk E G) (hR : Rel E.P G w0 φ m w) {t : TypeId} {x y x' y' : Value} {r : Bool} (h : eqAny E m t x y = some r) (hx : VR φ x x') (hy : VR φ y y') :
    (Op.equal t x' y').run E.P w = .ok r w := by
  unfold eqAny at h
  split at h
  · rename_i a b
    split at h
    · rename_i ht
      cases h
      cases hx.bool_inv; cases hy.bool_inv
      exact run_equal_bool w t a b (under_eq hE ht)
    · cases h
  · rename_i a b
    split at h
    · rename_i fs ht
      cases he : E.eqs.any (Nat.beq t) with
      | false => simp [he] at h
      | true =>
        simp only [he, cond_true] at h
        obtain ⟨l', rfl, hl⟩ := hx.agg_inv
        obtain ⟨r', rfl, hr⟩ := hy.agg_inv
        have ht' := under_eq hE ht
        have hfs : E.P.fieldsOf t = fs := by simp [Program.fieldsOf, ht']
        have := run_equalIn_struct (P := E.P) w 9999 t ⟨l'⟩ ⟨r'⟩ (by rw [hfs]; exact ht') (hE.eqs t he).1
        show (Op.equalIn (9999 + 1) t (.agg ⟨l'⟩) (.agg ⟨r'⟩)).run E.P w = _
        rw [this, hfs]
        exact eqFlds_run hE 9998 fs.toList 0 a b l' r' l' r' r h hl hr rfl rfl
    · cases h
  · exact eqPtr_sound hE hR h hx hy 9999

theorem eqGuard_other {P : Program} (op : BinOp) (t : TypeId) (ox oy : Operand) {a b : Value} (h1 : ¬ ∃ l r, a = .agg l ∧ b = .agg r) (h2 : ¬ (a = .nilIface ∧ b = .nilIface)) :
    (eqGuard op t ox oy a b).run P w = .ok () w := by
  cases op <;> first
    | rfl
    | (cases a <;> first
        | rfl
        | (cases b <;> first | rfl | exact absurd ⟨_, _, rfl, rfl⟩ h1 | exact absurd ⟨rfl, rfl⟩ h2))

theorem eqGuard_run (hE : EnvOk E G) {t : TypeId} {x y x' y' : Value} {r : Bool} (h : eqAny E m t x y = some r) (hx : VR φ x x') (hy : VR φ y y') (op : BinOp) (ox oy : Operand) :
    (eqGuard op t ox oy x' y').run E.P w = .ok () w := by
  by_cases hag : ∃ l r, x' = .agg l ∧ y' = .agg r
  · obtain ⟨l, r', rfl, rfl⟩ := hag
    cases hx with
    | tok _ _ hv => simp [tokOk] at hv
    | agg hl =>
      cases hy with
      | tok _ _ hv => simp [tokOk] at hv
      | agg hr =>
        simp only [eqAny] at h
        split at h
        · cases he : E.eqs.any (Nat.beq t) with
          | false => simp [he] at h
          | true => exact run_eqGuard_agg w op t ox oy _ _ (hE.eqs t he).2
        · cases h
  · have hni : ¬ (x' = .nilIface ∧ y' = .nilIface) := by
      rintro ⟨rfl, rfl⟩
      cases hx with
      | tok _ _ hv => simp [tokOk] at hv
      | nilIface =>
        cases hy with
        | tok _ _ hv => simp [tokOk] at hv
        | nilIface => simp [eqAny, eqPtr] at h
    exact eqGuard_other op t ox oy hag hni

theorem eql_form {t : TypeId} {x y x' y' : Value} {r : Bool} (h : eqAny E m t x y = some r) (hx : VR φ x x') (hy : VR φ y y') :
    Go.binOp .eql t x' y' = (do pure (.bool (← Op.equal t x' y'))) ∧ Go.binOp .neq t x' y' = (do pure (.bool (!(← Op.equal t x' y')))) := by
  unfold eqAny at h
  split at h
  · cases hx; cases hy; exact ⟨rfl, rfl⟩
  · cases hx; cases hy; exact ⟨rfl, rfl⟩
  · unfold eqPtr at h
    split at h <;> first | cases h | skip
    all_goals (cases hx <;> cases hy <;> exact ⟨rfl, rfl⟩)

theorem binOp0_sound (hE : EnvOk E G) (hR : Rel E.P G w0 φ m w) {op : BinOp} {t : TypeId} {x y x' y' v : Value} (h : binOp0 E m op t x y = some v) (hx : VR φ x x') (hy : VR φ y y') (ox oy : Operand) :
    (do eqGuard op t ox oy x' y'; Go.binOp op t x' y' : Sem Value).run E.P w = .ok v w := by
  have guardInt : ∀ k n k' n', x' = .int k n → y' = .int k' n' → (eqGuard op t ox oy x' y').run E.P w = .ok () w := by
    rintro k n k' n' rfl rfl
    exact eqGuard_other op t ox oy (by simp) (by simp)
  have guardStr : ∀ s s', x' = .string s → y' = .string s' → (eqGuard op t ox oy x' y').run E.P w = .ok () w := by
    rintro s s' rfl rfl
    exact eqGuard_other op t ox oy (by simp) (by simp)
  unfold binOp0 at h
  split at h
  · cases hx.int_inv; cases hy.int_inv
    rw [Sem.run_bind, guardInt _ _ _ _ rfl rfl]
    exact shiftOp_run h t (.inl rfl)
  · cases hx.int_inv; cases hy.int_inv
    rw [Sem.run_bind, guardInt _ _ _ _ rfl rfl]
    exact shiftOp_run h t (.inr rfl)
  · rename_i k a k' b hs1 hs2
    split at h
    · rename_i hk
      subst hk
      cases hx.int_inv; cases hy.int_inv
      rw [Sem.run_bind, guardInt _ _ _ _ rfl rfl]
      refine intOp_run h ?_ ?_ t
      · exact fun e => hs1 e
      · exact fun e => hs2 e
    · cases h
  · cases hx.string_inv; cases hy.string_inv
    rw [Sem.run_bind, guardStr _ _ rfl rfl]
    exact strOp_run h t
  · rename_i hni hns
    split at h
    · cases h
    · rename_i r hr
      cases h
      rw [Sem.run_bind, eqGuard_run hE hr hx hy, (eql_form hr hx hy).1]
      simp [eqAny_run hE hR hr hx hy]
  · rename_i hni hns
    split at h
    · cases h
    · rename_i r hr
      cases h
      rw [Sem.run_bind, eqGuard_run hE hr hx hy, (eql_form hr hx hy).2]
      simp [eqAny_run hE hR hr hx hy]
  · cases h

theorem intOp_plain {op : BinOp} {k : IntKind} {a b : Int} {v : Value} (h : intOp op k a b = some v) : plainV v = true := by
  cases op <;> simp only [intOp, Option.some.injEq] at h <;> first | (subst h; rfl) | (cases h; done) | (split at h <;> first | (cases h; done) | (cases h; rfl))

theorem strOp_plain {op : BinOp} {a b : List UInt8} {v : Value} (h : strOp op a b = some v) : plainV v = true := by
  cases op <;> simp only [strOp, Option.some.injEq] at h <;> first | (subst h; rfl) | cases h | (cases hb : Nat.ble (a.length + b.length) 1000000000 <;> simp [hb] at h; subst h; rfl)

theorem shiftOp_plain {op : BinOp} {k : IntKind} {a b : Int} {v : Value} (h : shiftOp op k a b = some v) : plainV v = true := by
  unfold shiftOp at h
  split at h
  · cases h
  · cases op <;> simp at h <;> subst h <;> rfl

theorem binOp0_plain {op : BinOp} {t : TypeId} {x y v : Value} (h : binOp0 E m op t x y = some v) : VR φ v v := by
  refine VR.plain v ?_
  unfold binOp0 at h
  split at h
  · exact shiftOp_plain h
  · exact shiftOp_plain h
  · split at h
    · exact intOp_plain h
    · cases h
  · exact strOp_plain h
  · split at h <;> cases h; rfl
  · split at h <;> cases h; rfl
  · cases h

theorem binOp_sound (hE : EnvOk E G) (hR : Rel E.P G w0 φ m w) {op : BinOp} {t : TypeId} {x y x' y' v : Value} (h : binOp E m op t x y = some v) (hx : VR φ x x') (hy : VR φ y y') (ox oy : Operand) :
    (do eqGuard op t ox oy x' y'; Go.binOp op t x' y' : Sem Value).run E.P w = .ok v w ∧ VR φ v v := by
  unfold binOp at h
  split at h
  · rename_i r hf
    cases h
    cases hb : (isTok x || isTok y) with
    | false => rw [hb] at hf; cases hf
    | true =>
      rw [hb] at hf
      obtain ⟨u, z, h1, h2, h3, h4, h5⟩ := hE.facts op x y v hf
      obtain rfl := h1 φ x' hx
      obtain rfl := h2 φ y' hy
      exact ⟨binOp0_sound hE hR (h5 m t) (VR.plain _ h3) (VR.plain _ h4) ox oy, binOp0_plain (h5 m t)⟩
  · exact ⟨binOp0_sound hE hR h hx hy ox oy, binOp0_plain h⟩

theorem unOp_plain {op : UnOp} {x v : Value} (h : unOp op x = some v) : VR φ v v := by
  unfold unOp at h
  split at h <;> cases h <;> constructor

end
end Go.Ev
