/- Part of a verified evaluator of the model's programs and of runs by it: EvQ2 EvQ3 EvQ4 EvQ5 EvQ6 EvQ7 EvQ8 EvA. -/
import Derived.Test.YthhcnfgeacnfiaaGreatDoorEvA
import Derived.Laws.StructEq
import Derived.Laws.Tables
import Derived.Laws.IdiomCopy
namespace Go.Ev
set_option linter.unusedSimpArgs false
open Go.RowKit
set_option linter.unusedVariables false
set_option linter.unusedSectionVars false
variable [Sym]

theorem bytesEq_eq : ∀ (a b : List UInt8), bytesEq a b = (a == b)
  | [], [] => rfl
  | [], b :: r => rfl
  | a :: l, [] => rfl
  | a :: l, b :: r => by
    simp only [bytesEq, List.cons_beq_cons, bytesEq_eq l r]
    by_cases h : a = b
    · subst h; simp
    · have : Nat.beq a.toNat b.toNat = false := Tree.beq_false fun e => h (UInt8.toNat_inj.1 e)
      simp [this, h]

theorem bytesLt_eq : ∀ (a b : List UInt8), bytesLt a b = Op.bytesLess a b
  | [], [] => rfl
  | _ :: _, [] => rfl
  | [], _ :: _ => rfl
  | a :: x, b :: y => by
    simp only [bytesLt, Op.bytesLess, bytesLt_eq x y]
    by_cases h : a < b
    · have : Nat.blt a.toNat b.toNat = true := by simpa [Nat.blt_eq, UInt8.lt_iff_toNat_lt] using h
      simp [this, h]
    · have h1 : Nat.blt a.toNat b.toNat = false := by
        cases hb : Nat.blt a.toNat b.toNat
        · rfl
        · exact absurd (by simpa [Nat.blt_eq, UInt8.lt_iff_toNat_lt] using hb) h
      by_cases e : a = b
      · subst e; simp [h1]
      · have h2 : Nat.beq a.toNat b.toNat = false := Tree.beq_false fun e' => e (UInt8.toNat_inj.1 e')
        simp [h1, h2, h, e]

section
variable {P : Program} {w : World}

theorem intOp_run {op : BinOp} {k : IntKind} {a b : Int} {v : Value} (h : intOp op k a b = some v) (hs : op ≠ .shl) (hr : op ≠ .shr) (t : TypeId) :
    (Go.binOp op t (.int k a) (.int k b)).run P w = .ok v w := by
  cases op <;> simp only [intOp, Option.some.injEq] at h <;> first
    | (subst h; simp [Go.binOp, Op.intArith, Op.intCmp, Op.intBits]; done)
    | (split at h
       · cases h
       · rename_i hb; cases h; simp [Go.binOp, Op.intDiv, hb])
    | cases h
    | simp at hs
    | simp at hr

theorem strAdd_run {a b : List UInt8} {v : Value} (h : (bif Nat.ble (a.length + b.length) 4611686018427387904 then some (Value.string ⟨⟨a ++ b⟩⟩) else none) = some v) (t : TypeId) :
    (Go.binOp .add t (.string ⟨⟨a⟩⟩) (.string ⟨⟨b⟩⟩)).run P w = .ok v w := by
  cases hb : Nat.ble (a.length + b.length) 4611686018427387904 with
  | false => simp [hb] at h
  | true =>
    simp only [hb, cond_true, Option.some.injEq] at h
    subst h
    have hle := Nat.le_of_ble_eq_true hb
    have hsz : (ByteArray.mk ⟨a⟩).size + (ByteArray.mk ⟨b⟩).size ≤ 9223372036854775807 := by
      show a.length + b.length ≤ _
      omega
    have := run_string_add_sum (P := P) (w := w) (ByteArray.mk ⟨a⟩) (ByteArray.mk ⟨b⟩) hsz
    rw [binOp_string_add, this]
    have e := ByteArray.mk_append_mk a b
    simp only [List.toArray] at e
    rw [e]

theorem strOp_run {op : BinOp} {a b : List UInt8} {v : Value} (h : strOp op a b = some v) (t : TypeId) :
    (Go.binOp op t (.string ⟨⟨a⟩⟩) (.string ⟨⟨b⟩⟩)).run P w = .ok v w := by
  have ta : (ByteArray.mk ⟨a⟩).toList = a := by rw [ByteArray.toList_eq]
  have tb : (ByteArray.mk ⟨b⟩).toList = b := by rw [ByteArray.toList_eq]
  cases op <;> simp only [strOp, Option.some.injEq] at h <;> first
    | (subst h; simp [Go.binOp, Op.stringOp, ta, tb, bytesEq_eq, bytesLt_eq]; done)
    | exact strAdd_run h t
    | cases h

theorem shiftOp_run {op : BinOp} {k k' : IntKind} {a b : Int} {v : Value} (h : shiftOp op k a b = some v) (t : TypeId) :
    (op = .shl ∨ op = .shr) → (Go.binOp op t (.int k a) (.int k' b)).run P w = .ok v w := by
  unfold shiftOp at h
  split at h
  · cases h
  · rename_i hb
    rintro (rfl | rfl) <;> simp at h <;> subst h <;> simp [Go.binOp, Op.shift, hb]

theorem unOp_run {op : UnOp} {x v : Value} (h : unOp op x = some v) : (Op.unary op x).run P w = .ok v w := by
  unfold unOp at h
  split at h
  · cases h; simp [Op.unary, Op.intArith]
  · cases h; simp [Op.unary]
  · cases h
end

section
variable {E : Env} {G : Nat} {w0 w : World} {φ : Phi} {m : Mem}

theorem not_frozen {b' : Nat} {c' : Array Value} {e : TypeId} (h : w.heap[b']? = some (.cells c' e (0, 0))) (i : Nat) : w.frozen? ⟨b', i, none⟩ = false := by
  simp [World.frozen?, h]

theorem notStr_sound (hR : Rel E.P G w0 φ m w) {b b' : Nat} (h : notStr m b = true) (hφ : φ b = some b') : ∃ c' e, w.heap[b']? = some (.cells c' e (0, 0)) := by
  unfold notStr at h
  split at h
  · rename_i n c e hm
    obtain ⟨c', fr, ⟨e2, hob, _⟩, _, _, h0, _⟩ := hR.obj b _ b' hm hφ
    rw [h0 rfl] at hob
    exact ⟨c', e2, hob⟩
  · cases h

theorem notStr_alive {b : Nat} (h : notStr m b = true) : ∃ o, m.get b = some o ∧ o.alive = true := by
  unfold notStr at h
  split at h
  · rename_i n c e hm; exact ⟨_, hm, rfl⟩
  · cases h

theorem sameAddr_far (hR : Rel E.P G w0 φ m w) {a b : Nat} {oa ob : Nat} {a' b' : Nat} (ha : notStr m a = true) (hb : notStr m b = true) (hab : a ≠ b) (hφa : φ a = some a') (hφb : φ b = some b') :
    (sameAddr ⟨a', oa, none⟩ ⟨b', ob, none⟩).run E.P w = .ok false w := by
  obtain ⟨ca, ea, ha'⟩ := notStr_sound hR ha hφa
  obtain ⟨cb, eb, hb'⟩ := notStr_sound hR hb hφb
  obtain ⟨x, hx, hxa⟩ := notStr_alive ha
  obtain ⟨y, hy, hya⟩ := notStr_alive hb
  have hne : a' ≠ b' := fun e => hab (hR.inj a b x y a' hx hy hxa hya hφa (e ▸ hφb))
  simp [sameAddr, hne, not_frozen ha', noView, viewAt, World.shape?, ha', hb', mayBeOne, stringish, not_frozen hb']

theorem eqPtr_sound (hE : EnvOk E G) (hR : Rel E.P G w0 φ m w) {t : TypeId} {x y x' y' : Value} {r : Bool} (h : eqPtr E m t x y = some r) (hx : VR φ x x') (hy : VR φ y y') (d : Nat) :
    (Op.equalIn (d + 1) t x' y').run E.P w = .ok r w := by
  unfold eqPtr at h
  split at h
  · rename_i ht; cases h; cases hx.pnil_inv; cases hy.pnil_inv; simp [Op.equalIn, under_run hE ht]
  · rename_i ht; cases h; cases hx.pnil_inv; obtain ⟨b', rfl, _⟩ := hy.ptr_any; simp [Op.equalIn, under_run hE ht]
  · rename_i ht; cases h; cases hy.pnil_inv; obtain ⟨b', rfl, _⟩ := hx.ptr_any; simp [Op.equalIn, under_run hE ht]
  · rename_i e a b ht
    obtain ⟨ba, oa, sa⟩ := a
    obtain ⟨bb, ob, sb⟩ := b
    obtain ⟨a', rfl, hφa, hsa⟩ := hx.ptr_any
    obtain ⟨b', rfl, hφb, hsb⟩ := hy.ptr_any
    simp only at hφa hφb hsa hsb
    split at h
    · rename_i k hk
      cases hbb : Nat.beq ba bb with
      | true =>
        simp only [hbb, cond_true] at h
        have := Nat.eq_of_beq_eq_true hbb
        subst this
        rw [hφa] at hφb
        cases hφb
        split at h
        · cases h
          simp only [Op.equalIn, Sem.run_bind, under_run hE ht, Result.andThen_ok, size_run hE hk]
          simp only [sameAddr]
          simp
          rw [Bool.eq_iff_iff]; simp
        · cases h
      | false =>
        simp only [hbb, cond_false] at h
        cases hn : notStr m ba && notStr m bb with
        | false => simp [hn] at h
        | true =>
          simp only [hn, cond_true, Option.some.injEq] at h
          subst h
          simp only [Bool.and_eq_true] at hn
          have hne : ba ≠ bb := fun e => by subst e; simp at hbb
          have hs := sameAddr_far (E := E) (oa := oa) (ob := ob) hR hn.1 hn.2 hne hφa hφb
          simp [Op.equalIn, under_run hE ht, size_run hE hk, hs]
    · cases h
  · rename_i ht; cases h; cases hx.snil_inv; cases hy.snil_inv; simp [Op.equalIn, under_run hE ht]
  · rename_i ht; cases h; cases hx.snil_inv; cases hy <;> simp [Op.equalIn, under_run hE ht]
  · rename_i ht; cases h; cases hy.snil_inv; cases hx <;> simp [Op.equalIn, under_run hE ht]
  · rename_i ht; cases h; cases hx.mnil_inv; cases hy.mnil_inv; simp [Op.equalIn, under_run hE ht]
  · rename_i ht; cases h; cases hx.mnil_inv; obtain ⟨r', rfl, _⟩ := hy.map_inv; simp [Op.equalIn, under_run hE ht]
  · rename_i ht; cases h; cases hy.mnil_inv; obtain ⟨r', rfl, _⟩ := hx.map_inv; simp [Op.equalIn, under_run hE ht]
  · rename_i ht; cases h; cases hx.nilFunc_inv; cases hy.nilFunc_inv; simp [Op.equalIn, under_run hE ht]
  · rename_i ht; cases h; cases hx.nilFunc_inv; cases hy; simp [Op.equalIn, under_run hE ht]
  · rename_i ht; cases h; cases hy.nilFunc_inv; cases hx; simp [Op.equalIn, under_run hE ht]
  · cases h
end
end Go.Ev

namespace Go.Ev
set_option linter.unusedSimpArgs false
open Go.RowKit
set_option linter.unusedVariables false
set_option linter.unusedSectionVars false
variable [Sym]

section
variable {E : Env} {G : Nat} {w0 w : World} {φ : Phi} {m : Mem}

theorem part_run (hE : EnvOk E G) {t : TypeId} {d : TypeDesc} (ht : E.under t = some d) (hd : isAggD d = false) (l : List Value) (i : Nat) (v : Value) (h : l[i]? = some v) :
  (part t ⟨l⟩ i).run E.P w = .ok v w := by
 unfold part
 simp only [Sem.run_bind, agg_run hE ht, hd, Result.andThen_ok]
 simp [h]

theorem part_run_agg (hE : EnvOk E G) {t : TypeId} {d : TypeDesc} {k : Nat} (ht : E.under t = some d) (hd : isAggD d = true) (hk : E.size t = some k) (l : List Value) (i : Nat) :
  (part t ⟨l⟩ i).run E.P w = .ok (.agg ⟨(l.drop i).take k⟩) w := by
 unfold part
 simp only [Sem.run_bind, agg_run hE ht, hd, Result.andThen_ok]
 simp [size_run hE hk]

theorem eqFlds_run (hE : EnvOk E G) (d : Nat) : ∀ (fs : List Field) (i : Nat) (l r l' r' : List Value) (xs ys : List Value) (b : Bool), eqFlds E i fs l r = some b → VRs φ l l' → VRs φ r r' →
  xs.drop i = l' → ys.drop i = r' → (Op.eqFields (d + 1) ⟨xs⟩ ⟨ys⟩ fs).run E.P w = .ok b w := by
 intro fs
 induction fs with
 | nil =>
  intro i l r l' r' xs ys b h hl hr hx hy
  cases l <;> cases r <;> simp [eqFlds] at h
  subst h
  simp [Op.eqFields]
 | cons f fs ih =>
  intro i l r l' r' xs ys b h hl hr hx hy
  cases hl with
  | nil => simp [eqFlds] at h
  | cons hv hl =>
   rename_i v v' l l'
   cases hr with
   | nil => simp [eqFlds] at h
   | cons hu hr =>
    rename_i u u' r r'
    simp only [eqFlds] at h
    cases hc : (Nat.beq f.offset i && (f.name != "_")) with
    | false => simp [hc] at h
    | true =>
     simp only [hc, cond_true] at h
     simp only [Bool.and_eq_true, bne_iff_ne] at hc
     obtain ⟨ho, hn⟩ := hc
     have ho := Nat.eq_of_beq_eq_true ho
     have gx : xs[f.offset]? = some v' := by rw [ho]; have := congrArg (·[0]?) hx; simpa using this
     have gy : ys[f.offset]? = some u' := by rw [ho]; have := congrArg (·[0]?) hy; simpa using this
     have nx : xs.drop (i + 1) = l' := by rw [← List.drop_drop, hx]; rfl
     have ny : ys.drop (i + 1) = r' := by rw [← List.drop_drop, hy]; rfl
     have rec1 := fun b h => ih (i + 1) l r l' r' xs ys b h hl hr nx ny
     simp only [Op.eqFields, ne_eq, hn, not_false_eq_true, if_true]
     split at h
     ·rename_i a c ht
      cases hv.bool_inv; cases hu.bool_inv
      simp only [Sem.run_bind, part_run hE ht rfl _ _ _ gx, part_run hE ht rfl _ _ _ gy, Result.andThen_ok, run_equalIn_bool w d _ _ _ (under_eq hE ht)]
      cases hac : a == c with
      | true => simp only [hac, cond_true] at h; simpa using rec1 b h
      | false => simp only [hac, cond_false, Option.some.injEq] at h; subst h; simp
     ·rename_i k a k' c ht
      cases hv.int_inv; cases hu.int_inv
      split at h
      ·rename_i hk
       subst hk
       simp only [Sem.run_bind, part_run hE ht rfl _ _ _ gx, part_run hE ht rfl _ _ _ gy, Result.andThen_ok, run_equalIn_int w d _ _ _ _ _ (under_eq hE ht)]
       cases hac : a == c with
       | true => simp only [hac, cond_true] at h; simpa using rec1 b h
       | false => simp only [hac, cond_false, Option.some.injEq] at h; subst h; simp
      ·cases h
     ·rename_i a c ht
      cases hv.string_inv; cases hu.string_inv
      simp only [Sem.run_bind, part_run hE ht rfl _ _ _ gx, part_run hE ht rfl _ _ _ gy, Result.andThen_ok, run_equalIn_string w d _ _ _ (under_eq hE ht)]
      have e1 : (ByteArray.mk ⟨a⟩).toList = a := by rw [ByteArray.toList_eq]
      have e2 : (ByteArray.mk ⟨c⟩).toList = c := by rw [ByteArray.toList_eq]
      rw [bytesEq_eq] at h
      rw [e1, e2]
      cases hac : a == c with
      | true => simp only [hac, cond_true] at h; simpa using rec1 b h
      | false => simp only [hac, cond_false, Option.some.injEq] at h; subst h; simp
     ·cases h

theorem eqAny_run (hE : EnvOk E G) (hR : Rel E.P G w0 φ m w) {t : TypeId} {x y x' y' : Value} {r : Bool} (h : eqAny E m t x y = some r) (hx : VR φ x x') (hy : VR φ y y') :
  (Op.equal t x' y').run E.P w = .ok r w := by
 unfold eqAny at h
 split at h
 ·rename_i a b
  split at h
  ·rename_i ht
   cases h
   cases hx.bool_inv; cases hy.bool_inv
   exact run_equal_bool w t a b (under_eq hE ht)
  ·cases h
 ·rename_i a b
  split at h
  ·rename_i fs ht
   cases he : E.eqs.any (Nat.beq t) with
   | false => simp [he] at h
   | true =>
    simp only [he, cond_true] at h
    obtain ⟨l', rfl, hl⟩ := hx.agg_inv
    obtain ⟨r', rfl, hr⟩ := hy.agg_inv
    have ht' := under_eq hE ht
    have hfs : E.P.fieldsOf t = fs := by simp [Program.fieldsOf, ht']
    have := run_equalIn_struct (P := E.P) w 9999 t ⟨l'⟩ ⟨r'⟩ (by rw [hfs]; exact ht') (hE.eqs t he).1
    show (Op.equalIn (9999 + 1) t (.agg ⟨l'⟩) (.agg ⟨r'⟩)).run E.P w = _
    rw [this, hfs]
    exact eqFlds_run hE 9998 fs.toList 0 a b l' r' l' r' r h hl hr rfl rfl
  ·cases h
 ·exact eqPtr_sound hE hR h hx hy 9999

theorem eqGuard_other {P : Program} (op : BinOp) (t : TypeId) (ox oy : Operand) {a b : Value} (h1 : ¬ ∃ l r, a = .agg l ∧ b = .agg r) (h2 : ¬ (a = .nilIface ∧ b = .nilIface)) :
  (eqGuard op t ox oy a b).run P w = .ok () w := by
 cases op <;> first
  | rfl
  | (cases a <;> first
    | rfl
    | (cases b <;> first | rfl | exact absurd ⟨_, _, rfl, rfl⟩ h1 | exact absurd ⟨rfl, rfl⟩ h2))

theorem eqGuard_run (hE : EnvOk E G) {t : TypeId} {x y x' y' : Value} {r : Bool} (h : eqAny E m t x y = some r) (hx : VR φ x x') (hy : VR φ y y') (op : BinOp) (ox oy : Operand) :
  (eqGuard op t ox oy x' y').run E.P w = .ok () w := by
 by_cases hag : ∃ l r, x' = .agg l ∧ y' = .agg r
 ·obtain ⟨l, r', rfl, rfl⟩ := hag
  cases hx with
  | tok _ _ hv => simp [tokOk] at hv
  | agg hl =>
   cases hy with
   | tok _ _ hv => simp [tokOk] at hv
   | agg hr =>
    simp only [eqAny] at h
    split at h
    ·cases he : E.eqs.any (Nat.beq t) with
     | false => simp [he] at h
     | true => exact run_eqGuard_agg w op t ox oy _ _ (hE.eqs t he).2
    ·cases h
 ·have hni : ¬ (x' = .nilIface ∧ y' = .nilIface) := by
   rintro ⟨rfl, rfl⟩
   cases hx with
   | tok _ _ hv => simp [tokOk] at hv
   | nilIface =>
    cases hy with
    | tok _ _ hv => simp [tokOk] at hv
    | nilIface => simp [eqAny, eqPtr] at h
  exact eqGuard_other op t ox oy hag hni

theorem eql_form {t : TypeId} {x y x' y' : Value} {r : Bool} (h : eqAny E m t x y = some r) (hx : VR φ x x') (hy : VR φ y y') :
  Go.binOp .eql t x' y' = (do pure (.bool (← Op.equal t x' y'))) ∧ Go.binOp .neq t x' y' = (do pure (.bool (!(← Op.equal t x' y')))) := by
 unfold eqAny at h
 split at h
 ·cases hx; cases hy; exact ⟨rfl, rfl⟩
 ·cases hx; cases hy; exact ⟨rfl, rfl⟩
 ·unfold eqPtr at h
  split at h <;> first | cases h | skip
  all_goals (cases hx <;> cases hy <;> exact ⟨rfl, rfl⟩)

theorem binOp0_sound (hE : EnvOk E G) (hR : Rel E.P G w0 φ m w) {op : BinOp} {t : TypeId} {x y x' y' v : Value} (h : binOp0 E m op t x y = some v) (hx : VR φ x x') (hy : VR φ y y') (ox oy : Operand) :
  (do eqGuard op t ox oy x' y'; Go.binOp op t x' y' : Sem Value).run E.P w = .ok v w := by
 have guardInt : ∀ k n k' n', x' = .int k n → y' = .int k' n' → (eqGuard op t ox oy x' y').run E.P w = .ok () w := by
  rintro k n k' n' rfl rfl
  exact eqGuard_other op t ox oy (by simp) (by simp)
 have guardStr : ∀ s s', x' = .string s → y' = .string s' → (eqGuard op t ox oy x' y').run E.P w = .ok () w := by
  rintro s s' rfl rfl
  exact eqGuard_other op t ox oy (by simp) (by simp)
 unfold binOp0 at h
 split at h
 ·cases hx.int_inv; cases hy.int_inv
  rw [Sem.run_bind, guardInt _ _ _ _ rfl rfl]
  exact shiftOp_run h t (.inl rfl)
 ·cases hx.int_inv; cases hy.int_inv
  rw [Sem.run_bind, guardInt _ _ _ _ rfl rfl]
  exact shiftOp_run h t (.inr rfl)
 ·rename_i k a k' b hs1 hs2
  split at h
  ·rename_i hk
   subst hk
   cases hx.int_inv; cases hy.int_inv
   rw [Sem.run_bind, guardInt _ _ _ _ rfl rfl]
   refine intOp_run h ?_ ?_ t
   ·exact fun e => hs1 e
   ·exact fun e => hs2 e
  ·cases h
 ·cases hx.string_inv; cases hy.string_inv
  rw [Sem.run_bind, guardStr _ _ rfl rfl]
  exact strOp_run h t
 ·rename_i hni hns
  split at h
  ·cases h
  ·rename_i r hr
   cases h
   rw [Sem.run_bind, eqGuard_run hE hr hx hy, (eql_form hr hx hy).1]
   simp [eqAny_run hE hR hr hx hy]
 ·rename_i hni hns
  split at h
  ·cases h
  ·rename_i r hr
   cases h
   rw [Sem.run_bind, eqGuard_run hE hr hx hy, (eql_form hr hx hy).2]
   simp [eqAny_run hE hR hr hx hy]
 ·cases h

theorem intOp_plain {op : BinOp} {k : IntKind} {a b : Int} {v : Value} (h : intOp op k a b = some v) : plainV v = true := by
 cases op <;> simp only [intOp, Option.some.injEq] at h <;> first | (subst h; rfl) | (cases h; done) | (split at h <;> first | (cases h; done) | (cases h; rfl))

theorem strOp_plain {op : BinOp} {a b : List UInt8} {v : Value} (h : strOp op a b = some v) : plainV v = true := by
 cases op <;> simp only [strOp, Option.some.injEq] at h <;> first | (subst h; rfl) | cases h | (cases hb : Nat.ble (a.length + b.length) 4611686018427387904 <;> simp [hb] at h; subst h; rfl)

theorem shiftOp_plain {op : BinOp} {k : IntKind} {a b : Int} {v : Value} (h : shiftOp op k a b = some v) : plainV v = true := by
 unfold shiftOp at h
 split at h
 ·cases h
 ·cases op <;> simp at h <;> subst h <;> rfl

theorem binOp0_plain {op : BinOp} {t : TypeId} {x y v : Value} (h : binOp0 E m op t x y = some v) : VR φ v v := by
 refine VR.plain v ?_
 unfold binOp0 at h
 split at h
 ·exact shiftOp_plain h
 ·exact shiftOp_plain h
 ·split at h
  ·exact intOp_plain h
  ·cases h
 ·exact strOp_plain h
 ·split at h <;> cases h; rfl
 ·split at h <;> cases h; rfl
 ·cases h

theorem binOp_sound (hE : EnvOk E G) (hR : Rel E.P G w0 φ m w) {op : BinOp} {t : TypeId} {x y x' y' v : Value} (h : binOp E m op t x y = some v) (hx : VR φ x x') (hy : VR φ y y') (ox oy : Operand) :
  (do eqGuard op t ox oy x' y'; Go.binOp op t x' y' : Sem Value).run E.P w = .ok v w ∧ VR φ v v := by
 unfold binOp at h
 split at h
 ·rename_i r hf
  cases h
  cases hb : (isTok x || isTok y) with
  | false => rw [hb] at hf; cases hf
  | true =>
   rw [hb] at hf
   obtain ⟨u, z, h1, h2, h3, h4, h5⟩ := hE.facts op x y v hf
   obtain rfl := h1 φ x' hx
   obtain rfl := h2 φ y' hy
   exact ⟨binOp0_sound hE hR (h5 m t) (VR.plain _ h3) (VR.plain _ h4) ox oy, binOp0_plain (h5 m t)⟩
 ·exact ⟨binOp0_sound hE hR h hx hy ox oy, binOp0_plain h⟩

theorem unOp_plain {op : UnOp} {x v : Value} (h : unOp op x = some v) : VR φ v v := by
 unfold unOp at h
 split at h <;> cases h <;> constructor

end
end Go.Ev

namespace Go.Ev
set_option linter.unusedSimpArgs false
open Go.RowKit
set_option linter.unusedVariables false
set_option linter.unusedSectionVars false
variable [Sym]

theorem over_get : ∀ (v l : List Value) (i : Nat), v.length ≤ l.length → (splice.over v l)[i]? = if i < v.length then v[i]? else l[i]?
 | [], l, i, _ => by simp [splice.over]
 | a :: v, [], i, h => by simp at h
 | a :: v, b :: l, 0, h => by simp [splice.over]
 | a :: v, b :: l, i + 1, h => by
  simp only [splice.over, List.getElem?_cons_succ, List.length_cons]
  rw [over_get v l i (by simpa using h)]
  by_cases hi : i < v.length
  ·rw [if_pos hi, if_pos (by omega)]
  ·rw [if_neg hi, if_neg (by omega)]

theorem splice_get : ∀ (off : Nat) (v l : List Value) (i : Nat), off + v.length ≤ l.length → (splice off v l)[i]? = if off ≤ i ∧ i < off + v.length then v[i - off]? else l[i]?
 | 0, v, l, i, h => by
  have : splice 0 v l = splice.over v l := by cases l <;> rfl
  rw [this, over_get v l i (by omega)]
  simp
 | off + 1, v, [], i, h => by simp at h
 | off + 1, v, b :: l, 0, h => by simp [splice]
 | off + 1, v, b :: l, i + 1, h => by
  simp only [splice, List.getElem?_cons_succ]
  rw [splice_get off v l i (by simp at h; omega)]
  by_cases hi : off ≤ i ∧ i < off + v.length
  ·rw [if_pos hi, if_pos (by omega), show i + 1 - (off + 1) = i - off by omega]
  ·rw [if_neg hi, if_neg (by omega)]

theorem splice_len (off : Nat) (v l : List Value) (h : off + v.length ≤ l.length) : (splice off v l).length = l.length := by
 apply Nat.le_antisymm
 ·refine Nat.le_of_not_lt fun hlt => ?_
  have := splice_get off v l l.length h
  rw [if_neg (by omega), List.getElem?_eq_none (Nat.le_refl _)] at this
  rw [List.getElem?_eq_none_iff] at this
  omega
 ·refine Nat.le_of_not_lt fun hlt => ?_
  have := splice_get off v l (splice off v l).length h
  rw [List.getElem?_eq_none (Nat.le_refl _)] at this
  split at this
  ·rename_i hc
   rw [eq_comm, List.getElem?_eq_none_iff] at this
   omega
  ·rw [eq_comm, List.getElem?_eq_none_iff] at this
   omega

theorem setAll_get (off : Nat) : ∀ (l : List Value) (k : Nat) (A : Array Value) (i : Nat), off + k + l.length ≤ A.size →
  ((l.zipIdx k).foldl (fun cs (x : Value × Nat) => cs.setIfInBounds (off + x.2) x.1) A)[i]? = if off + k ≤ i ∧ i < off + k + l.length then l[i - (off + k)]? else A[i]?
 | [], k, A, i, h => by
  have hn : ¬ (off + k ≤ i ∧ i < off + k + ([] : List Value).length) := by simp only [List.length_nil]; omega
  rw [if_neg hn]; rfl
 | v :: l, k, A, i, h => by
  simp only [List.length_cons] at h
  simp only [List.zipIdx_cons, List.foldl_cons]
  rw [setAll_get off l (k + 1) _ i (by rw [Array.size_setIfInBounds]; omega)]
  by_cases hi : off + (k + 1) ≤ i ∧ i < off + (k + 1) + l.length
  ·rw [if_pos hi, if_pos (by simp only [List.length_cons]; omega), show i - (off + k) = (i - (off + (k + 1))) + 1 by omega]; rfl
  ·rw [if_neg hi]
   by_cases he : i = off + k
   ·subst he
    rw [if_pos (by simp only [List.length_cons]; omega), Array.getElem?_setIfInBounds, if_pos rfl, if_pos (by omega)]
    simp
   ·rw [if_neg (by simp only [List.length_cons]; omega), Array.getElem?_setIfInBounds, if_neg (by omega)]

theorem zipFold (off : Nat) (v : Array Value) (A : Array Value) :
  v.zipIdx.foldl (fun cs (x : Value × Nat) => cs.setIfInBounds (off + x.2) x.1) A = (v.toList.zipIdx 0).foldl (fun cs (x : Value × Nat) => cs.setIfInBounds (off + x.2) x.1) A := by
 rw [← Array.foldl_toList, Array.toList_zipIdx]

/-- parts put over cells, in both. -/
theorem fill_sound {φ : Phi} {place : Nat → Option (Nat × Nat)} : ∀ (parts : List (Nat × Value)) (parts' : List (Nat × Value)) (cells cells' r : List Value),
  parts.map (·.1) = parts'.map (·.1) → VRs φ (parts.map (·.2)) (parts'.map (·.2)) → VRs φ cells cells' → fill place cells parts = some r →
  ∃ r', Instr.fill place ⟨cells'⟩ parts' = some ⟨r'⟩ ∧ VRs φ r r' := by
 intro parts
 induction parts with
 | nil =>
  intro parts' cells cells' r hi hv hc h
  have : parts' = [] := by simpa using hi.symm
  subst this
  cases h
  exact ⟨cells', rfl, hc⟩
 | cons p parts ih =>
  intro parts' cells cells' r hi hv hc h
  obtain ⟨i, v⟩ := p
  cases parts' with
  | nil => simp at hi
  | cons p' parts' =>
   obtain ⟨i', v'⟩ := p'
   simp only [List.map_cons, List.cons.injEq] at hi
   obtain ⟨rfl, hi⟩ := hi
   simp only [List.map_cons] at hv
   cases hv with
   | cons hv hvs =>
   simp only [fill] at h
   cases hp : place i with
   | none => simp [hp] at h
   | some q =>
    obtain ⟨off, size⟩ := q
    simp only [hp] at h
    cases hb : (Nat.beq (cellsOf v).length size && Nat.ble (off + size) cells.length) with
    | false => simp [hb] at h
    | true =>
     simp only [hb, cond_true] at h
     simp only [Bool.and_eq_true] at hb
     have hs := Nat.eq_of_beq_eq_true hb.1
     have hl := Nat.le_of_ble_eq_true hb.2
     have hcv := hv.cells
     have hlv : v'.cells.toList.length = (cellsOf v).length := hcv.length.symm
     have hlc : cells'.length = cells.length := hc.length.symm
     have hsz : v'.cells.size = size := by rw [← Array.length_toList, hlv, hs]
     simp only [Instr.fill, hp]
     have hcond : (decide (v'.cells.size ≠ size) || decide (off + v'.cells.size > (⟨cells'⟩ : Array Value).size)) = false := by
      have : (⟨cells'⟩ : Array Value).size = cells'.length := rfl
      simp [hsz, this]; omega
     simp only [hcond]
     have key : v'.cells.zipIdx.foldl (fun cs (x : Value × Nat) => cs.setIfInBounds (off + x.2) x.1) (⟨cells'⟩ : Array Value) = ⟨splice off v'.cells.toList cells'⟩ := by
      rw [zipFold]
      apply Array.ext_getElem?
      intro j
      have hb : off + 0 + v'.cells.toList.length ≤ (⟨cells'⟩ : Array Value).size := by
       show _ ≤ cells'.length
       omega
      rw [setAll_get off v'.cells.toList 0 ⟨cells'⟩ j hb]
      have := splice_get off v'.cells.toList cells' j (by omega)
      simp only [Nat.add_zero, List.getElem?_toArray]
      rw [this]
     have hsp : VRs φ (splice off (cellsOf v) cells) (splice off v'.cells.toList cells') := by
      refine VRs.of_get ?_ ?_
      ·rw [splice_len _ _ _ (by omega), splice_len _ _ _ (by omega)]; exact hlc.symm
      ·intro j x x' hx hx'
       rw [splice_get _ _ _ _ (by omega)] at hx hx'
       by_cases hj : off ≤ j ∧ j < off + (cellsOf v).length
       ·rw [if_pos hj] at hx
        rw [if_pos (by omega)] at hx'
        obtain ⟨y, hy, hxy⟩ := hcv.get _ _ hx
        rw [hy] at hx'; cases hx'; exact hxy
       ·rw [if_neg hj] at hx
        rw [if_neg (by omega)] at hx'
        obtain ⟨y, hy, hxy⟩ := hc.get _ _ hx
        rw [hy] at hx'; cases hx'; exact hxy
     obtain ⟨r', h1, h2⟩ := ih parts' _ _ r hi hvs hsp h
     refine ⟨r', ?_, h2⟩
     simp only [Bool.false_eq_true, if_false]
     rw [← h1]
     congr 1

section
variable {E : Env} {G : Nat} {w0 w : World} {φ : Phi} {m : Mem}

theorem parts_rel {ρ ρ' : Rho} : ∀ (parts : List (Nat × Operand)), (∀ p ∈ parts, VR φ (ρ p.2) (ρ' p.2)) →
  (parts.map fun p => (p.1, ρ p.2)).map (·.1) = (parts.map fun p => (p.1, ρ' p.2)).map (·.1) ∧ VRs φ ((parts.map fun p => (p.1, ρ p.2)).map (·.2)) ((parts.map fun p => (p.1, ρ' p.2)).map (·.2))
 | [], _ => ⟨rfl, .nil⟩
 | p :: l, h => by
  obtain ⟨a, b⟩ := parts_rel l fun q hq => h q (by simp [hq])
  refine ⟨by simp, ?_⟩
  simp only [List.map_cons]
  exact .cons (h p (by simp)) b

theorem places_run (hE : EnvOk E G) : ∀ (fs : List Field) (l : List (Nat × Nat)), places E fs = some l →
  (fs.mapM (m := Sem) fun f => do pure (f.offset, ← sizeOf f.type)).run E.P w = .ok l w
 | [], l, h => by simp [places] at h; subst h; simp
 | f :: fs, l, h => by
  simp only [places] at h
  split at h
  ·rename_i k r hk hr
   cases h
   have ih := places_run hE fs r hr
   simp only [List.mapM_cons, Sem.run_bind, size_run hE hk, Result.andThen_ok, Sem.run_pure, ih]
  ·cases h

theorem places_run_array (hE : EnvOk E G) (fs : Array Field) (l : List (Nat × Nat)) (h : places E fs.toList = some l) :
  (fs.mapM (m := Sem) fun f => do pure (f.offset, ← sizeOf f.type)).run E.P w = .ok ⟨l⟩ w := by
 rw [Array.mapM_eq_mapM_toList]
 have := places_run (w := w) hE fs.toList l h
 simp only [Sem.run_map, this, Result.andThen_ok]

end
end Go.Ev

namespace Go.Ev
set_option linter.unusedSimpArgs false
open Go.RowKit
set_option linter.unusedVariables false
set_option linter.unusedSectionVars false
variable [Sym]

section
variable {E : Env} {G : Nat} {w0 w : World} {φ : Phi} {m : Mem} {ρ ρ' : Rho}

theorem q_fieldAddr (hE : EnvOk E G) {s : TypeId} {f : Nat} {fs : Array Field} {fd : Field} {b o k : Nat} {x' : Value} (hs : E.under s = some (.struct fs)) (hf : nth fs.toList f = some fd)
  (hk : E.size fd.type = some (k + 1)) (hx : VR φ (.pointer (some ⟨b, o, none⟩)) x') :
  ∃ v', (Instr.fieldAt s x' f).run E.P w = .ok v' w ∧ VR φ (.pointer (some ⟨b, o + fd.offset, none⟩)) v' := by
 obtain ⟨b', rfl, hφ⟩ := hx.ptr_inv
 rw [nth_eq] at hf
 have hf' : fs[f]? = some fd := by simpa using hf
 refine ⟨.pointer (some ⟨b', o + fd.offset, none⟩), ?_, .ptr _ hφ⟩
 simp only [Instr.fieldAt, Sem.run_bind, under_run hE hs, Result.andThen_ok, hf', Instr.sureAddr, Sem.run_pure, fieldPlace, size_run hE hk, Sem.run_ite]
 simp [add_at]

theorem q_indexAddr_slice (hE : EnvOk E G) {t e : TypeId} {k b o i len cap : Nat} {ki : IntKind} {x' : Value} (ht : E.under t = some (.slice e)) (hk : E.size e = some k) (hi : i < len)
  (hx : VR φ (.slice (some ⟨b, o, none⟩) len cap) x') :
  ∃ v', (Instr.indexAt t x' (.int ki (.ofNat i))).run E.P w = .ok v' w ∧ VR φ (.pointer (some ⟨b, o + i * k, none⟩)) v' := by
 obtain ⟨b', c', rfl, hφ, _⟩ := hx.slice_inv
 refine ⟨.pointer (some ⟨b', o + i * k, none⟩), ?_, .ptr _ hφ⟩
 simp only [Instr.indexAt, asIntOf, Sem.run_bind, Sem.run_pure, Result.andThen_ok, under_run hE ht, size_run hE hk, Sem.run_ite]
 simp [add_at, hi]

theorem q_indexAddr_array (hE : EnvOk E G) {t e : TypeId} {k b o i len : Nat} {ki : IntKind} {x' : Value} (ht : E.under t = some (.array len e)) (hk : E.size e = some k) (hi : i < len)
  (hx : VR φ (.pointer (some ⟨b, o, none⟩)) x') :
  ∃ v', (Instr.indexAt t x' (.int ki (.ofNat i))).run E.P w = .ok v' w ∧ VR φ (.pointer (some ⟨b, o + i * k, none⟩)) v' := by
 obtain ⟨b', rfl, hφ⟩ := hx.ptr_inv
 refine ⟨.pointer (some ⟨b', o + i * k, none⟩), ?_, .ptr _ hφ⟩
 simp only [Instr.indexAt, asIntOf, Sem.run_bind, Sem.run_pure, Result.andThen_ok, under_run hE ht, size_run hE hk, Sem.run_ite, Instr.sureAddr]
 simp [add_at, hi]

theorem q_index_string (hE : EnvOk E G) {t : TypeId} {i : Nat} {ki : IntKind} {s : List UInt8} {c : UInt8} (ht : E.under t = some .string) (hc : nth s i = some c) :
  (Instr.index t (.string ⟨⟨s⟩⟩) (.int ki (.ofNat i))).run E.P w = .ok (.int .u8 c.toNat) w := by
 rw [nth_eq] at hc
 have hlt : i < s.length := by
  rcases Nat.lt_or_ge i s.length with h | h
  ·exact h
  ·rw [List.getElem?_eq_none h] at hc; cases hc
 have hb : (ByteArray.mk ⟨s⟩)[i]? = some c := by
  have hsz : i < (ByteArray.mk ⟨s⟩).size := hlt
  rw [getElem?_pos (ByteArray.mk ⟨s⟩) i hsz]
  congr 1
  have : s[i]? = some s[i] := List.getElem?_eq_getElem hlt
  rw [this] at hc
  exact Option.some.inj hc
 simp only [Instr.index, asIntOf, Sem.run_bind, Sem.run_pure, Result.andThen_ok, under_run hE ht]
 have h0 : (0 : Int) ≤ Int.ofNat i := Int.natCast_nonneg i
 rw [if_pos h0, show (Int.ofNat i).toNat = i from rfl, hb]
 rfl

theorem q_index_cell (hE : EnvOk E G) {t e : TypeId} {i len : Nat} {ki : IntKind} {l l' : List Value} {d : TypeDesc} {v : Value} (ht : E.under t = some (.array len e)) (hk : E.size e = some 1) (hd : E.under e = some d)
  (ha : isAggD d = false) (hi : i < len) (hv : nth l i = some v) (hl : VRs φ l l') : ∃ v', (Instr.index t (.agg ⟨l'⟩) (.int ki (.ofNat i))).run E.P w = .ok v' w ∧ VR φ v v' := by
 rw [nth_eq] at hv
 obtain ⟨v', h1, h2⟩ := hl.get i v hv
 refine ⟨v', ?_, h2⟩
 simp only [Instr.index, asIntOf, Sem.run_bind, Sem.run_pure, Result.andThen_ok, under_run hE ht, Sem.run_ite, size_run hE hk]
 have := part_run (w := w) hE hd ha l' i v' h1
 simp [hi, this]

theorem q_index_agg (hE : EnvOk E G) {t e : TypeId} {i len k : Nat} {ki : IntKind} {l l' : List Value} {d : TypeDesc} (ht : E.under t = some (.array len e)) (hk : E.size e = some k) (hd : E.under e = some d)
  (ha : isAggD d = true) (hi : i < len) (hl : VRs φ l l') : ∃ v', (Instr.index t (.agg ⟨l'⟩) (.int ki (.ofNat i))).run E.P w = .ok v' w ∧ VR φ (.agg ⟨(l.drop (i * k)).take k⟩) v' := by
 refine ⟨.agg ⟨(l'.drop (i * k)).take k⟩, ?_, .agg ((hl.drop _).take _)⟩
 simp only [Instr.index, asIntOf, Sem.run_bind, Sem.run_pure, Result.andThen_ok, under_run hE ht, Sem.run_ite, size_run hE hk]
 have := part_run_agg (w := w) hE hd ha hk l' (i * k)
 simp [hi, this]

theorem q_field (hE : EnvOk E G) {t : TypeId} {f k : Nat} {fs : Array Field} {fd : Field} {l l' : List Value} {d : TypeDesc} {v : Value} (ht : E.under t = some (.struct fs)) (hf : nth fs.toList f = some fd)
  (hk : E.size fd.type = some k) (hd : E.under fd.type = some d) (h : (bif isAggD d then some (.agg ⟨(l.drop fd.offset).take k⟩) else nth l fd.offset) = some v) (hl : VRs φ l l') :
  ∃ v', (Instr.field t (.agg ⟨l'⟩) f).run E.P w = .ok v' w ∧ VR φ v v' := by
 rw [nth_eq] at hf
 have hf' : fs[f]? = some fd := by simpa using hf
 simp only [Instr.field, Sem.run_bind, under_run hE ht, Result.andThen_ok, hf', asAgg, Sem.run_pure]
 cases ha : isAggD d with
 | true =>
  simp only [ha, cond_true, Option.some.injEq] at h
  subst h
  exact ⟨_, part_run_agg hE hd ha hk l' _, .agg ((hl.drop _).take _)⟩
 | false =>
  simp only [ha, cond_false] at h
  rw [nth_eq] at h
  obtain ⟨v', h1, h2⟩ := hl.get _ v h
  exact ⟨v', part_run hE hd ha l' _ v' h1, h2⟩

theorem bound_run {d l y : Nat} {code : BoundsCode} {lo : Option Operand} (hρ : ∀ x, lo = some x → VR φ (ρ x) (ρ' x)) (h : bound ρ d lo = some l) (hl : l ≤ y) (W : World) :
  (match lo.map ρ' with | some v => Instr.sliceBound v y code | none => pure d : Sem Nat).run E.P W = .ok l W := by
 cases lo with
 | none => simp only [bound, Option.some.injEq] at h; subst h; rfl
 | some x =>
  have hv := hρ x rfl
  simp only [bound] at h
  split at h
  ·rename_i k n hx
   cases h
   rw [hx] at hv
   have e := hv.int_inv
   simp only [Option.map_some, e, Instr.sliceBound, asIntOf, Sem.run_bind, Sem.run_pure, Result.andThen_ok, Sem.run_ite]
   have : (0 : Int) ≤ Int.ofNat l ∧ Int.ofNat l ≤ (y : Int) := ⟨Int.natCast_nonneg l, by simpa using hl⟩
   rw [if_pos this]
   rfl
  ·cases h

theorem bounds_run {isS : Bool} {len cap l h : Nat} {lo hi : Option Operand} (hlo : ∀ x, lo = some x → VR φ (ρ x) (ρ' x)) (hhi : ∀ x, hi = some x → VR φ (ρ x) (ρ' x))
  (h1 : bound ρ 0 lo = some l) (h2 : bound ρ len hi = some h) (hlh : l ≤ h) (hc : h ≤ cap) :
  (Instr.sliceBounds isS len cap (lo.map ρ') (hi.map ρ') none).run E.P w = .ok (l, h, cap) w := by
 unfold Instr.sliceBounds
 have b2 := bound_run (E := E) (y := cap) (code := if isS then .sliceAcap else .sliceAlen) hhi h2 hc w
 have b1 := bound_run (E := E) (y := h) (code := .sliceB) hlo h1 hlh w
 simp only [Sem.run_bind, Sem.run_pure, Result.andThen_ok]
 cases hi with
 | none =>
  simp only [bound, Option.some.injEq] at h2
  subst h2
  simp only [Option.map_none, Sem.run_bind, Sem.run_pure, Result.andThen_ok]
  simp only [Option.isSome_none, Bool.false_eq_true, if_false]
  cases lo with
  | none => simp only [bound, Option.some.injEq] at h1; subst h1; rfl
  | some x => simp only [Option.map_some] at b1 ⊢; simp [b1]
 | some y =>
  simp only [Option.map_some, Option.isSome_none, Bool.false_eq_true, if_false] at b2 ⊢
  rw [Sem.run_bind, b2]
  simp only [Result.andThen_ok]
  cases lo with
  | none => simp only [bound, Option.some.injEq] at h1; subst h1; rfl
  | some x => simp only [Option.map_some] at b1 ⊢; simp [b1]

end
end Go.Ev

namespace Go.Ev
set_option linter.unusedSimpArgs false
open Go.RowKit
set_option linter.unusedVariables false
set_option linter.unusedSectionVars false
variable [Sym]

section
variable {E : Env} {G : Nat} {w0 w : World} {φ : Phi} {m : Mem} {ρ ρ' : Rho}

theorem q_slice (hE : EnvOk E G) {t : TypeId} {x : Operand} {lo hi : Option Operand} {v : Value} (hx : VR φ (ρ x) (ρ' x)) (hlo : ∀ y, lo = some y → VR φ (ρ y) (ρ' y)) (hhi : ∀ y, hi = some y → VR φ (ρ y) (ρ' y))
  (mx : Option Operand) (h : quiet E m ρ (.slice t x lo hi mx) = some v) : ∃ v', (Instr.sliceAt t (ρ' x) (lo.map ρ') (hi.map ρ') (mx.map ρ')).run E.P w = .ok v' w ∧ VR φ v v' := by
 simp only [quiet] at h
 split at h
 ·-- a string
  rename_i s ht hxe
  rw [hxe] at hx
  have e := hx.string_inv
  rw [e]
  split at h
  ·rename_i l hh h1 h2
   cases hb : (Nat.ble l hh && Nat.ble hh s.length) with
   | false => simp [hb] at h
   | true =>
    simp only [hb, cond_true, Option.some.injEq] at h
    subst h
    simp only [Bool.and_eq_true] at hb
    have hl := Nat.le_of_ble_eq_true hb.1
    have hs := Nat.le_of_ble_eq_true hb.2
    have hbr := bounds_run (E := E) (w := w) (isS := false) (cap := (ByteArray.mk ⟨s⟩).size) hlo hhi h1 h2 hl hs
    refine ⟨.string ((ByteArray.mk ⟨s⟩).extract l hh), ?_, ?_⟩
    ·have hsz : (ByteArray.mk ⟨s⟩).size = s.length := rfl
     rw [hsz] at hbr
     simp only [Instr.sliceAt, Sem.run_bind, under_run hE ht, Result.andThen_ok, Option.map_none, Instr.slice, Option.isSome_none, Bool.false_eq_true, if_false, hsz, hbr, Sem.run_pure]
    ·have : (ByteArray.mk ⟨s⟩).extract l hh = ⟨⟨(s.drop l).take (hh - l)⟩⟩ := by
      apply ByteArray.ext
      apply Array.ext'
      simp
     rw [this]
     exact .string _
  ·cases h
 ·-- nil
  rename_i e ht hxe
  rw [hxe] at hx
  have e' := hx.snil_inv
  rw [e']
  split at h
  ·rename_i h1 h2
   split at h
   ·rename_i k hk
    cases h
    have hbr := bounds_run (E := E) (w := w) (isS := true) (cap := 0) hlo hhi h1 h2 (Nat.le_refl _) (Nat.le_refl _)
    refine ⟨.slice none 0 0, ?_, .snil 0 0⟩
    simp only [Instr.sliceAt, Sem.run_bind, under_run hE ht, Result.andThen_ok, Option.map_none, Instr.slice, hbr, size_run hE hk, Sem.run_pure]
    simp
   ·cases h
  ·cases h
 ·rename_i e b o len cap ht hxe
  rw [hxe] at hx
  obtain ⟨b', c', e', hφ, hcc, hck⟩ := hx.slice_inv
  rw [e']
  split at h
  ·rename_i l hh h1 h2
   cases hb : (Nat.ble l hh && Nat.ble hh cap) with
   | false => simp [hb] at h
   | true =>
    simp only [hb, cond_true] at h
    simp only [Bool.and_eq_true] at hb
    have hl := Nat.le_of_ble_eq_true hb.1
    have hs := Nat.le_of_ble_eq_true hb.2
    have hbr := bounds_run (E := E) (w := w) (isS := true) (cap := c') hlo hhi h1 h2 hl (by omega)
    cases hlc : (Nat.beq l 0 || Nat.blt l cap) with
    | true =>
     simp only [hlc, cond_true] at h
     split at h
     ·rename_i k hk
      cases h
      refine ⟨.slice (some ⟨b', o + l * k, none⟩) (hh - l) (c' - l), ?_, .slice _ _ hφ (by omega)⟩
      simp only [Instr.sliceAt, Sem.run_bind, under_run hE ht, Result.andThen_ok, Option.map_none, Instr.slice, hbr, size_run hE hk, Sem.run_pure, Option.map_some]
      simp only [Bool.or_eq_true, Nat.blt_eq] at hlc
      congr 2
      rcases hlc with h0 | hlt
      ·have := Nat.eq_of_beq_eq_true h0
       subst this
       simp [add_at]
      ·rw [if_neg (by omega), add_at]
     ·cases h
    | false =>
     simp only [hlc, cond_false] at h
     split at h
     ·rename_i k hk
      cases h
      have hcl : l = cap := by
       rcases Nat.lt_or_ge l cap with hlt | hge
       ·simp only [Bool.or_eq_false_iff] at hlc
        have := hlc.2
        rw [show Nat.blt l cap = true by rw [Nat.blt_eq]; exact hlt] at this
        cases this
       ·omega
      have hhl : hh = l := by omega
      subst hcl
      subst hhl
      refine ⟨.slice (if c' = hh then some ⟨b', o, none⟩ else some ((⟨b', o, none⟩ : Addr).add (hh * k))) (hh - hh) (c' - hh), ?_, ?_⟩
      ·simp only [Instr.sliceAt, Sem.run_bind, under_run hE ht, Result.andThen_ok, Option.map_none, Instr.slice, hbr, size_run hE hk, Sem.run_pure, Option.map_some]
      ·rw [Nat.sub_self]
       split <;> exact .slost _ _ _ _ _
     ·cases h
  ·cases h
 ·rename_i e b o s ht hxe
  rw [hxe] at hx
  obtain ⟨a, c', e', _, _⟩ := hx.slost_inv
  rw [e']
  split at h
  ·rename_i h1 h2
   split at h
   ·rename_i k hk
    cases h
    have hbr := bounds_run (E := E) (w := w) (isS := true) (cap := c') hlo hhi h1 h2 (Nat.le_refl _) (Nat.zero_le _)
    refine ⟨.slice (some a) 0 c', ?_, .slost _ _ _ _ _⟩
    simp only [Instr.sliceAt, Sem.run_bind, under_run hE ht, Result.andThen_ok, Option.map_none, Instr.slice, hbr, size_run hE hk, Sem.run_pure, Option.map_some]
    simp [Addr.add]
   ·cases h
  ·cases h
 ·cases h

theorem bytesOfCells_rel : ∀ (l l' : List Value) (r : List UInt8), bytesOfCells l = some r → VRs φ l l' → l' = l := by
 intro l
 induction l with
 | nil => intro l' r _ h; cases h; rfl
 | cons v l ih =>
  intro l' r h hv
  cases hv with
  | cons h1 h2 =>
   unfold bytesOfCells at h
   split at h
   ·rename_i heq; cases heq
   ·rename_i n t heq
    cases heq
    cases h1.int_inv
    split at h
    ·cases h
    ·rename_i r' hr
     rw [ih _ _ hr h2]
   ·cases h

theorem bytesLoop : ∀ (l : List Value) (r : List UInt8) (s : ByteArray), bytesOfCells l = some r →
  (forIn (m := Sem) l s fun c s =>
   match c with
   | .int .u8 n => pure (ForInStep.yield (s.push (UInt8.ofNat n.toNat)))
   | _ => do
    (stuck "bytesToString: byte expected" : Sem PUnit)
    pure (ForInStep.yield s)).run E.P w = .ok ⟨⟨s.data.toList ++ r⟩⟩ w := by
 intro l
 induction l with
 | nil =>
  intro r s h
  simp only [bytesOfCells, Option.some.injEq] at h
  subst h
  simp
 | cons v l ih =>
  intro r s h
  unfold bytesOfCells at h
  split at h
  ·rename_i heq; cases heq
  ·rename_i n t heq
   cases heq
   split at h
   ·cases h
   ·rename_i r' hr
    cases h
    simp only [List.forIn_cons, Sem.run_bind, Sem.run_pure, Result.andThen_ok]
    rw [ih _ _ hr]
    congr 3
    simp
  ·cases h

theorem q_convert (hE : EnvOk E G) (hR : Rel E.P G w0 φ m w) {s d : TypeId} {x : Operand} {v : Value} (hx : VR φ (ρ x) (ρ' x)) (h : quiet E m ρ (.convert s d x) = some v) :
  ∃ v', (Go.convert s d (ρ' x)).run E.P w = .ok v' w ∧ VR φ v v' := by
 simp only [quiet] at h
 split at h
 ·rename_i d' k k' n hs hd hxe
  cases h
  rw [hxe] at hx
  rw [hx.int_inv]
  refine ⟨_, ?_, .int k _⟩
  simp only [Go.convert, Sem.run_bind, under_run hE hs, under_run hE hd, Result.andThen_ok]
  cases d' <;> rfl
 ·rename_i d' str hs hd hxe
  cases h
  rw [hxe] at hx
  rw [hx.string_inv]
  refine ⟨_, ?_, .string str⟩
  simp only [Go.convert, Sem.run_bind, under_run hE hs, under_run hE hd, Result.andThen_ok]
  cases d' <;> rfl
 ·rename_i e n c hs hd hxe
  split at h
  ·rename_i he
   cases h
   rw [hxe] at hx
   rw [hx.snil_inv]
   refine ⟨_, ?_, .string _⟩
   simp only [Go.convert, Sem.run_bind, under_run hE hs, under_run hE hd, Result.andThen_ok, under_run hE he, Conv.bytesToString]
   rfl
  ·cases h
 ·rename_i e b o len c hs hd hxe
  split at h
  ·rename_i n cc e' kd he hm
   cases hb : Nat.ble (o + len) n with
   | false => simp [hb] at h
   | true =>
    simp only [hb, cond_true] at h
    cases hc : cellsFrom cc o len with
    | none => simp [hc] at h
    | some l =>
     simp only [hc] at h
     cases hr : bytesOfCells l with
     | none => simp [hr] at h
     | some r =>
      simp only [hr, Option.some.injEq] at h
      subst h
      rw [hxe] at hx
      obtain ⟨b', c', e'', hφ, _⟩ := hx.slice_inv
      rw [e'']
      obtain ⟨l', h1, h2, h3⟩ := loadCells_sound (E := E) hR hm hφ (Nat.le_of_ble_eq_true hb) hc
      obtain rfl := bytesOfCells_rel l l' r hr h2
      refine ⟨_, ?_, .string _⟩
      simp only [Go.convert, Sem.run_bind, under_run hE hs, under_run hE hd, Result.andThen_ok, under_run hE he, Conv.bytesToString, h1]
      rw [← Array.forIn_toList]
      have := bytesLoop (E := E) (w := w) l' r ByteArray.empty hr
      refine (congrArg (fun q => Result.andThen q _) this).trans ?_
      simp
  ·cases h
 ·cases h

end
end Go.Ev

namespace Go.Ev
set_option linter.unusedSimpArgs false
open Go.RowKit
set_option linter.unusedVariables false
set_option linter.unusedSectionVars false
variable [Sym]

section
variable {E : Env} {G : Nat} {w0 w : World} {φ : Phi} {m : Mem} {ρ ρ' : Rho}

theorem find_form {kt : TypeId} {k : Value} : ∀ (es : List (Value × Value)) (r : Option Value), quiet.find E m kt k es = some r →
  (r = none ∧ quiet.keyOk E kt k = true ∧ ∀ e ∈ es, quiet.eqKey E m kt k e.1 = some false) ∨
  (∃ pre k0 v post, es = pre ++ (k0, v) :: post ∧ r = some v ∧ (∀ e ∈ pre, quiet.eqKey E m kt k e.1 = some false) ∧ quiet.eqKey E m kt k k0 = some true)
 | [], r, h => by
  cases hk : quiet.keyOk E kt k with
  | false => simp [quiet.find, hk] at h
  | true => simp [quiet.find, hk] at h; exact .inl ⟨h.symm, rfl, by simp⟩
 | (k', v) :: es, r, h => by
  simp only [quiet.find] at h
  split at h
  ·cases h
  ·rename_i hk; cases h; exact .inr ⟨[], k', v, es, rfl, rfl, by simp, hk⟩
  ·rename_i hk
   rcases find_form es r h with ⟨h1, h0, h2⟩ | ⟨pre, k0, v0, post, h1, h2, h3, h4⟩
   ·exact .inl ⟨h1, h0, fun e he => (List.mem_cons.1 he).elim (fun hh => hh ▸ hk) (fun hh => h2 e hh)⟩
   ·refine .inr ⟨(k', v) :: pre, k0, v0, post, by rw [h1]; rfl, h2, fun e he => (List.mem_cons.1 he).elim (fun hh => hh ▸ hk) (fun hh => h3 e hh), h4⟩

theorem upd_form {kt : TypeId} {k x : Value} : ∀ (es r : List (Value × Value)), effect.upd E m kt k x es = some r →
  (r = es ++ [(k, x)] ∧ quiet.keyOk E kt k = true ∧ ∀ e ∈ es, quiet.eqKey E m kt k e.1 = some false) ∨
  (∃ pre k0 v post, es = pre ++ (k0, v) :: post ∧ r = pre ++ (k, x) :: post ∧ (∀ e ∈ pre, quiet.eqKey E m kt k e.1 = some false) ∧ quiet.eqKey E m kt k k0 = some true)
 | [], r, h => by
  cases hk : quiet.keyOk E kt k with
  | false => simp [effect.upd, hk] at h
  | true => simp [effect.upd, hk] at h; exact .inl ⟨by simp [h], rfl, by simp⟩
 | (k', v) :: es, r, h => by
  simp only [effect.upd] at h
  split at h
  ·cases h
  ·rename_i hk; cases h; exact .inr ⟨[], k', v, es, rfl, rfl, by simp, hk⟩
  ·rename_i hk
   split at h
   ·cases h
   ·rename_i r' hr
    cases h
    rcases upd_form es r' hr with ⟨h1, h0, h2⟩ | ⟨pre, k0, v0, post, h1, h2, h3, h4⟩
    ·exact .inl ⟨by rw [h1]; rfl, h0, fun e he => (List.mem_cons.1 he).elim (fun hh => hh ▸ hk) (fun hh => h2 e hh)⟩
    ·refine .inr ⟨(k', v) :: pre, k0, v0, post, by rw [h1]; rfl, by rw [h2]; rfl, fun e he => (List.mem_cons.1 he).elim (fun hh => hh ▸ hk) (fun hh => h3 e hh), h4⟩

/-- how the model holds a key against an entry's. -/
inductive KE (P : Program) (w : World) (d : TypeDesc) (kt : TypeId) (k e : Value) (b : Bool) : Prop where
 | now (h : Instr.sameNow d k e = some b)
 | ask (h : ∀ x y, Instr.sameNow d x y = none) (hb : (Op.equal kt k e).run P w = .ok b w)

theorem eqKey_sound (hE : EnvOk E G) (hR : Rel E.P G w0 φ m w) {kt : TypeId} {k e k' e' : Value} {b : Bool} (h : quiet.eqKey E m kt k e = some b) (hk : VR φ k k') (he : VR φ e e') :
  ∃ d, E.under kt = some d ∧ KE E.P w d kt k' e' b ∧ (∀ (n : Nat) (em : Bool), (Instr.checkKey em (n + 1) kt k').run E.P w = .ok () w) ∧ (b = true → Instr.sameBits 10000 e' k' = true) := by
 unfold quiet.eqKey at h
 split at h
 ·rename_i ki kk a kk' c hd
  cases hk.int_inv; cases he.int_inv
  split at h
  ·rename_i hkk
   subst hkk
   cases h
   refine ⟨_, hd, .now (by simp [Instr.sameNow]), fun n em => by simp [Instr.checkKey, under_run hE hd], fun hb => ?_⟩
   have : a = c := by simpa using hb
   subst this
   simp [Instr.sameBits]
  ·cases h
 ·rename_i a c hd
  cases hk.string_inv; cases he.string_inv
  cases h
  refine ⟨_, hd, .now ?_, fun n em => by simp [Instr.checkKey, under_run hE hd], fun hb => ?_⟩
  ·simp only [Instr.sameNow, Option.some.injEq]
   rw [bytesEq_eq, beq_toListBytes, ByteArray.toList_eq, ByteArray.toList_eq]
  ·rw [bytesEq_eq] at hb
   have : a = c := by simpa using hb
   subst this
   simp [Instr.sameBits, beq_toListBytes]
 ·rename_i el a c hd
  refine ⟨_, hd, .ask (fun x y => by cases x <;> cases y <;> rfl) (eqPtr_sound hE hR h hk he 9999), ?_, fun hb => ?_⟩
  ·intro n em
   cases hk <;> simp [Instr.checkKey, under_run hE hd]
  ·subst hb
   unfold eqPtr at h
   simp only [hd] at h
   cases a with
   | none =>
    cases c with
    | none => cases hk; cases he; simp [Instr.sameBits]
    | some c => simp at h
   | some a =>
    cases c with
    | none => simp at h
    | some c =>
     obtain ⟨ba, oa, sa⟩ := a
     obtain ⟨bc, oc, sc⟩ := c
     obtain ⟨a', rfl, hφa, hsa⟩ := hk.ptr_any
     obtain ⟨c', rfl, hφc, hsc⟩ := he.ptr_any
     simp only at hφa hφc hsa hsc
     subst hsa hsc
     simp only at h
     split at h
     ·cases hbb : Nat.beq ba bc with
      | true =>
       have := Nat.eq_of_beq_eq_true hbb
       subst this
       simp only [hbb, cond_true] at h
       simp only [and_self, if_true, Option.some.injEq] at h
       have := Nat.eq_of_beq_eq_true h
       subst this
       rw [hφa] at hφc
       cases hφc
       simp [Instr.sameBits]
      | false =>
       simp only [hbb, cond_false] at h
       cases hn : notStr m ba && notStr m bc <;> simp [hn] at h
     ·cases h
 ·cases h

theorem keyOk_sound (hE : EnvOk E G) {kt : TypeId} {k k' : Value} (h : quiet.keyOk E kt k = true) (hk : VR φ k k') :
  ∃ d, E.under kt = some d ∧ (∀ (n : Nat) (em : Bool), (Instr.checkKey em (n + 1) kt k').run E.P w = .ok () w) := by
 unfold quiet.keyOk at h
 split at h
 ·rename_i hd; cases hk; exact ⟨_, hd, fun n em => by simp [Instr.checkKey, under_run hE hd]⟩
 ·rename_i hd; cases hk; exact ⟨_, hd, fun n em => by simp [Instr.checkKey, under_run hE hd]⟩
 ·rename_i hd; refine ⟨_, hd, fun n em => ?_⟩; cases hk <;> simp [Instr.checkKey, under_run hE hd]
 ·cases h

theorem findNow_none {d : TypeDesc} {k : Value} : ∀ (es : List MapEntry) (i : Nat), (∀ e ∈ es, Instr.sameNow d k e.key = some false) → Instr.findNow d k es i = some none
 | [], i, _ => rfl
 | e :: es, i, h => by
  simp only [Instr.findNow, h e (by simp)]
  exact findNow_none es (i + 1) fun x hx => h x (by simp [hx])

theorem findNow_some {d : TypeDesc} {k : Value} {e0 : MapEntry} {post : List MapEntry} : ∀ (pre : List MapEntry) (i : Nat), (∀ e ∈ pre, Instr.sameNow d k e.key = some false) → Instr.sameNow d k e0.key = some true →
  Instr.findNow d k (pre ++ e0 :: post) i = some (some (i + pre.length, e0.val))
 | [], i, _, h0 => by simp [Instr.findNow, h0]
 | e :: pre, i, h, h0 => by
  simp only [List.cons_append, Instr.findNow, h e (by simp)]
  rw [findNow_some pre (i + 1) (fun x hx => h x (by simp [hx])) h0]
  simp; omega

theorem findAsking_none {kt : TypeId} {k : Value} : ∀ (es : List MapEntry) (i : Nat), (∀ e ∈ es, (Op.equal kt k e.key).run E.P w = .ok false w) → (Instr.findAsking kt k es i).run E.P w = .ok none w
 | [], i, _ => by simp [Instr.findAsking]
 | e :: es, i, h => by
  simp only [Instr.findAsking, Sem.run_bind, h e (by simp), Result.andThen_ok]
  exact findAsking_none es (i + 1) fun x hx => h x (by simp [hx])

theorem findAsking_some {kt : TypeId} {k : Value} {e0 : MapEntry} {post : List MapEntry} : ∀ (pre : List MapEntry) (i : Nat), (∀ e ∈ pre, (Op.equal kt k e.key).run E.P w = .ok false w) → (Op.equal kt k e0.key).run E.P w = .ok true w →
  (Instr.findAsking kt k (pre ++ e0 :: post) i).run E.P w = .ok (some (i + pre.length, e0.val)) w
 | [], i, _, h0 => by simp [Instr.findAsking, h0]
 | e :: pre, i, h, h0 => by
  simp only [List.cons_append, Instr.findAsking, Sem.run_bind, h e (by simp), Result.andThen_ok]
  have := findAsking_some (post := post) pre (i + 1) (fun x hx => h x (by simp [hx])) h0
  simp only [Bool.false_eq_true, if_false, this]
  simp; omega

theorem findKey_none (hE : EnvOk E G) {kt : TypeId} {d : TypeDesc} {k : Value} (es : List MapEntry) (hd : E.under kt = some d) (h : ∀ e ∈ es, KE E.P w d kt k e.key false) :
  (Instr.findKey kt k es).run E.P w = .ok none w := by
 unfold Instr.findKey
 simp only [Sem.run_bind, under_run hE hd, Result.andThen_ok]
 by_cases hn : ∀ e ∈ es, Instr.sameNow d k e.key = some false
 ·rw [findNow_none es 0 hn]; rfl
 ·have hask : ∀ x y, Instr.sameNow d x y = none := by
   apply Classical.byContradiction
   intro hno
   refine hn fun e he => ?_
   cases h e he with
   | now h => exact h
   | ask h _ => exact absurd h hno
  have h2 : ∀ e ∈ es, (Op.equal kt k e.key).run E.P w = .ok false w := fun e he => by
   cases h e he with
   | now h => rw [hask] at h; cases h
   | ask _ h => exact h
  cases es with
  | nil => exact absurd (by simp) hn
  | cons e es =>
   have : Instr.findNow d k (e :: es) 0 = none := by simp [Instr.findNow, hask]
   rw [this]
   exact findAsking_none (e :: es) 0 h2

theorem findKey_some (hE : EnvOk E G) {kt : TypeId} {d : TypeDesc} {k : Value} {e0 : MapEntry} {post : List MapEntry} (pre : List MapEntry) (hd : E.under kt = some d) (h : ∀ e ∈ pre, KE E.P w d kt k e.key false) (h0 : KE E.P w d kt k e0.key true) :
  (Instr.findKey kt k (pre ++ e0 :: post)).run E.P w = .ok (some (pre.length, e0.val)) w := by
 unfold Instr.findKey
 simp only [Sem.run_bind, under_run hE hd, Result.andThen_ok]
 cases h0 with
 | now h0 =>
  have : ∀ e ∈ pre, Instr.sameNow d k e.key = some false := fun e he => by
   cases h e he with
   | now h => exact h
   | ask h _ => rw [h] at h0; cases h0
  rw [findNow_some pre 0 this h0]
  simp
 | ask hask h0 =>
  have h2 : ∀ e ∈ pre, (Op.equal kt k e.key).run E.P w = .ok false w := fun e he => by
   cases h e he with
   | now h => rw [hask] at h; cases h
   | ask _ h => exact h
  have : Instr.findNow d k (pre ++ e0 :: post) 0 = none := by cases pre <;> simp [Instr.findNow, hask]
  rw [this]
  have := findAsking_some (E := E) (w := w) (post := post) pre 0 h2 h0
  simpa using this

/-- a map's entries, cut where the abstract ones are cut. -/
theorem entries_cut {φ : Phi} {pre post : List (Value × Value)} {k0 v0 : Value} {es' : List MapEntry} (hk : VRs φ ((pre ++ (k0, v0) :: post).map (·.1)) (es'.map (·.key)))
  (hv : VRs φ ((pre ++ (k0, v0) :: post).map (·.2)) (es'.map (·.val))) :
  ∃ pre' e0 post', es' = pre' ++ e0 :: post' ∧ pre'.length = pre.length ∧ VR φ k0 e0.key ∧ VR φ v0 e0.val ∧ VRs φ (pre.map (·.1)) (pre'.map (·.key)) ∧ VRs φ (pre.map (·.2)) (pre'.map (·.val)) ∧
   VRs φ (post.map (·.1)) (post'.map (·.key)) ∧ VRs φ (post.map (·.2)) (post'.map (·.val)) := by
 induction pre generalizing es' with
 | nil =>
  cases es' with
  | nil => cases hk
  | cons e es' =>
   simp only [List.nil_append, List.map_cons] at hk hv
   cases hk with | cons a b =>
   cases hv with | cons c d =>
   exact ⟨[], e, es', rfl, rfl, a, c, .nil, .nil, b, d⟩
 | cons p pre ih =>
  cases es' with
  | nil => cases hk
  | cons e es' =>
   simp only [List.cons_append, List.map_cons] at hk hv
   cases hk with | cons a b =>
   cases hv with | cons c d =>
   obtain ⟨pre', e0, post', h1, h2, h3, h4, h5, h6, h7, h8⟩ := ih b d
   exact ⟨e :: pre', e0, post', by rw [h1]; rfl, by simp [h2], h3, h4, .cons a h5, .cons c h6, h7, h8⟩

theorem keys_mem {φ : Phi} : ∀ {pre : List (Value × Value)} {pre' : List MapEntry}, VRs φ (pre.map (·.1)) (pre'.map (·.key)) → ∀ e' ∈ pre', ∃ e ∈ pre, VR φ e.1 e'.key
 | [], [], _, e', h => by simp at h
 | p :: pre, q :: pre', h, e', he => by
  simp only [List.map_cons] at h
  cases h with | cons a b =>
  rcases List.mem_cons.1 he with rfl | he
  ·exact ⟨p, by simp, a⟩
  ·obtain ⟨e, h1, h2⟩ := keys_mem b e' he
   exact ⟨e, by simp [h1], h2⟩
 | [], _ :: _, h, _, _ => by cases h
 | _ :: _, [], h, _, _ => by cases h

end
end Go.Ev

namespace Go.Ev
set_option linter.unusedSimpArgs false
open Go.RowKit
set_option linter.unusedVariables false
set_option linter.unusedSectionVars false
variable [Sym]

section
variable {E : Env} {G : Nat} {w0 w : World} {φ : Phi} {m : Mem} {ρ ρ' : Rho}

theorem map_at (hR : Rel E.P G w0 φ m w) {r r' : Nat} {es : List (Value × Value)} (hm : m.get r = some (.map es)) (hφ : φ r = some r') :
  ∃ es' clock, w.heap[r']? = some (.map es' clock) ∧ VRs φ (es.map (·.1)) (es'.toList.map (·.key)) ∧ VRs φ (es.map (·.2)) (es'.toList.map (·.val)) := hR.obj r _ r' hm hφ

theorem getObj_map {r' : Nat} {es' : Array MapEntry} {clock : Nat} (h : w.heap[r']? = some (.map es' clock)) : (getObj r').run E.P w = .ok (.map es' clock) w := by
 simp [getObj, Sem.run, h]

theorem VRs.map_len {φ : Phi} {es : List (Value × Value)} {es' : List MapEntry} (h : VRs φ (es.map (·.1)) (es'.map (·.key))) : es.length = es'.length := by
 simpa using h.length

theorem find_sound (hE : EnvOk E G) (hR : Rel E.P G w0 φ m w) {kt : TypeId} {k k' : Value} {es : List (Value × Value)} {es' : List MapEntry} {r : Option Value} (h : quiet.find E m kt k es = some r) (hk : VR φ k k')
  (h1 : VRs φ (es.map (·.1)) (es'.map (·.key))) (h2 : VRs φ (es.map (·.2)) (es'.map (·.val))) :
  (∀ (n : Nat) (em : Bool), (Instr.checkKey em (n + 1) kt k').run E.P w = .ok () w) ∧
   ((r = none ∧ (Instr.findKey kt k' es').run E.P w = .ok none w) ∨ ∃ v v' i, r = some v ∧ VR φ v v' ∧ (Instr.findKey kt k' es').run E.P w = .ok (some (i, v')) w) := by
 rcases find_form es r h with ⟨rfl, hok, hall⟩ | ⟨pre, k0, v, post, rfl, rfl, hall, h0⟩
 ·obtain ⟨d, hd, hck⟩ := keyOk_sound (w := w) hE hok hk
  refine ⟨hck, .inl ⟨rfl, findKey_none hE es' hd fun e' he' => ?_⟩⟩
  obtain ⟨y, hy, hye⟩ := keys_mem h1 e' he'
  obtain ⟨d', hd', hke, _⟩ := eqKey_sound hE hR (hall y hy) hk hye
  obtain rfl := Option.some.inj (hd.symm.trans hd')
  exact hke
 ·obtain ⟨pre', e0, post', rfl, hlen, hk0, hv0, a, b, c, d⟩ := entries_cut h1 h2
  obtain ⟨dd, hd, hke, hck, _⟩ := eqKey_sound hE hR h0 hk hk0
  refine ⟨hck, .inr ⟨v, e0.val, pre'.length, rfl, hv0, findKey_some hE pre' hd (fun e' he' => ?_) hke⟩⟩
  obtain ⟨y, hy, hye⟩ := keys_mem a e' he'
  obtain ⟨d', hd', hke', _⟩ := eqKey_sound hE hR (hall y hy) hk hye
  obtain rfl := Option.some.inj (hd.symm.trans hd')
  exact hke'

/-- what a look-up answers. -/
def looked (ok : Bool) (z : Value) : Option Value → Value
 | some v => bif ok then .tuple ⟨[v, .bool true]⟩ else v
 | none => bif ok then .tuple ⟨[z, .bool false]⟩ else z

theorem q_lookup_at (hE : EnvOk E G) {t kt et : TypeId} {z : Value} {ok : Bool} {k' : Value} {es' : Array MapEntry} {x' : Value} {r : Option Value} {q : Option (Nat × Value)} (ht : E.under t = some (.map kt et)) (hz : E.zero et = some z)
  (hx : (x' = .map none ∧ es' = #[]) ∨ ∃ b c, x' = .map (some b) ∧ w.heap[b]? = some (.map es' c)) (hck : (Instr.checkKey es'.isEmpty 10000 kt k').run E.P w = .ok () w)
  (hf : (Instr.findKey kt k' es'.toList).run E.P w = .ok q w) (hq : (r = none ∧ q = none) ∨ ∃ v v' i, r = some v ∧ VR φ v v' ∧ q = some (i, v')) :
  ∃ v', (Instr.lookup t x' k' ok).run E.P w = .ok v' w ∧ VR φ (looked ok z r) v' := by
 have hzz : VR φ z z := VR.plain z (hE.zeros et z hz)
 rcases hq with ⟨rfl, rfl⟩ | ⟨u, u', i, rfl, hu, rfl⟩
 ·refine ⟨if ok then .tuple #[z, .bool false] else z, ?_, ?_⟩
  ·rcases hx with ⟨rfl, rfl⟩ | ⟨b, c, rfl, hc⟩
   ·simp only [Instr.lookup, Sem.run_bind, under_run hE ht, Result.andThen_ok, Sem.run_pure, hck, hf, zero_run hE hz]
   ·simp only [Instr.lookup, Sem.run_bind, under_run hE ht, Result.andThen_ok, Sem.run_pure, getObj_map hc, hck, hf, zero_run hE hz]
  ·cases ok
   ·exact hzz
   ·exact .tuple (.cons hzz (.cons (.bool _) .nil))
 ·refine ⟨if ok then .tuple #[u', .bool true] else u', ?_, ?_⟩
  ·rcases hx with ⟨rfl, rfl⟩ | ⟨b, c, rfl, hc⟩
   ·simp only [Instr.lookup, Sem.run_bind, under_run hE ht, Result.andThen_ok, Sem.run_pure, hck, hf]
   ·simp only [Instr.lookup, Sem.run_bind, under_run hE ht, Result.andThen_ok, Sem.run_pure, getObj_map hc, hck, hf]
  ·cases ok
   ·exact hu
   ·exact .tuple (.cons hu (.cons (.bool _) .nil))

theorem q_lookup (hE : EnvOk E G) (hR : Rel E.P G w0 φ m w) {t : TypeId} {x i : Operand} {ok : Bool} {v : Value} (hx : VR φ (ρ x) (ρ' x)) (hi : VR φ (ρ i) (ρ' i)) (h : quiet E m ρ (.lookup t x i ok) = some v) :
  ∃ v', (Instr.lookup t (ρ' x) (ρ' i) ok).run E.P w = .ok v' w ∧ VR φ v v' := by
 simp only [quiet] at h
 split at h
 ·rename_i kt et ht
  split at h
  ·rename_i es z hes hz
   split at h
   ·cases h
   ·rename_i r hr
    have hv : v = looked ok z r := by cases h; cases r <;> rfl
    subst hv
    -- the entries in the world
    have key : ∃ es' : Array MapEntry, ((ρ' x = .map none ∧ es' = #[]) ∨ ∃ b c, ρ' x = .map (some b) ∧ w.heap[b]? = some (.map es' c)) ∧ VRs φ (es.map (·.1)) (es'.toList.map (·.key)) ∧ VRs φ (es.map (·.2)) (es'.toList.map (·.val)) := by
     split at hes
     ·rename_i hxe
      cases hes
      rw [hxe] at hx
      exact ⟨#[], .inl ⟨hx.mnil_inv, rfl⟩, .nil, .nil⟩
     ·rename_i r' hxe
      split at hes
      ·rename_i es0 hm
       cases hes
       rw [hxe] at hx
       obtain ⟨b, hb, hφ⟩ := hx.map_inv
       obtain ⟨es', c, h1, h2, h3⟩ := map_at hR hm hφ
       exact ⟨es', .inr ⟨b, c, hb, h1⟩, h2, h3⟩
      ·cases hes
     ·cases hes
    obtain ⟨es', hx', h1, h2⟩ := key
    obtain ⟨hck, hf⟩ := find_sound hE hR hr hi h1 h2
    rcases hf with ⟨rfl, hf⟩ | ⟨u, u', j, rfl, hu, hf⟩
    ·exact q_lookup_at hE ht hz hx' (hck 9999 _) hf (.inl ⟨rfl, rfl⟩)
    ·exact q_lookup_at hE ht hz hx' (hck 9999 _) hf (.inr ⟨u, u', j, rfl, hu, rfl⟩)
  ·cases h
 ·cases h


theorem q_len (hE : EnvOk E G) (hR : Rel E.P G w0 φ m w) {c : Call} (ty : TypeId) {v : Value} (hc : c.callee = .builtin .len) (hρ : ∀ x ∈ c.args.toList, VR φ (ρ x) (ρ' x)) (h : quiet E m ρ (.call c) = some v) :
  (Builtin.len_ c.argTypes ty (c.args.map ρ')).run E.P w = .ok v w ∧ VR φ v v := by
 simp only [quiet, hc] at h
 split at h
 ·rename_i t x hts hxs
  have e1 : c.argTypes[0]? = some t := by rw [← Array.getElem?_toList, hts]; rfl
  have e2 : (c.args.map ρ')[0]? = some (ρ' x) := by rw [Array.getElem?_map, ← Array.getElem?_toList, hxs]; rfl
  have hx := hρ x (by rw [hxs]; simp)
  simp only [Builtin.len_, e1, e2, Sem.run_bind]
  split at h
  ·rename_i s ht hxe
   cases h
   rw [hxe] at hx; rw [hx.string_inv]
   exact ⟨by simp only [under_run hE ht, Result.andThen_ok]; rfl, .int _ _⟩
  ·rename_i e a n cp ht hxe
   cases h
   rw [hxe] at hx
   refine ⟨?_, .int _ _⟩
   simp only [under_run hE ht, Result.andThen_ok]
   revert hx
   generalize ρ' x = y
   intro hx
   cases hx <;> rfl
  ·rename_i n el ht
   cases h
   refine ⟨?_, .int _ _⟩
   simp only [under_run hE ht, Result.andThen_ok]
   cases ρ' x <;> rfl
  ·rename_i kt et ht hxe
   cases h
   rw [hxe] at hx; rw [hx.mnil_inv]
   exact ⟨by simp only [under_run hE ht, Result.andThen_ok]; rfl, .int _ _⟩
  ·rename_i kt et r ht hxe
   split at h
   ·rename_i es hm
    cases h
    rw [hxe] at hx
    obtain ⟨b, hb, hφ⟩ := hx.map_inv
    rw [hb]
    obtain ⟨es', cl, h1, h2, _⟩ := map_at hR hm hφ
    refine ⟨?_, .int _ _⟩
    simp only [under_run hE ht, Result.andThen_ok, Sem.run_bind, getObj_map h1, Sem.run_pure]
    have := VRs.map_len h2
    simp [goInt, this]
   ·cases h
  ·cases h
 ·cases h

/-- the quiet operations. -/
theorem quiet_sound (hE : EnvOk E G) (hR : Rel E.P G w0 φ m w) (o : Oper) (hρ : ∀ x ∈ o.op.operands.toList, VR φ (ρ x) (ρ' x)) {v : Value} (h : quiet E m ρ o.op = some v) :
  ∃ v', (execOp ρ' o).run E.P w = .ok (.value v') w ∧ VR φ v v' := by
 have ofV : ∀ {s : Sem Value} {v'}, s.run E.P w = .ok v' w → (do pure (.value (← s)) : Sem Next).run E.P w = .ok (.value v') w := by
  intro s v' hs
  simp only [Sem.run_bind, hs, Result.andThen_ok, Sem.run_pure]
 unfold execOp
 generalize o.type = ty at *
 cases ho : o.op with
 | move x => simp only [ho, quiet, Option.some.injEq] at h ⊢; subst h; exact ⟨_, rfl, hρ x (by simp [ho, Op.operands])⟩
 | assign x => simp only [ho, quiet, Option.some.injEq] at h ⊢; subst h; exact ⟨_, rfl, hρ x (by simp [ho, Op.operands])⟩
 | pick c a b =>
  simp only [ho, quiet] at h ⊢
  have hc := hρ c (by simp [ho, Op.operands])
  split at h
  ·rename_i hb; cases h; rw [hb] at hc; rw [hc.bool_inv]; exact ⟨_, rfl, hρ a (by simp [ho, Op.operands])⟩
  ·rename_i hb; cases h; rw [hb] at hc; rw [hc.bool_inv]; exact ⟨_, rfl, hρ b (by simp [ho, Op.operands])⟩
  ·cases h
 | load t a =>
  simp only [ho, quiet] at h ⊢
  have ha := hρ a (by simp [ho, Op.operands])
  split at h
  ·rename_i b o' hae
   rw [hae] at ha
   obtain ⟨b', hb, hφ⟩ := ha.ptr_inv
   obtain ⟨v', h1, h2⟩ := load_sound hE hR h hφ
   refine ⟨v', ofV ?_, h2⟩
   rw [hb]
   simpa [Instr.loadAt, Instr.sureAddr] using h1
  ·cases h
 | nilCheck x =>
  simp only [ho, quiet] at h ⊢
  have hx := hρ x (by simp [ho, Op.operands])
  split at h
  ·rename_i a hae
   cases h
   rw [hae] at hx
   obtain ⟨b', hb, hφ, hs⟩ := hx.ptr_any
   rw [hb]
   obtain ⟨ab, ao, as⟩ := a
   simp only at hφ hs
   subst hs
   exact ⟨_, rfl, .ptr _ hφ⟩
  ·cases h
 | binOp op t x y u =>
  simp only [ho, quiet] at h ⊢
  obtain ⟨b1, b2⟩ := binOp_sound hE hR h (hρ x (by simp [ho, Op.operands])) (hρ y (by simp [ho, Op.operands])) x y
  exact ⟨v, ofV b1, b2⟩
 | unOp op t x =>
  simp only [ho, quiet] at h ⊢
  have hx := hρ x (by simp [ho, Op.operands])
  have hform : ρ' x = ρ x := by
   unfold unOp at h
   split at h
   ·rename_i hxe; rw [hxe] at hx ⊢; exact hx.int_inv
   ·rename_i hxe; rw [hxe] at hx ⊢; exact hx.bool_inv
   ·cases h
  rw [hform]
  exact ⟨v, ofV (unOp_run h), unOp_plain h⟩
 | extract x i =>
  simp only [ho, quiet] at h ⊢
  have hx := hρ x (by simp [ho, Op.operands])
  split at h
  ·rename_i l hxe
   rw [hxe] at hx
   obtain ⟨l', hl, hr⟩ := hx.tuple_inv
   rw [nth_eq] at h
   obtain ⟨v', h1, h2⟩ := hr.get i v h
   refine ⟨v', ofV ?_, h2⟩
   rw [hl]
   simp [Instr.extract, h1]
  ·cases h
 | build t parts =>
  simp only [ho, quiet] at h ⊢
  have hp := parts_rel (φ := φ) (ρ := ρ) (ρ' := ρ') parts.toList (fun p hp => hρ p.2 (by
   simp only [ho, Op.operands]
   exact List.mem_map.2 ⟨p, hp, rfl⟩))
  have earr : (parts.map fun (i, x) => (i, ρ' x)).toList = parts.toList.map fun p => (p.1, ρ' p.2) := by simp
  split at h
  ·rename_i z fs hz ht
   split at h
   ·cases h
   ·rename_i pl hpl
    split at h
    ·cases h
    ·rename_i l hl
     cases h
     obtain ⟨r', h1, h2⟩ := fill_sound _ _ _ _ _ hp.1 hp.2 ((VR.plain z (hE.zeros t z hz)).cells (φ := φ)) hl
     refine ⟨.agg ⟨r'⟩, ofV ?_, .agg h2⟩
     have hpl' : nth pl = fun i => (⟨pl⟩ : Array (Nat × Nat))[i]? := by funext i; rw [nth_eq]; simp
     have hzc : z.cells = ⟨z.cells.toList⟩ := rfl
     rw [hpl', ← hzc] at h1
     simp only [Instr.build, Sem.run_bind, zero_run hE hz, under_run hE ht, Result.andThen_ok, places_run_array hE fs pl hpl, earr, h1, Sem.run_pure]
  ·rename_i z n e hz ht
   split at h
   ·cases h
   ·rename_i k hk
    split at h
    ·cases h
    ·rename_i l hl
     cases h
     obtain ⟨r', h1, h2⟩ := fill_sound _ _ _ _ _ hp.1 hp.2 ((VR.plain z (hE.zeros t z hz)).cells (φ := φ)) hl
     refine ⟨.agg ⟨r'⟩, ofV ?_, .agg h2⟩
     have hzc : z.cells = ⟨z.cells.toList⟩ := rfl
     rw [← hzc] at h1
     simp only [Instr.build, Sem.run_bind, zero_run hE hz, under_run hE ht, Result.andThen_ok, size_run hE hk, earr, h1, Sem.run_pure]
  ·cases h
 | fieldAddr s x f =>
  simp only [ho, quiet] at h ⊢
  have hx := hρ x (by simp [ho, Op.operands])
  split at h
  ·rename_i fs b o' hs hxe
   split at h
   ·cases h
   ·rename_i fd hf
    split at h
    ·rename_i k hk
     cases h
     rw [hxe] at hx
     obtain ⟨v', h1, h2⟩ := q_fieldAddr (w := w) hE hs hf hk hx
     exact ⟨v', ofV h1, h2⟩
    ·cases h
  ·cases h
 | indexAddr t x i =>
  simp only [ho, quiet] at h ⊢
  have hx := hρ x (by simp [ho, Op.operands])
  have hi := hρ i (by simp [ho, Op.operands])
  split at h
  ·rename_i e b o' len cp ki n ht hxe hie
   cases hb : Nat.blt n len with
   | false => simp [hb] at h
   | true =>
    simp only [hb, cond_true] at h
    split at h
    ·rename_i k hk
     cases h
     rw [hxe] at hx; rw [hie] at hi; rw [hi.int_inv]
     obtain ⟨v', h1, h2⟩ := q_indexAddr_slice (w := w) (ki := ki) hE ht hk (by simpa [Nat.blt_eq] using hb) hx
     exact ⟨v', ofV h1, h2⟩
    ·cases h
  ·rename_i len e b o' ki n ht hxe hie
   cases hb : Nat.blt n len with
   | false => simp [hb] at h
   | true =>
    simp only [hb, cond_true] at h
    split at h
    ·rename_i k hk
     cases h
     rw [hxe] at hx; rw [hie] at hi; rw [hi.int_inv]
     obtain ⟨v', h1, h2⟩ := q_indexAddr_array (w := w) (ki := ki) hE ht hk (by simpa [Nat.blt_eq] using hb) hx
     exact ⟨v', ofV h1, h2⟩
    ·cases h
  ·cases h
 | index t x i =>
  simp only [ho, quiet] at h ⊢
  have hx := hρ x (by simp [ho, Op.operands])
  have hi := hρ i (by simp [ho, Op.operands])
  split at h
  ·rename_i s ki n ht hxe hie
   split at h
   ·rename_i c hc
    cases h
    rw [hxe] at hx; rw [hie] at hi; rw [hi.int_inv, hx.string_inv]
    exact ⟨_, ofV (q_index_string hE ht hc), .int _ _⟩
   ·cases h
  ·rename_i len e l ki n ht hxe hie
   cases hb : Nat.blt n len with
   | false => simp [hb] at h
   | true =>
    have hlt : n < len := by simpa [Nat.blt_eq] using hb
    simp only [hb, cond_true] at h
    rw [hxe] at hx; rw [hie] at hi
    obtain ⟨l', hl, hr⟩ := hx.agg_inv
    rw [hi.int_inv, hl]
    split at h
    ·rename_i d hk hd
     cases ha : isAggD d with
     | true => simp [ha] at h
     | false =>
      simp only [ha, cond_false] at h
      obtain ⟨v', h1, h2⟩ := q_index_cell (w := w) (ki := ki) hE ht hk hd ha hlt h hr
      exact ⟨v', ofV h1, h2⟩
    ·rename_i k d hne hk hd
     cases ha : isAggD d with
     | true =>
      simp only [ha, cond_true, Option.some.injEq] at h
      subst h
      obtain ⟨v', h1, h2⟩ := q_index_agg (w := w) (ki := ki) hE ht hk hd ha hlt hr
      exact ⟨v', ofV h1, h2⟩
     | false => simp [ha] at h
    ·cases h
  ·cases h
 | field t x f =>
  simp only [ho, quiet] at h ⊢
  have hx := hρ x (by simp [ho, Op.operands])
  split at h
  ·rename_i fs l ht hxe
   split at h
   ·cases h
   ·rename_i fd hf
    split at h
    ·rename_i k d hk hd
     rw [hxe] at hx
     obtain ⟨l', hl, hr⟩ := hx.agg_inv
     rw [hl]
     obtain ⟨v', h1, h2⟩ := q_field (w := w) hE ht hf hk hd h hr
     exact ⟨v', ofV h1, h2⟩
    ·cases h
  ·cases h
 | slice t x lo hi mx =>
  rw [ho] at h hρ
  have hx := hρ x (by simp [Op.operands])
  have hlo : ∀ y, lo = some y → VR φ (ρ y) (ρ' y) := fun y hy => hρ y (by subst hy; simp [Op.operands])
  have hhi : ∀ y, hi = some y → VR φ (ρ y) (ρ' y) := fun y hy => hρ y (by subst hy; simp [Op.operands])
  obtain ⟨v', h1, h2⟩ := q_slice hE (w := w) hx hlo hhi mx h
  exact ⟨v', ofV h1, h2⟩
 | makeFunc fn first captured =>
  simp only [ho, quiet, Option.some.injEq] at h ⊢
  subst h
  have rel : ∀ (l : List Operand), (∀ x ∈ l, VR φ (ρ x) (ρ' x)) → VRs φ (l.map ρ) (l.map ρ') := by
   intro l
   induction l with
   | nil => intro _; exact .nil
   | cons y l ih => intro hl; exact .cons (hl y (by simp)) (ih fun z hz => hl z (by simp [hz]))
  have r1 := rel first.toList (fun x hx => hρ x (by simp only [ho, Op.operands, Array.toList_append]; exact List.mem_append.2 (.inl hx)))
  have r2 := rel captured.toList (fun x hx => hρ x (by simp only [ho, Op.operands, Array.toList_append]; exact List.mem_append.2 (.inr hx)))
  refine ⟨.func fn (first.map ρ') (captured.map ρ'), rfl, ?_⟩
  have e1 : first.map ρ' = ⟨first.toList.map ρ'⟩ := by apply Array.ext'; simp
  have e2 : captured.map ρ' = ⟨captured.toList.map ρ'⟩ := by apply Array.ext'; simp
  rw [e1, e2]
  exact .func fn r1 r2
 | convert s d x =>
  rw [ho] at h hρ
  obtain ⟨v', h1, h2⟩ := q_convert hE hR (hρ x (by simp [Op.operands])) h
  exact ⟨v', ofV h1, h2⟩
 | lookup t x i ok =>
  rw [ho] at h hρ
  obtain ⟨v', h1, h2⟩ := q_lookup hE hR (hρ x (by simp [Op.operands])) (hρ i (by simp [Op.operands])) h
  exact ⟨v', ofV h1, h2⟩
 | call c =>
  rw [ho] at h hρ
  have hargs : ∀ x ∈ c.args.toList, VR φ (ρ x) (ρ' x) := fun x hx => hρ x (by simp only [Op.operands, Call.operands, Array.toList_append]; exact List.mem_append.2 (.inr hx))
  cases hcal : c.callee with
  | value f => simp [quiet, hcal] at h
  | invoke r nm => simp [quiet, hcal] at h
  | builtin b =>
   simp only [resolve, hcal, Sem.run_bind, Sem.run_pure, Result.andThen_ok, invoke, builtin]
   cases b <;> first
    | (simp only [quiet, hcal] at h; cases h; done)
    | skip
   ·obtain ⟨h1, h2⟩ := q_len hE hR ty hcal hargs h
    exact ⟨v, ofV h1, h2⟩
   ·simp only [quiet, hcal] at h
    split at h
    ·rename_i x y hxs
     split at h
     ·rename_i k a k' b hxe hye
      cases h
      have hx := hargs x (by rw [hxs]; simp)
      have hy := hargs y (by rw [hxs]; simp)
      rw [hxe] at hx; rw [hye] at hy
      have earr : c.args.map ρ' = #[.int k a, .int k' b] := by apply Array.ext'; simp [hxs, hx.int_inv, hy.int_inv]
      refine ⟨_, ofV (v' := .int k (if b > a then b else a)) ?_, .int _ _⟩
      rw [earr]
      exact run_max_int2 w _ _ k k' a b
     ·cases h
    ·cases h
   ·simp only [quiet, hcal] at h
    split at h
    ·rename_i x y hxs
     split at h
     ·rename_i k a k' b hxe hye
      cases h
      have hx := hargs x (by rw [hxs]; simp)
      have hy := hargs y (by rw [hxs]; simp)
      rw [hxe] at hx; rw [hye] at hy
      have earr : c.args.map ρ' = #[.int k a, .int k' b] := by apply Array.ext'; simp [hxs, hx.int_inv, hy.int_inv]
      refine ⟨_, ofV (v' := .int k (if b < a then b else a)) ?_, .int _ _⟩
      rw [earr]
      exact run_min_int2 w _ _ k k' a b
     ·cases h
    ·cases h
 | _ => simp [ho, quiet] at h

end
end Go.Ev

namespace Go.Ev
set_option linter.unusedSimpArgs false
open Go.RowKit
set_option linter.unusedVariables false
set_option linter.unusedSectionVars false
variable [Sym]

theorem repeat_len (z : List Value) : ∀ n, (repeatList z n).length = n * z.length
 | 0 => by simp [repeatList]
 | n + 1 => by simp [repeatList, repeat_len z n, Nat.succ_mul, Nat.add_comm]

theorem repeat_get (z : List Value) : ∀ n i, i < n * z.length → (repeatList z n)[i]? = z[i % z.length]?
 | 0, i, h => by simp at h
 | n + 1, i, h => by
  simp only [repeatList]
  by_cases hi : i < z.length
  ·rw [List.getElem?_append_left hi, Nat.mod_eq_of_lt hi]
  ·rw [List.getElem?_append_right (by omega), repeat_get z n (i - z.length) (by rw [Nat.succ_mul] at h; omega)]
   congr 1
   conv => rhs; rw [show i = (i - z.length) + z.length by omega, Nat.add_mod_right]

section
variable {φ : Phi}

theorem repeat_rel {z z' : List Value} (h : VRs φ z z') (n : Nat) (A : Array Value) (hA : A = (if n * z'.length = 0 then #[] else ⟨z'⟩)) :
  VRs φ (repeatList z n) ((Array.range (n * z'.length)).map (A[· % A.size]!)).toList := by
 have hl := h.length
 refine VRs.of_get ?_ ?_
 ·simp [repeat_len, hl]
 ·intro i v v' hv hv'
  have hi : i < n * z.length := by
   rcases Nat.lt_or_ge i (n * z.length) with h | h
   ·exact h
   ·rw [List.getElem?_eq_none (by rw [repeat_len]; exact h)] at hv; cases hv
  have hne : n * z'.length ≠ 0 := by rw [← hl]; omega
  rw [if_neg hne] at hA
  subst hA
  rw [repeat_get z n i hi] at hv
  obtain ⟨u, hu, hr⟩ := h.get _ _ hv
  have hsz : (⟨z'⟩ : Array Value).size = z'.length := rfl
  rw [Array.getElem?_toList, Array.getElem?_map, Array.getElem?_range] at hv'
  rw [if_pos (by rw [← hl]; exact hi)] at hv'
  simp only [Option.map_some, Option.some.injEq, hsz] at hv'
  have hpos : 0 < z'.length := by
   rcases Nat.eq_zero_or_pos z'.length with h0 | h0
   ·rw [h0] at hne; simp at hne
   ·exact h0
  have hlt : i % z'.length < z'.length := Nat.mod_lt _ hpos
  have e2 : (⟨z'⟩ : Array Value)[i % z'.length]! = z'[i % z'.length] := by
   rw [getElem!_pos (⟨z'⟩ : Array Value) (i % z'.length) hlt]; rfl
  rw [e2] at hv'
  rw [hl, List.getElem?_eq_getElem hlt] at hu
  cases hu
  rw [← hv']
  exact hr

/-- a new row of cells. -/
theorem ObjR_list {P : Program} {l l' : List Value} (h : VRs φ l l') (hl : l.length ≤ 1000000000) (e : TypeId) (kd : Nat) : ObjR P φ 0 (.cells l.length (ofListFrom .leaf 0 l) e kd) (some (.cells ⟨l'⟩ e (0, 0))) := by
 refine ⟨⟨l'⟩, (0, 0), ⟨_, rfl, fun _ => rfl⟩, ?_, fun i hi _ => ?_, fun _ => rfl, fun _ => ⟨.inl rfl, hl, ?_⟩⟩
 ·show l.length ≤ l'.length
  rw [h.length]; exact Nat.le_refl _
 rotate_left
 ·show l.length + 0 * _ ≤ l'.length
  rw [h.length]; omega
 ·rw [get_ofListFrom _ _ _ _ (by omega), if_pos (by omega), Nat.sub_zero]
  have : l[i]? = some l[i] := List.getElem?_eq_getElem hi
  obtain ⟨v', h1, h2⟩ := h.get i _ this
  exact ⟨l[i], v', this, by simpa using h1, h2⟩

/-- what an operation that makes memory does, in whatever world. -/
structure Made (P : Program) (s : Sem Next) (φ : Phi) (b : Nat) (v : Value) (obj : AObj) (ob : Obj) : Prop where
 run : ∀ W : World, ∃ w' v', s.run P W = .ok (.value v') w' ∧ w'.heap = W.heap.push ob ∧ w'.tape = W.tape ∧ w'.os = W.os ∧ w'.output = W.output ∧ ∀ ψ : Phi, ψ b = some W.heap.size → VR ψ v v'
 obj : ∀ ψ : Phi, φ.le ψ → ObjR P ψ 0 obj (some ob)

end

theorem withAddr_some {m : Mem} {f : Addr → Value} {o : Option Mem} {r : Value × Mem} (h : withAddr m f o = some r) : ∃ m', o = some m' ∧ r = (f ⟨m.next, 0, none⟩, m') := by
 cases o with
 | none => cases h
 | some m' => exact ⟨m', rfl, (Option.some.inj h).symm⟩

theorem newCells_some {m m' : Mem} {e : TypeId} {kd : Nat} {l : List Value} (h : newCells m e kd l = some m') : m' = m.new (.cells l.length (ofListFrom .leaf 0 l) e kd) ∧ l.length ≤ 1000000000 := by
 unfold newCells at h
 cases hb : Nat.ble l.length 1000000000 with
 | false => simp [hb] at h
 | true => simp only [hb, cond_true, Option.some.injEq] at h; exact ⟨h.symm, Nat.le_of_ble_eq_true hb⟩

section
variable {E : Env} {G : Nat} {w0 w : World} {φ : Phi} {m : Mem} {ρ ρ' : Rho}

/-- a new row, its address told by a pointer or a slice. -/
theorem made_row (hE : EnvOk E G) {s : Sem Value} {f : Addr → Value} {l l' : List Value} {e : TypeId} {b : Nat} (hl : VRs φ l l') (hlen : l.length ≤ 1000000000)
  (hs : ∀ W : World, s.run E.P W = .ok (f ⟨W.heap.size, 0, none⟩) { W with heap := W.heap.push (.cells ⟨l'⟩ e (0, 0)) })
  (hf : (∀ a, f a = .pointer (some a)) ∨ ∃ n c, ∀ a, f a = .slice (some a) n c) :
  Made E.P (do pure (.value (← s))) φ b (f ⟨b, 0, none⟩) (.cells l.length (ofListFrom .leaf 0 l) e 0) (.cells ⟨l'⟩ e (0, 0)) where
 run := fun W => ⟨{ W with heap := W.heap.push (.cells ⟨l'⟩ e (0, 0)) }, f ⟨W.heap.size, 0, none⟩, by simp only [Sem.run_bind, hs W, Result.andThen_ok, Sem.run_pure], rfl, rfl, rfl, rfl, fun ψ h => by
  rcases hf with hf | ⟨n, c, hf⟩
  ·rw [hf, hf]; exact .ptr 0 h
  ·rw [hf, hf]; exact .slice 0 n h ⟨Nat.le_refl _, Nat.le_add_right _ _⟩⟩
 obj := fun ψ hle => ObjR_list (hl.mono hle) hlen e 0

theorem allocs_made (hE : EnvOk E G) (o : Oper) (hρ : ∀ x ∈ o.op.operands.toList, VR φ (ρ x) (ρ' x)) {v : Value} {m' : Mem} (h : allocs E m ρ o.op = some (v, m')) :
  ∃ obj ob, m' = m.new obj ∧ Made E.P (execOp ρ' o) φ m.next v obj ob := by
 unfold execOp
 generalize o.type = ty at *
 cases ho : o.op with
 | alloc e =>
  simp only [ho, allocs] at h ⊢
  split at h
  ·cases h
  ·rename_i z hz
   obtain ⟨m1, h1, h2⟩ := withAddr_some h
   cases h2
   obtain ⟨rfl, hlen⟩ := newCells_some h1
   refine ⟨_, _, rfl, made_row (f := fun a => .pointer (some a)) hE ((VR.plain z (hE.zeros e z hz)).cells (φ := φ)) hlen (fun W => ?_) (.inl fun _ => rfl)⟩
   simp [Instr.alloc, zero_run hE hz, newVar, newRow]
 | box e x =>
  simp only [ho, allocs] at h ⊢
  obtain ⟨m1, h1, h2⟩ := withAddr_some h
  cases h2
  obtain ⟨rfl, hlen⟩ := newCells_some h1
  refine ⟨_, _, rfl, made_row (f := fun a => .pointer (some a)) hE (hρ x (by simp [ho, Op.operands])).cells hlen (fun W => ?_) (.inl fun _ => rfl)⟩
  simp [Instr.box, newVar, newRow]
 | buildSlice t len parts =>
  simp only [ho, allocs] at h ⊢
  split at h
  ·rename_i e ht
   split at h
   ·rename_i k z hk hz
    cases hb : (Nat.ble (len * k) 10000000 && Nat.beq (cellsOf z).length k) with
    | false => simp [hb] at h
    | true =>
     simp only [hb, cond_true] at h
     simp only [Bool.and_eq_true] at hb
     have hle := Nat.le_of_ble_eq_true hb.1
     have hzk := Nat.eq_of_beq_eq_true hb.2
     split at h
     ·cases h
     ·rename_i l hl
      obtain ⟨m1, h1, h2⟩ := withAddr_some h
      cases h2
      obtain ⟨rfl, hlen⟩ := newCells_some h1
      have hzc := (VR.plain z (hE.zeros e z hz)).cells (φ := φ)
      have hzl : z.cells.toList.length = k := by rw [← hzc.length, hzk]
      have hp := parts_rel (φ := φ) (ρ := ρ) (ρ' := ρ') parts.toList (fun p hp => hρ p.2 (by
       simp only [ho, Op.operands]
       exact List.mem_map.2 ⟨p, hp, rfl⟩))
      have earr : (parts.map fun (i, x) => (i, ρ' x)).toList = parts.toList.map fun p => (p.1, ρ' p.2) := by simp
      have hrep := repeat_rel hzc len (if len * k = 0 then #[] else z.cells) (by rw [hzl])
      rw [hzl] at hrep
      obtain ⟨r', g1, g2⟩ := fill_sound _ _ _ _ _ hp.1 hp.2 hrep hl
      refine ⟨_, _, rfl, made_row (f := fun a => .slice (some a) len len) hE g2 hlen (fun W => ?_) (.inr ⟨len, len, fun _ => rfl⟩)⟩
      have hno : ¬ len * k > 2 ^ 24 := by omega
      have hmk : ∀ (A : Array Value), (⟨A.toList⟩ : Array Value) = A := fun _ => rfl
      rw [hmk] at g1
      simp only [Instr.buildSlice, Sem.run_bind, under_run hE ht, size_run hE hk, Result.andThen_ok, hno, if_false, earr]
      by_cases h0 : len * k = 0
      ·simp only [if_pos h0] at g1 ⊢
       simp only [Sem.run_bind, Sem.run_pure, Result.andThen_ok, g1, newRow, run_newObj]
      ·simp only [if_neg h0] at g1 ⊢
       simp only [Sem.run_bind, Sem.run_pure, Result.andThen_ok, zero_run hE hz, g1, newRow, run_newObj]
   ·cases h
  ·cases h
 | makeSlice t lo c =>
  simp only [ho, allocs] at h ⊢
  have hlo := hρ lo (by simp [ho, Op.operands])
  have hc := hρ c (by simp [ho, Op.operands])
  split at h
  ·rename_i e l cp ht hle hce
   rw [hle] at hlo
   rw [hce] at hc
   rw [hlo.int_inv, hc.int_inv]
   split at h
   ·cases h
   ·rename_i i hi
    split at h
    ·rename_i z hz
     cases hb : (Nat.ble l cp && Nat.ble (cp * i.bytes) 1000000000 && Nat.blt cp 1000000000 && Nat.beq (cellsOf z).length i.size) with
     | false => simp [hb] at h
     | true =>
      simp only [hb, cond_true] at h
      simp only [Bool.and_eq_true, Nat.blt_eq] at hb
      obtain ⟨⟨⟨b1, b2⟩, b3⟩, b4⟩ := hb
      have b1 := Nat.le_of_ble_eq_true b1
      have b2 := Nat.le_of_ble_eq_true b2
      have b4 := Nat.eq_of_beq_eq_true b4
      obtain ⟨m1, h1, h2⟩ := withAddr_some h
      cases h2
      obtain ⟨rfl, hlen⟩ := newCells_some h1
      have hz' : E.zero e = some z := by unfold Env.zero; rw [hi]; exact hz
      have hzc := (VR.plain z (hE.zeros e z hz')).cells (φ := φ)
      have hzl : z.cells.toList.length = i.size := by rw [← hzc.length, b4]
      have hrep := repeat_rel hzc cp (if cp * i.size = 0 then #[] else z.cells) (by rw [hzl])
      rw [hzl] at hrep
      refine ⟨_, _, rfl, made_row (f := fun a => .slice (some a) l cp) hE hrep hlen (fun W => ?_) (.inr ⟨l, cp, fun _ => rfl⟩)⟩
      have w1 : IntKind.i64.wrap (Int.ofNat l) = (l : Int) := by unfold IntKind.wrap IntKind.signed IntKind.bits; simp only [Int.ofNat_eq_natCast]; split <;> simp_all <;> omega
      have w2 : IntKind.i64.wrap (Int.ofNat cp) = (cp : Int) := by unfold IntKind.wrap IntKind.signed IntKind.bits; simp only [Int.ofNat_eq_natCast]; split <;> simp_all <;> omega
      have hsz : E.size e = some i.size := by unfold Env.size; rw [hi]
      have hbig : ¬ ((i.bytes : Int) * (cp : Int) > 2 ^ 48) := by
       have : (i.bytes : Int) * (cp : Int) = ((cp * i.bytes : Nat) : Int) := by rw [Nat.mul_comm]; simp
       rw [this]
       omega
      have hcond : ((decide ((cp : Int) < 0) || decide ((i.bytes : Int) * (cp : Int) > 2 ^ 48)) || decide ((l : Int) < 0) || decide ((l : Int) > (cp : Int))) = false := by
       simp only [Bool.or_eq_false_iff, decide_eq_false_iff_not]
       omega
      simp only [Instr.makeSlice, Sem.run_bind, under_run hE ht, Result.andThen_ok, asInt, asIntOf, Sem.run_pure, typeInfo, run_program, ti_info hE hi, w1, w2, hcond, Bool.false_eq_true, if_false, run_askRoom, Int.toNat_natCast, size_run hE hsz]
      by_cases h0 : cp * i.size = 0
      ·simp only [if_pos h0]
       simp only [Sem.run_bind, Sem.run_pure, Result.andThen_ok, newRow, run_newObj]
      ·simp only [if_neg h0]
       simp only [Sem.run_bind, Sem.run_pure, Result.andThen_ok, zero_run hE hz', newRow, run_newObj]
    ·cases h
  ·cases h
 | makeMap t r =>
  cases r with
  | some r => simp [ho, allocs] at h
  | none =>
   simp only [ho, allocs, Option.some.injEq] at h ⊢
   cases h
   refine ⟨.map [], .map #[] 0, rfl, fun W => ⟨{ W with heap := W.heap.push (.map #[] 0) }, .map (some W.heap.size), ?_, rfl, rfl, rfl, rfl, fun ψ hψ => .map hψ⟩, fun ψ _ => ⟨#[], 0, rfl, .nil, .nil⟩⟩
   simp [Instr.makeMap]
 | _ => simp [ho, allocs] at h

end
end Go.Ev
