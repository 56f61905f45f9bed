/- Part of an evaluator for closed runs, and of its proof (EvQ6). -/
import Derived.Test.YtihokakelnfdgaaDoorEvQ5
namespace Go.Ev
open Go.RowKit
set_option linter.unusedVariables false
set_option linter.unusedSectionVars false
variable [Sym]

section
variable {E : Env} {G : Nat} {w0 w : World} {φ : Phi} {m : Mem} {ρ ρ' : Rho}

theorem q_slice (hE : EnvOk E G) {t : TypeId} {x : Operand} {lo hi : Option Operand} {v : Value} (hx : VR φ (ρ x) (ρ' x)) (hlo : ∀ y, lo = some y → VR φ (ρ y) (ρ' y)) (hhi : ∀ y, hi = some y → VR φ (ρ y) (ρ' y))
    (mx : Option Operand) (h : quiet E m ρ (.slice t x lo hi mx) = some v) : ∃ v', (Instr.sliceAt t (ρ' x) (lo.map ρ') (hi.map ρ') (mx.map ρ')).run E.P w = .ok v' w ∧ VR φ v v' := by
  simp only [quiet] at h
  split at h
  · -- a string
    rename_i s ht hxe
    rw [hxe] at hx
    have e := hx.string_inv
    rw [e]
    split at h
    · rename_i l hh h1 h2
      cases hb : (Nat.ble l hh && Nat.ble hh s.length) with
      | false => simp [hb] at h
      | true =>
        simp only [hb, cond_true, Option.some.injEq] at h
        subst h
        simp only [Bool.and_eq_true] at hb
        have hl := Nat.le_of_ble_eq_true hb.1
        have hs := Nat.le_of_ble_eq_true hb.2
        have hbr := bounds_run (E := E) (w := w) (isS := false) (cap := (ByteArray.mk ⟨s⟩).size) hlo hhi h1 h2 hl hs
        refine ⟨.string ((ByteArray.mk ⟨s⟩).extract l hh), ?_, ?_⟩
        · have hsz : (ByteArray.mk ⟨s⟩).size = s.length := rfl
          rw [hsz] at hbr
          simp only [Instr.sliceAt, Sem.run_bind, under_run hE ht, Result.andThen_ok, Option.map_none, Instr.slice, Option.isSome_none, Bool.false_eq_true, if_false, hsz, hbr, Sem.run_pure]
        · have : (ByteArray.mk ⟨s⟩).extract l hh = ⟨⟨(s.drop l).take (hh - l)⟩⟩ := by
            apply ByteArray.ext
            apply Array.ext'
            simp
          rw [this]
          exact .string _
    · cases h
  · -- nil
    rename_i e ht hxe
    rw [hxe] at hx
    have e' := hx.snil_inv
    rw [e']
    split at h
    · rename_i h1 h2
      split at h
      · rename_i k hk
        cases h
        have hbr := bounds_run (E := E) (w := w) (isS := true) (cap := 0) hlo hhi h1 h2 (Nat.le_refl _) (Nat.le_refl _)
        refine ⟨.slice none 0 0, ?_, .snil 0 0⟩
        simp only [Instr.sliceAt, Sem.run_bind, under_run hE ht, Result.andThen_ok, Option.map_none, Instr.slice, hbr, size_run hE hk, Sem.run_pure]
        simp
      · cases h
    · cases h
  · rename_i e b o len cap ht hxe
    rw [hxe] at hx
    obtain ⟨b', c', e', hφ, hcc, hck⟩ := hx.slice_inv
    rw [e']
    split at h
    · rename_i l hh h1 h2
      cases hb : (Nat.ble l hh && Nat.ble hh cap) with
      | false => simp [hb] at h
      | true =>
        simp only [hb, cond_true] at h
        simp only [Bool.and_eq_true] at hb
        have hl := Nat.le_of_ble_eq_true hb.1
        have hs := Nat.le_of_ble_eq_true hb.2
        have hbr := bounds_run (E := E) (w := w) (isS := true) (cap := c') hlo hhi h1 h2 hl (by omega)
        cases hlc : (Nat.beq l 0 || Nat.blt l cap) with
        | true =>
          simp only [hlc, cond_true] at h
          split at h
          · rename_i k hk
            cases h
            refine ⟨.slice (some ⟨b', o + l * k, none⟩) (hh - l) (c' - l), ?_, .slice _ _ hφ (by omega)⟩
            simp only [Instr.sliceAt, Sem.run_bind, under_run hE ht, Result.andThen_ok, Option.map_none, Instr.slice, hbr, size_run hE hk, Sem.run_pure, Option.map_some]
            simp only [Bool.or_eq_true, Nat.blt_eq] at hlc
            congr 2
            rcases hlc with h0 | hlt
            · have := Nat.eq_of_beq_eq_true h0
              subst this
              simp [add_at]
            · rw [if_neg (by omega), add_at]
          · cases h
        | false =>
          simp only [hlc, cond_false] at h
          split at h
          · rename_i k hk
            cases h
            have hcl : l = cap := by
              rcases Nat.lt_or_ge l cap with hlt | hge
              · simp only [Bool.or_eq_false_iff] at hlc
                have := hlc.2
                rw [show Nat.blt l cap = true by rw [Nat.blt_eq]; exact hlt] at this
                cases this
              · omega
            have hhl : hh = l := by omega
            subst hcl
            subst hhl
            refine ⟨.slice (if c' = hh then some ⟨b', o, none⟩ else some ((⟨b', o, none⟩ : Addr).add (hh * k))) (hh - hh) (c' - hh), ?_, ?_⟩
            · simp only [Instr.sliceAt, Sem.run_bind, under_run hE ht, Result.andThen_ok, Option.map_none, Instr.slice, hbr, size_run hE hk, Sem.run_pure, Option.map_some]
            · rw [Nat.sub_self]
              split <;> exact .slost _ _ _ _ _
          · cases h
    · cases h
  · rename_i e b o s ht hxe
    rw [hxe] at hx
    obtain ⟨a, c', e', _, _⟩ := hx.slost_inv
    rw [e']
    split at h
    · rename_i h1 h2
      split at h
      · rename_i k hk
        cases h
        have hbr := bounds_run (E := E) (w := w) (isS := true) (cap := c') hlo hhi h1 h2 (Nat.le_refl _) (Nat.zero_le _)
        refine ⟨.slice (some a) 0 c', ?_, .slost _ _ _ _ _⟩
        simp only [Instr.sliceAt, Sem.run_bind, under_run hE ht, Result.andThen_ok, Option.map_none, Instr.slice, hbr, size_run hE hk, Sem.run_pure, Option.map_some]
        simp [Addr.add]
      · cases h
    · cases h
  · cases h

theorem bytesOfCells_rel : ∀ (l l' : List Value) (r : List UInt8), bytesOfCells l = some r → VRs φ l l' → l' = l := by
  intro l
  induction l with
  | nil => intro l' r _ h; cases h; rfl
  | cons v l ih =>
    intro l' r h hv
    cases hv with
    | cons h1 h2 =>
      unfold bytesOfCells at h
      split at h
      · rename_i heq; cases heq
      · rename_i n t heq
        cases heq
        cases h1.int_inv
        split at h
        · cases h
        · rename_i r' hr
          rw [ih _ _ hr h2]
      · cases h

theorem bytesLoop : ∀ (l : List Value) (r : List UInt8) (s : ByteArray), bytesOfCells l = some r →
    (forIn (m := Sem) l s fun c s =>
      match c with
      | .int .u8 n => pure (ForInStep.yield (s.push (UInt8.ofNat n.toNat)))
      | _ => do
        (stuck "bytesToString: byte expected" : Sem PUnit)
        pure (ForInStep.yield s)).run E.P w = .ok ⟨⟨s.data.toList ++ r⟩⟩ w := by
  intro l
  induction l with
  | nil =>
    intro r s h
    simp only [bytesOfCells, Option.some.injEq] at h
    subst h
    simp
  | cons v l ih =>
    intro r s h
    unfold bytesOfCells at h
    split at h
    · rename_i heq; cases heq
    · rename_i n t heq
      cases heq
      split at h
      · cases h
      · rename_i r' hr
        cases h
        simp only [List.forIn_cons, Sem.run_bind, Sem.run_pure, Result.andThen_ok]
        rw [ih _ _ hr]
        congr 3
        simp
    · cases h

theorem q_convert (hE : EnvOk E G) (hR : Rel E.P G w0 φ m w) {s d : TypeId} {x : Operand} {v : Value} (hx : VR φ (ρ x) (ρ' x)) (h : quiet E m ρ (.convert s d x) = some v) :
    ∃ v', (Go.convert s d (ρ' x)).run E.P w = .ok v' w ∧ VR φ v v' := by
  simp only [quiet] at h
  split at h
  · rename_i d' k k' n hs hd hxe
    cases h
    rw [hxe] at hx
    rw [hx.int_inv]
    refine ⟨_, ?_, .int k _⟩
    simp only [Go.convert, Sem.run_bind, under_run hE hs, under_run hE hd, Result.andThen_ok]
    cases d' <;> rfl
  · rename_i d' str hs hd hxe
    cases h
    rw [hxe] at hx
    rw [hx.string_inv]
    refine ⟨_, ?_, .string str⟩
    simp only [Go.convert, Sem.run_bind, under_run hE hs, under_run hE hd, Result.andThen_ok]
    cases d' <;> rfl
  · rename_i e n c hs hd hxe
    split at h
    · rename_i he
      cases h
      rw [hxe] at hx
      rw [hx.snil_inv]
      refine ⟨_, ?_, .string _⟩
      simp only [Go.convert, Sem.run_bind, under_run hE hs, under_run hE hd, Result.andThen_ok, under_run hE he, Conv.bytesToString]
      rfl
    · cases h
  · rename_i e b o len c hs hd hxe
    split at h
    · rename_i n cc e' kd he hm
      cases hb : Nat.ble (o + len) n with
      | false => simp [hb] at h
      | true =>
        simp only [hb, cond_true] at h
        cases hc : cellsFrom cc o len with
        | none => simp [hc] at h
        | some l =>
          simp only [hc] at h
          cases hr : bytesOfCells l with
          | none => simp [hr] at h
          | some r =>
            simp only [hr, Option.some.injEq] at h
            subst h
            rw [hxe] at hx
            obtain ⟨b', c', e'', hφ, _⟩ := hx.slice_inv
            rw [e'']
            obtain ⟨l', h1, h2, h3⟩ := loadCells_sound (E := E) hR hm hφ (Nat.le_of_ble_eq_true hb) hc
            obtain rfl := bytesOfCells_rel l l' r hr h2
            refine ⟨_, ?_, .string _⟩
            simp only [Go.convert, Sem.run_bind, under_run hE hs, under_run hE hd, Result.andThen_ok, under_run hE he, Conv.bytesToString, h1]
            rw [← Array.forIn_toList]
            have := bytesLoop (E := E) (w := w) l' r ByteArray.empty hr
            refine (congrArg (fun q => Result.andThen q _) this).trans ?_
            simp
    · cases h
  · cases h

end
end Go.Ev
