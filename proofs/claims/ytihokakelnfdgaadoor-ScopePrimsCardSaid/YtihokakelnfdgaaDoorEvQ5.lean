/- Part of an evaluator for closed runs, and of its proof (EvQ5). -/
import Derived.Test.YtihokakelnfdgaaDoorEvQ4
namespace Go.Ev
open Go.RowKit
set_option linter.unusedVariables false
set_option linter.unusedSectionVars false
variable [Sym]

section
variable {E : Env} {G : Nat} {w0 w : World} {φ : Phi} {m : Mem} {ρ ρ' : Rho}

theorem q_fieldAddr (hE : EnvOk E G) {s : TypeId} {f : Nat} {fs : Array Field} {fd : Field} {b o k : Nat} {x' : Value} (hs : E.under s = some (.struct fs)) (hf : nth fs.toList f = some fd)
    (hk : E.size fd.type = some (k + 1)) (hx : VR φ (.pointer (some ⟨b, o, none⟩)) x') :
    ∃ v', (Instr.fieldAt s x' f).run E.P w = .ok v' w ∧ VR φ (.pointer (some ⟨b, o + fd.offset, none⟩)) v' := by
  obtain ⟨b', rfl, hφ⟩ := hx.ptr_inv
  rw [nth_eq] at hf
  have hf' : fs[f]? = some fd := by simpa using hf
  refine ⟨.pointer (some ⟨b', o + fd.offset, none⟩), ?_, .ptr _ hφ⟩
  simp only [Instr.fieldAt, Sem.run_bind, under_run hE hs, Result.andThen_ok, hf', Instr.sureAddr, Sem.run_pure, fieldPlace, size_run hE hk, Sem.run_ite]
  simp [add_at]

theorem q_indexAddr_slice (hE : EnvOk E G) {t e : TypeId} {k b o i len cap : Nat} {ki : IntKind} {x' : Value} (ht : E.under t = some (.slice e)) (hk : E.size e = some k) (hi : i < len)
    (hx : VR φ (.slice (some ⟨b, o, none⟩) len cap) x') :
    ∃ v', (Instr.indexAt t x' (.int ki (.ofNat i))).run E.P w = .ok v' w ∧ VR φ (.pointer (some ⟨b, o + i * k, none⟩)) v' := by
  obtain ⟨b', c', rfl, hφ, _⟩ := hx.slice_inv
  refine ⟨.pointer (some ⟨b', o + i * k, none⟩), ?_, .ptr _ hφ⟩
  simp only [Instr.indexAt, asIntOf, Sem.run_bind, Sem.run_pure, Result.andThen_ok, under_run hE ht, size_run hE hk, Sem.run_ite]
  simp [add_at, hi]

theorem q_indexAddr_array (hE : EnvOk E G) {t e : TypeId} {k b o i len : Nat} {ki : IntKind} {x' : Value} (ht : E.under t = some (.array len e)) (hk : E.size e = some k) (hi : i < len)
    (hx : VR φ (.pointer (some ⟨b, o, none⟩)) x') :
    ∃ v', (Instr.indexAt t x' (.int ki (.ofNat i))).run E.P w = .ok v' w ∧ VR φ (.pointer (some ⟨b, o + i * k, none⟩)) v' := by
  obtain ⟨b', rfl, hφ⟩ := hx.ptr_inv
  refine ⟨.pointer (some ⟨b', o + i * k, none⟩), ?_, .ptr _ hφ⟩
  simp only [Instr.indexAt, asIntOf, Sem.run_bind, Sem.run_pure, Result.andThen_ok, under_run hE ht, size_run hE hk, Sem.run_ite, Instr.sureAddr]
  simp [add_at, hi]

theorem q_index_string (hE : EnvOk E G) {t : TypeId} {i : Nat} {ki : IntKind} {s : List UInt8} {c : UInt8} (ht : E.under t = some .string) (hc : nth s i = some c) :
    (Instr.index t (.string ⟨⟨s⟩⟩) (.int ki (.ofNat i))).run E.P w = .ok (.int .u8 c.toNat) w := by
  rw [nth_eq] at hc
  have hlt : i < s.length := by
    rcases Nat.lt_or_ge i s.length with h | h
    · exact h
    · rw [List.getElem?_eq_none h] at hc; cases hc
  have hb : (ByteArray.mk ⟨s⟩)[i]? = some c := by
    have hsz : i < (ByteArray.mk ⟨s⟩).size := hlt
    rw [getElem?_pos (ByteArray.mk ⟨s⟩) i hsz]
    congr 1
    have : s[i]? = some s[i] := List.getElem?_eq_getElem hlt
    rw [this] at hc
    exact Option.some.inj hc
  simp only [Instr.index, asIntOf, Sem.run_bind, Sem.run_pure, Result.andThen_ok, under_run hE ht]
  have h0 : (0 : Int) ≤ Int.ofNat i := Int.natCast_nonneg i
  rw [if_pos h0, show (Int.ofNat i).toNat = i from rfl, hb]
  rfl

theorem q_index_cell (hE : EnvOk E G) {t e : TypeId} {i len : Nat} {ki : IntKind} {l l' : List Value} {d : TypeDesc} {v : Value} (ht : E.under t = some (.array len e)) (hk : E.size e = some 1) (hd : E.under e = some d)
    (ha : isAggD d = false) (hi : i < len) (hv : nth l i = some v) (hl : VRs φ l l') : ∃ v', (Instr.index t (.agg ⟨l'⟩) (.int ki (.ofNat i))).run E.P w = .ok v' w ∧ VR φ v v' := by
  rw [nth_eq] at hv
  obtain ⟨v', h1, h2⟩ := hl.get i v hv
  refine ⟨v', ?_, h2⟩
  simp only [Instr.index, asIntOf, Sem.run_bind, Sem.run_pure, Result.andThen_ok, under_run hE ht, Sem.run_ite, size_run hE hk]
  have := part_run (w := w) hE hd ha l' i v' h1
  simp [hi, this]

theorem q_index_agg (hE : EnvOk E G) {t e : TypeId} {i len k : Nat} {ki : IntKind} {l l' : List Value} {d : TypeDesc} (ht : E.under t = some (.array len e)) (hk : E.size e = some k) (hd : E.under e = some d)
    (ha : isAggD d = true) (hi : i < len) (hl : VRs φ l l') : ∃ v', (Instr.index t (.agg ⟨l'⟩) (.int ki (.ofNat i))).run E.P w = .ok v' w ∧ VR φ (.agg ⟨(l.drop (i * k)).take k⟩) v' := by
  refine ⟨.agg ⟨(l'.drop (i * k)).take k⟩, ?_, .agg ((hl.drop _).take _)⟩
  simp only [Instr.index, asIntOf, Sem.run_bind, Sem.run_pure, Result.andThen_ok, under_run hE ht, Sem.run_ite, size_run hE hk]
  have := part_run_agg (w := w) hE hd ha hk l' (i * k)
  simp [hi, this]

theorem q_field (hE : EnvOk E G) {t : TypeId} {f k : Nat} {fs : Array Field} {fd : Field} {l l' : List Value} {d : TypeDesc} {v : Value} (ht : E.under t = some (.struct fs)) (hf : nth fs.toList f = some fd)
    (hk : E.size fd.type = some k) (hd : E.under fd.type = some d) (h : (bif isAggD d then some (.agg ⟨(l.drop fd.offset).take k⟩) else nth l fd.offset) = some v) (hl : VRs φ l l') :
    ∃ v', (Instr.field t (.agg ⟨l'⟩) f).run E.P w = .ok v' w ∧ VR φ v v' := by
  rw [nth_eq] at hf
  have hf' : fs[f]? = some fd := by simpa using hf
  simp only [Instr.field, Sem.run_bind, under_run hE ht, Result.andThen_ok, hf', asAgg, Sem.run_pure]
  cases ha : isAggD d with
  | true =>
    simp only [ha, cond_true, Option.some.injEq] at h
    subst h
    exact ⟨_, part_run_agg hE hd ha hk l' _, .agg ((hl.drop _).take _)⟩
  | false =>
    simp only [ha, cond_false] at h
    rw [nth_eq] at h
    obtain ⟨v', h1, h2⟩ := hl.get _ v h
    exact ⟨v', part_run hE hd ha l' _ v' h1, h2⟩

theorem bound_run {d l y : Nat} {code : BoundsCode} {lo : Option Operand} (hρ : ∀ x, lo = some x → VR φ (ρ x) (ρ' x)) (h : bound ρ d lo = some l) (hl : l ≤ y) (W : World) :
    (match lo.map ρ' with | some v => Instr.sliceBound v y code | none => pure d : Sem Nat).run E.P W = .ok l W := by
  cases lo with
  | none => simp only [bound, Option.some.injEq] at h; subst h; rfl
  | some x =>
    have hv := hρ x rfl
    simp only [bound] at h
    split at h
    · rename_i k n hx
      cases h
      rw [hx] at hv
      have e := hv.int_inv
      simp only [Option.map_some, e, Instr.sliceBound, asIntOf, Sem.run_bind, Sem.run_pure, Result.andThen_ok, Sem.run_ite]
      have : (0 : Int) ≤ Int.ofNat l ∧ Int.ofNat l ≤ (y : Int) := ⟨Int.natCast_nonneg l, by simpa using hl⟩
      rw [if_pos this]
      rfl
    · cases h

theorem bounds_run {isS : Bool} {len cap l h : Nat} {lo hi : Option Operand} (hlo : ∀ x, lo = some x → VR φ (ρ x) (ρ' x)) (hhi : ∀ x, hi = some x → VR φ (ρ x) (ρ' x))
    (h1 : bound ρ 0 lo = some l) (h2 : bound ρ len hi = some h) (hlh : l ≤ h) (hc : h ≤ cap) :
    (Instr.sliceBounds isS len cap (lo.map ρ') (hi.map ρ') none).run E.P w = .ok (l, h, cap) w := by
  unfold Instr.sliceBounds
  have b2 := bound_run (E := E) (y := cap) (code := if isS then .sliceAcap else .sliceAlen) hhi h2 hc w
  have b1 := bound_run (E := E) (y := h) (code := .sliceB) hlo h1 hlh w
  simp only [Sem.run_bind, Sem.run_pure, Result.andThen_ok]
  cases hi with
  | none =>
    simp only [bound, Option.some.injEq] at h2
    subst h2
    simp only [Option.map_none, Sem.run_bind, Sem.run_pure, Result.andThen_ok]
    simp only [Option.isSome_none, Bool.false_eq_true, if_false]
    cases lo with
    | none => simp only [bound, Option.some.injEq] at h1; subst h1; rfl
    | some x => simp only [Option.map_some] at b1 ⊢; simp [b1]
  | some y =>
    simp only [Option.map_some, Option.isSome_none, Bool.false_eq_true, if_false] at b2 ⊢
    rw [Sem.run_bind, b2]
    simp only [Result.andThen_ok]
    cases lo with
    | none => simp only [bound, Option.some.injEq] at h1; subst h1; rfl
    | some x => simp only [Option.map_some] at b1 ⊢; simp [b1]

end
end Go.Ev
