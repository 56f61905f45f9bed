/- Part of an evaluator for closed runs, and of its proof (EvB). -/
import Derived.Test.YtihokakelnfdgaaDoorEvA
namespace Go.Ev
open Go.RowKit
set_option linter.unusedVariables false
set_option linter.unusedSectionVars false
variable [Sym]

theorem notFrozen {w : World} {g : Nat} {cur : Array Value} {t : TypeId} {fz : Nat × Nat} (hg : w.heap[g]? = some (.cells cur t fz)) (hf : fz.1 = fz.2 ∨ cur.size ≤ fz.1) (i : Nat) (hi : i < cur.size) :
    w.frozen? ⟨g, i, none⟩ = false := by
  obtain ⟨lo, hi'⟩ := fz
  simp only [World.frozen?, hg, Bool.and_eq_false_iff, decide_eq_false_iff_not]
  simp only at hf
  omega

theorem storeCells_row {P : Program} {g : Nat} {t : TypeId} {fz : Nat × Nat} : ∀ (vs : List Value) (o i : Nat) (cur : Array Value) (w : World), w.heap[g]? = some (.cells cur t fz) → (fz.1 = fz.2 ∨ cur.size ≤ fz.1) → o + i + vs.length ≤ cur.size →
    (∀ v ∈ vs, v.oneCell' = true) → ∃ c2 : Array Value, (storeCells ⟨g, o, none⟩ vs i).run P w = .ok () (w.setRow g c2) ∧ c2.size = cur.size ∧ ∀ j, c2[j]? = if o + i ≤ j ∧ j < o + i + vs.length then vs[j - (o + i)]? else cur[j]?
  | [], o, i, cur, w, hg, hf, hl, h1 => by
    refine ⟨cur, ?_, rfl, fun j => ?_⟩
    · simp only [storeCells]; rw [setRow_self w g cur t fz hg]; rfl
    · simp only [List.length_nil]; rw [if_neg (by omega)]
  | v :: r, o, i, cur, w, hg, hf, hl, h1 => by
    simp only [List.length_cons] at hl
    have hi : o + i < cur.size := by omega
    have hcell : w.cell? ⟨g, o + i, none⟩ = some cur[o + i] := by rw [cell_at hg]; exact Array.getElem?_eq_getElem hi
    have hfro := notFrozen hg hf (o + i) hi
    have hst : (store ((⟨g, o, none⟩ : Addr).add i) v).run P w = .ok () (w.setRow g (cur.setIfInBounds (o + i) v)) := by
      rw [add_at, run_store P w _ v _ (h1 v (by simp)), hcell]
      simp [hfro, setCell_eq_setRow w g (o + i) cur t fz v hg]
    obtain ⟨c2, e1, e2, e3⟩ := storeCells_row (P := P) r o (i + 1) (cur.setIfInBounds (o + i) v) (w.setRow g (cur.setIfInBounds (o + i) v)) (setRow_heap w g cur _ t fz hg) (by simpa using hf) (by simp; omega) (fun x hx => h1 x (by simp [hx]))
    refine ⟨c2, ?_, by simpa using e2, fun j => ?_⟩
    · simp only [storeCells, Sem.run_bind, hst, Result.andThen_ok, e1, setRow_setRow]
    · rw [e3 j]
      by_cases hj : o + (i + 1) ≤ j ∧ j < o + (i + 1) + r.length
      · rw [if_pos hj, if_pos (by simp only [List.length_cons]; omega), show j - (o + i) = (j - (o + (i + 1))) + 1 by omega]; rfl
      · rw [if_neg hj]
        by_cases he : j = o + i
        · subst he
          rw [if_pos (by simp only [List.length_cons]; omega), Array.getElem?_setIfInBounds, if_pos rfl, if_pos hi]
          simp
        · rw [if_neg (by simp only [List.length_cons]; omega), Array.getElem?_setIfInBounds, if_neg (by omega)]

theorem storeFrom_get : ∀ (vs : List Value) (c c' : Tree Value) (i n : Nat), n ≤ 1000000000 → storeFrom c i n vs = some c' →
    (∀ v ∈ vs, oneCell v = true) ∧ (vs ≠ [] → i + vs.length ≤ n) ∧ ∀ j, c'.get j = if i ≤ j ∧ j < i + vs.length then vs[j - i]? else c.get j
  | [], c, c', i, n, hn, h => by
    simp only [storeFrom, Option.some.injEq] at h
    subst h
    refine ⟨by simp, by simp, fun j => ?_⟩
    simp only [List.length_nil]; rw [if_neg (by omega)]
  | v :: l, c, c', i, n, hn, h => by
    simp only [storeFrom] at h
    cases hb : (Nat.blt i n && oneCell v) with
    | false => simp [hb] at h
    | true =>
      simp only [hb, cond_true] at h
      simp only [Bool.and_eq_true, Nat.blt_eq] at hb
      obtain ⟨h1, h2, h3⟩ := storeFrom_get l _ c' (i + 1) n hn h
      refine ⟨fun x hx => (List.mem_cons.1 hx).elim (fun e => e ▸ hb.2) (fun e => h1 x e), fun _ => ?_, fun j => ?_⟩
      · cases l with
        | nil => simp; omega
        | cons y l => have := h2 (by simp); simp only [List.length_cons] at this ⊢; omega
      · rw [h3 j]
        simp only [List.length_cons]
        by_cases hj : i + 1 ≤ j ∧ j < i + 1 + l.length
        · rw [if_pos hj, if_pos (by omega), show j - i = (j - (i + 1)) + 1 by omega]; rfl
        · rw [if_neg hj]
          by_cases he : i = j
          · subst he; rw [get_set_D _ _ _ (by omega), if_pos (by omega)]; simp
          · rw [Tree.get_set_other _ _ _ _ _ he, if_neg (by omega)]

section
variable {E : Env} {G : Nat} {w0 w : World} {φ : Phi} {m : Mem} {ρ ρ' : Rho}

/-- cells of an object of one's own are written, in both. -/
theorem put_cells (hR : Rel E.P G w0 φ m w) (hn : m.next ≤ 1000000000) {b b' o n : Nat} {c c2 : Tree Value} {e : TypeId} {kd : Nat} (hm : m.get b = some (.cells n c e kd)) (hφ : φ b = some b') (hkd : kd ≠ 1) {l l' : List Value} (hl : VRs φ l l')
    (hs : storeFrom c o n l = some c2) : ∃ w', (storeCells ⟨b', o, none⟩ l').run E.P w = .ok () w' ∧ Rel E.P G w0 φ (m.put b (.cells n c2 e kd)) w' := by
  obtain ⟨c', fr, hob, hnc, hc, h0, h1⟩ := hR.obj b _ b' hm hφ
  obtain ⟨hfr, hn9, hcap⟩ := h1 hkd
  obtain ⟨a1, a2, a3⟩ := storeFrom_get l c c2 o n hn9 hs
  have hlen : l'.length = l.length := hl.length.symm
  have hone : ∀ v ∈ l', v.oneCell' = true := by
    intro v hv
    obtain ⟨i, hi, rfl⟩ := List.getElem_of_mem hv
    have hi2 : i < l.length := by omega
    obtain ⟨v', e1, e2⟩ := hl.get i l[i] (List.getElem?_eq_getElem hi2)
    rw [List.getElem?_eq_getElem hi] at e1
    cases e1
    rw [e2.oneCell]
    exact a1 _ (List.getElem_mem hi2)
  have hfit : o + 0 + l'.length ≤ c'.size ∨ l' = [] := by
    cases l with
    | nil => exact .inr (by cases hl; rfl)
    | cons x l => have := a2 (by simp); exact .inl (by omega)
  have key : ∃ c3 : Array Value, (storeCells ⟨b', o, none⟩ l').run E.P w = .ok () (w.setRow b' c3) ∧ c3.size = c'.size ∧ ∀ j, c3[j]? = if o ≤ j ∧ j < o + l'.length then l'[j - o]? else c'[j]? := by
    rcases hfit with hfit | rfl
    · obtain ⟨c3, e1, e2, e3⟩ := storeCells_row (P := E.P) l' o 0 c' w hob hfr hfit hone
      exact ⟨c3, e1, e2, by simpa using e3⟩
    · refine ⟨c', ?_, rfl, fun j => ?_⟩
      · simp only [storeCells]; rw [setRow_self w b' c' e fr hob]; rfl
      · simp only [List.length_nil]; rw [if_neg (by omega)]
  obtain ⟨c3, e1, e2, e3⟩ := key
  refine ⟨w.setRow b' c3, e1, ?_⟩
  have hrw : (AObj.cells n c e kd).rw = true := by
    unfold AObj.rw
    split <;> first | rfl | (rename_i heq; cases heq; exact absurd rfl hkd) | (rename_i heq; cases heq)
  have hrw2 : (AObj.cells n c2 e kd).rw = true := by
    unfold AObj.rw
    split <;> first | rfl | (rename_i heq; cases heq; exact absurd rfl hkd) | (rename_i heq; cases heq)
  refine hR.update hm hφ hrw (.inl hrw2) (by omega) (by simp) (fun k hk => setRow_other w b' k c3 hk) ?_ rfl rfl rfl
  refine ⟨c3, fr, setRow_heap w b' c' c3 e fr hob, by omega, fun i hi => ?_, h0, fun _ => ⟨by rw [e2]; exact hfr, hn9, by rw [e2]; exact hcap⟩⟩
  rw [a3 i, e3 i, hlen]
  by_cases hio : o ≤ i ∧ i < o + l.length
  · rw [if_pos hio, if_pos hio]
    have hx : l[i - o]? = some l[i - o] := List.getElem?_eq_getElem (by omega)
    obtain ⟨v', g1, g2⟩ := hl.get _ _ hx
    exact ⟨_, v', hx, g1, g2⟩
  · rw [if_neg hio, if_neg hio]
    exact hc i hi

theorem store_sound (hE : EnvOk E G) (hR : Rel E.P G w0 φ m w) (hn : m.next ≤ 1000000000) {t : TypeId} {b b' o : Nat} {v v' : Value} {m' : Mem} (h : storeAt E m t b o v = some m') (hφ : φ b = some b') (hv : VR φ v v') :
    ∃ w', (storeVar t ⟨b', o, none⟩ v').run E.P w = .ok () w' ∧ Rel E.P G w0 φ m' w' := by
  unfold storeAt at h
  split at h
  · rename_i k n c e kd hk hm
    cases hb : (Nat.beq (cellsOf v).length k && !(Nat.beq kd 1)) with
    | false => simp [hb] at h
    | true =>
      simp only [hb, cond_true] at h
      simp only [Bool.and_eq_true, Bool.not_eq_true'] at hb
      split at h
      · cases h
      · rename_i c2 hs
        cases h
        have hkd : kd ≠ 1 := fun e => by subst e; simp at hb
        obtain ⟨w', e1, e2⟩ := put_cells (E := E) hR hn hm hφ hkd hv.cells hs
        refine ⟨w', ?_, e2⟩
        have hsz : v'.cells.size = k := by
          have := hv.cells.length
          have h2 := Nat.eq_of_beq_eq_true hb.1
          rw [← Array.length_toList, ← this, h2]
        simp [storeVar, size_run hE hk, hsz, e1]
  · cases h

end
end Go.Ev
