/- Part of an evaluator for closed runs, and of its proof (EvQ4). -/
import Derived.Test.YtihokakelnfdgaaDoorEvQ3
namespace Go.Ev
open Go.RowKit
set_option linter.unusedVariables false
set_option linter.unusedSectionVars false
variable [Sym]

theorem over_get : ∀ (v l : List Value) (i : Nat), v.length ≤ l.length → (splice.over v l)[i]? = if i < v.length then v[i]? else l[i]?
  | [], l, i, _ => by simp [splice.over]
  | a :: v, [], i, h => by simp at h
  | a :: v, b :: l, 0, h => by simp [splice.over]
  | a :: v, b :: l, i + 1, h => by
    simp only [splice.over, List.getElem?_cons_succ, List.length_cons]
    rw [over_get v l i (by simpa using h)]
    by_cases hi : i < v.length
    · rw [if_pos hi, if_pos (by omega)]
    · rw [if_neg hi, if_neg (by omega)]

theorem splice_get : ∀ (off : Nat) (v l : List Value) (i : Nat), off + v.length ≤ l.length → (splice off v l)[i]? = if off ≤ i ∧ i < off + v.length then v[i - off]? else l[i]?
  | 0, v, l, i, h => by
    have : splice 0 v l = splice.over v l := by cases l <;> rfl
    rw [this, over_get v l i (by omega)]
    simp
  | off + 1, v, [], i, h => by simp at h
  | off + 1, v, b :: l, 0, h => by simp [splice]
  | off + 1, v, b :: l, i + 1, h => by
    simp only [splice, List.getElem?_cons_succ]
    rw [splice_get off v l i (by simp at h; omega)]
    by_cases hi : off ≤ i ∧ i < off + v.length
    · rw [if_pos hi, if_pos (by omega), show i + 1 - (off + 1) = i - off by omega]
    · rw [if_neg hi, if_neg (by omega)]

theorem splice_len (off : Nat) (v l : List Value) (h : off + v.length ≤ l.length) : (splice off v l).length = l.length := by
  apply Nat.le_antisymm
  · refine Nat.le_of_not_lt fun hlt => ?_
    have := splice_get off v l l.length h
    rw [if_neg (by omega), List.getElem?_eq_none (Nat.le_refl _)] at this
    rw [List.getElem?_eq_none_iff] at this
    omega
  · refine Nat.le_of_not_lt fun hlt => ?_
    have := splice_get off v l (splice off v l).length h
    rw [List.getElem?_eq_none (Nat.le_refl _)] at this
    split at this
    · rename_i hc
      rw [eq_comm, List.getElem?_eq_none_iff] at this
      omega
    · rw [eq_comm, List.getElem?_eq_none_iff] at this
      omega

theorem setAll_get (off : Nat) : ∀ (l : List Value) (k : Nat) (A : Array Value) (i : Nat), off + k + l.length ≤ A.size →
    ((l.zipIdx k).foldl (fun cs (x : Value × Nat) => cs.setIfInBounds (off + x.2) x.1) A)[i]? = if off + k ≤ i ∧ i < off + k + l.length then l[i - (off + k)]? else A[i]?
  | [], k, A, i, h => by
    have hn : ¬ (off + k ≤ i ∧ i < off + k + ([] : List Value).length) := by simp only [List.length_nil]; omega
    rw [if_neg hn]; rfl
  | v :: l, k, A, i, h => by
    simp only [List.length_cons] at h
    simp only [List.zipIdx_cons, List.foldl_cons]
    rw [setAll_get off l (k + 1) _ i (by rw [Array.size_setIfInBounds]; omega)]
    by_cases hi : off + (k + 1) ≤ i ∧ i < off + (k + 1) + l.length
    · rw [if_pos hi, if_pos (by simp only [List.length_cons]; omega), show i - (off + k) = (i - (off + (k + 1))) + 1 by omega]; rfl
    · rw [if_neg hi]
      by_cases he : i = off + k
      · subst he
        rw [if_pos (by simp only [List.length_cons]; omega), Array.getElem?_setIfInBounds, if_pos rfl, if_pos (by omega)]
        simp
      · rw [if_neg (by simp only [List.length_cons]; omega), Array.getElem?_setIfInBounds, if_neg (by omega)]

theorem zipFold (off : Nat) (v : Array Value) (A : Array Value) :
    v.zipIdx.foldl (fun cs (x : Value × Nat) => cs.setIfInBounds (off + x.2) x.1) A = (v.toList.zipIdx 0).foldl (fun cs (x : Value × Nat) => cs.setIfInBounds (off + x.2) x.1) A := by
  rw [← Array.foldl_toList, Array.toList_zipIdx]

/-- parts put over cells, in both. -/
theorem fill_sound {φ : Phi} {place : Nat → Option (Nat × Nat)} : ∀ (parts : List (Nat × Value)) (parts' : List (Nat × Value)) (cells cells' r : List Value),
    parts.map (·.1) = parts'.map (·.1) → VRs φ (parts.map (·.2)) (parts'.map (·.2)) → VRs φ cells cells' → fill place cells parts = some r →
    ∃ r', Instr.fill place ⟨cells'⟩ parts' = some ⟨r'⟩ ∧ VRs φ r r' := by
  intro parts
  induction parts with
  | nil =>
    intro parts' cells cells' r hi hv hc h
    have : parts' = [] := by simpa using hi.symm
    subst this
    cases h
    exact ⟨cells', rfl, hc⟩
  | cons p parts ih =>
    intro parts' cells cells' r hi hv hc h
    obtain ⟨i, v⟩ := p
    cases parts' with
    | nil => simp at hi
    | cons p' parts' =>
      obtain ⟨i', v'⟩ := p'
      simp only [List.map_cons, List.cons.injEq] at hi
      obtain ⟨rfl, hi⟩ := hi
      simp only [List.map_cons] at hv
      cases hv with
      | cons hv hvs =>
      simp only [fill] at h
      cases hp : place i with
      | none => simp [hp] at h
      | some q =>
        obtain ⟨off, size⟩ := q
        simp only [hp] at h
        cases hb : (Nat.beq (cellsOf v).length size && Nat.ble (off + size) cells.length) with
        | false => simp [hb] at h
        | true =>
          simp only [hb, cond_true] at h
          simp only [Bool.and_eq_true] at hb
          have hs := Nat.eq_of_beq_eq_true hb.1
          have hl := Nat.le_of_ble_eq_true hb.2
          have hcv := hv.cells
          have hlv : v'.cells.toList.length = (cellsOf v).length := hcv.length.symm
          have hlc : cells'.length = cells.length := hc.length.symm
          have hsz : v'.cells.size = size := by rw [← Array.length_toList, hlv, hs]
          simp only [Instr.fill, hp]
          have hcond : (decide (v'.cells.size ≠ size) || decide (off + v'.cells.size > (⟨cells'⟩ : Array Value).size)) = false := by
            have : (⟨cells'⟩ : Array Value).size = cells'.length := rfl
            simp [hsz, this]; omega
          simp only [hcond]
          have key : v'.cells.zipIdx.foldl (fun cs (x : Value × Nat) => cs.setIfInBounds (off + x.2) x.1) (⟨cells'⟩ : Array Value) = ⟨splice off v'.cells.toList cells'⟩ := by
            rw [zipFold]
            apply Array.ext_getElem?
            intro j
            have hb : off + 0 + v'.cells.toList.length ≤ (⟨cells'⟩ : Array Value).size := by
              show _ ≤ cells'.length
              omega
            rw [setAll_get off v'.cells.toList 0 ⟨cells'⟩ j hb]
            have := splice_get off v'.cells.toList cells' j (by omega)
            simp only [Nat.add_zero, List.getElem?_toArray]
            rw [this]
          have hsp : VRs φ (splice off (cellsOf v) cells) (splice off v'.cells.toList cells') := by
            refine VRs.of_get ?_ ?_
            · rw [splice_len _ _ _ (by omega), splice_len _ _ _ (by omega)]; exact hlc.symm
            · intro j x x' hx hx'
              rw [splice_get _ _ _ _ (by omega)] at hx hx'
              by_cases hj : off ≤ j ∧ j < off + (cellsOf v).length
              · rw [if_pos hj] at hx
                rw [if_pos (by omega)] at hx'
                obtain ⟨y, hy, hxy⟩ := hcv.get _ _ hx
                rw [hy] at hx'; cases hx'; exact hxy
              · rw [if_neg hj] at hx
                rw [if_neg (by omega)] at hx'
                obtain ⟨y, hy, hxy⟩ := hc.get _ _ hx
                rw [hy] at hx'; cases hx'; exact hxy
          obtain ⟨r', h1, h2⟩ := ih parts' _ _ r hi hvs hsp h
          refine ⟨r', ?_, h2⟩
          simp only [Bool.false_eq_true, if_false]
          rw [← h1]
          congr 1
  
section
variable {E : Env} {G : Nat} {w0 w : World} {φ : Phi} {m : Mem}

theorem parts_rel {ρ ρ' : Rho} : ∀ (parts : List (Nat × Operand)), (∀ p ∈ parts, VR φ (ρ p.2) (ρ' p.2)) →
    (parts.map fun p => (p.1, ρ p.2)).map (·.1) = (parts.map fun p => (p.1, ρ' p.2)).map (·.1) ∧ VRs φ ((parts.map fun p => (p.1, ρ p.2)).map (·.2)) ((parts.map fun p => (p.1, ρ' p.2)).map (·.2))
  | [], _ => ⟨rfl, .nil⟩
  | p :: l, h => by
    obtain ⟨a, b⟩ := parts_rel l fun q hq => h q (by simp [hq])
    refine ⟨by simp, ?_⟩
    simp only [List.map_cons]
    exact .cons (h p (by simp)) b

theorem places_run (hE : EnvOk E G) : ∀ (fs : List Field) (l : List (Nat × Nat)), places E fs = some l →
    (fs.mapM (m := Sem) fun f => do pure (f.offset, ← sizeOf f.type)).run E.P w = .ok l w
  | [], l, h => by simp [places] at h; subst h; simp
  | f :: fs, l, h => by
    simp only [places] at h
    split at h
    · rename_i k r hk hr
      cases h
      have ih := places_run hE fs r hr
      simp only [List.mapM_cons, Sem.run_bind, size_run hE hk, Result.andThen_ok, Sem.run_pure, ih]
    · cases h

theorem places_run_array (hE : EnvOk E G) (fs : Array Field) (l : List (Nat × Nat)) (h : places E fs.toList = some l) :
    (fs.mapM (m := Sem) fun f => do pure (f.offset, ← sizeOf f.type)).run E.P w = .ok ⟨l⟩ w := by
  rw [Array.mapM_eq_mapM_toList]
  have := places_run (w := w) hE fs.toList l h
  simp only [Sem.run_map, this, Result.andThen_ok]

end
end Go.Ev
