/- Part of an evaluator for closed runs, and of its proof (EvA). -/
import Derived.Test.YtihokakelnfdgaaDoorEvQ8
import Derived.Laws.Tables
import Derived.Laws.IdiomCopy
namespace Go.Ev
open Go.RowKit
set_option linter.unusedVariables false
set_option linter.unusedSectionVars false
variable [Sym]

theorem repeat_len (z : List Value) : ∀ n, (repeatList z n).length = n * z.length
  | 0 => by simp [repeatList]
  | n + 1 => by simp [repeatList, repeat_len z n, Nat.succ_mul, Nat.add_comm]

theorem repeat_get (z : List Value) : ∀ n i, i < n * z.length → (repeatList z n)[i]? = z[i % z.length]?
  | 0, i, h => by simp at h
  | n + 1, i, h => by
    simp only [repeatList]
    by_cases hi : i < z.length
    · rw [List.getElem?_append_left hi, Nat.mod_eq_of_lt hi]
    · rw [List.getElem?_append_right (by omega), repeat_get z n (i - z.length) (by rw [Nat.succ_mul] at h; omega)]
      congr 1
      conv => rhs; rw [show i = (i - z.length) + z.length by omega, Nat.add_mod_right]

section
variable {φ : Phi}

theorem repeat_rel {z z' : List Value} (h : VRs φ z z') (n : Nat) (A : Array Value) (hA : A = (if n * z'.length = 0 then #[] else ⟨z'⟩)) :
    VRs φ (repeatList z n) ((Array.range (n * z'.length)).map (A[· % A.size]!)).toList := by
  have hl := h.length
  refine VRs.of_get ?_ ?_
  · simp [repeat_len, hl]
  · intro i v v' hv hv'
    have hi : i < n * z.length := by
      rcases Nat.lt_or_ge i (n * z.length) with h | h
      · exact h
      · rw [List.getElem?_eq_none (by rw [repeat_len]; exact h)] at hv; cases hv
    have hne : n * z'.length ≠ 0 := by rw [← hl]; omega
    rw [if_neg hne] at hA
    subst hA
    rw [repeat_get z n i hi] at hv
    obtain ⟨u, hu, hr⟩ := h.get _ _ hv
    have hsz : (⟨z'⟩ : Array Value).size = z'.length := rfl
    rw [Array.getElem?_toList, Array.getElem?_map, Array.getElem?_range] at hv'
    rw [if_pos (by rw [← hl]; exact hi)] at hv'
    simp only [Option.map_some, Option.some.injEq, hsz] at hv'
    have hpos : 0 < z'.length := by
      rcases Nat.eq_zero_or_pos z'.length with h0 | h0
      · rw [h0] at hne; simp at hne
      · exact h0
    have hlt : i % z'.length < z'.length := Nat.mod_lt _ hpos
    have e2 : (⟨z'⟩ : Array Value)[i % z'.length]! = z'[i % z'.length] := by
      rw [getElem!_pos (⟨z'⟩ : Array Value) (i % z'.length) hlt]; rfl
    rw [e2] at hv'
    rw [hl, List.getElem?_eq_getElem hlt] at hu
    cases hu
    rw [← hv']
    exact hr

/-- a new row of cells. -/
theorem ObjR_list {P : Program} {l l' : List Value} (h : VRs φ l l') (hl : l.length ≤ 1000000000) (e : TypeId) (kd : Nat) : ObjR P φ 0 (.cells l.length (ofListFrom .leaf 0 l) e kd) (some (.cells ⟨l'⟩ e (0, 0))) := by
  refine ⟨⟨l'⟩, (0, 0), rfl, ?_, fun i hi => ?_, fun _ => rfl, fun _ => ⟨.inl rfl, hl, ?_⟩⟩
  · show l.length ≤ l'.length
    rw [h.length]; exact Nat.le_refl _
  rotate_left
  · show l.length + 0 * _ ≤ l'.length
    rw [h.length]; omega
  · rw [get_ofListFrom _ _ _ _ (by omega), if_pos (by omega), Nat.sub_zero]
    have : l[i]? = some l[i] := List.getElem?_eq_getElem hi
    obtain ⟨v', h1, h2⟩ := h.get i _ this
    exact ⟨l[i], v', this, by simpa using h1, h2⟩

/-- what an operation that makes memory does, in whatever world. -/
structure Made (P : Program) (s : Sem Next) (φ : Phi) (b : Nat) (v : Value) (obj : AObj) (ob : Obj) : Prop where
  run : ∀ W : World, ∃ w' v', s.run P W = .ok (.value v') w' ∧ w'.heap = W.heap.push ob ∧ w'.tape = W.tape ∧ w'.os = W.os ∧ w'.output = W.output ∧ ∀ ψ : Phi, ψ b = some W.heap.size → VR ψ v v'
  obj : ∀ ψ : Phi, φ.le ψ → ObjR P ψ 0 obj (some ob)

end

theorem withAddr_some {m : Mem} {f : Addr → Value} {o : Option Mem} {r : Value × Mem} (h : withAddr m f o = some r) : ∃ m', o = some m' ∧ r = (f ⟨m.next, 0, none⟩, m') := by
  cases o with
  | none => cases h
  | some m' => exact ⟨m', rfl, (Option.some.inj h).symm⟩

theorem newCells_some {m m' : Mem} {e : TypeId} {kd : Nat} {l : List Value} (h : newCells m e kd l = some m') : m' = m.new (.cells l.length (ofListFrom .leaf 0 l) e kd) ∧ l.length ≤ 1000000000 := by
  unfold newCells at h
  cases hb : Nat.ble l.length 1000000000 with
  | false => simp [hb] at h
  | true => simp only [hb, cond_true, Option.some.injEq] at h; exact ⟨h.symm, Nat.le_of_ble_eq_true hb⟩

section
variable {E : Env} {G : Nat} {w0 w : World} {φ : Phi} {m : Mem} {ρ ρ' : Rho}

/-- a new row, its address told by a pointer or a slice. -/
theorem made_row (hE : EnvOk E G) {s : Sem Value} {f : Addr → Value} {l l' : List Value} {e : TypeId} {b : Nat} (hl : VRs φ l l') (hlen : l.length ≤ 1000000000)
    (hs : ∀ W : World, s.run E.P W = .ok (f ⟨W.heap.size, 0, none⟩) { W with heap := W.heap.push (.cells ⟨l'⟩ e (0, 0)) })
    (hf : (∀ a, f a = .pointer (some a)) ∨ ∃ n c, ∀ a, f a = .slice (some a) n c) :
    Made E.P (do pure (.value (← s))) φ b (f ⟨b, 0, none⟩) (.cells l.length (ofListFrom .leaf 0 l) e 0) (.cells ⟨l'⟩ e (0, 0)) where
  run := fun W => ⟨{ W with heap := W.heap.push (.cells ⟨l'⟩ e (0, 0)) }, f ⟨W.heap.size, 0, none⟩, by simp only [Sem.run_bind, hs W, Result.andThen_ok, Sem.run_pure], rfl, rfl, rfl, rfl, fun ψ h => by
    rcases hf with hf | ⟨n, c, hf⟩
    · rw [hf, hf]; exact .ptr 0 h
    · rw [hf, hf]; exact .slice 0 n h ⟨Nat.le_refl _, Nat.le_add_right _ _⟩⟩
  obj := fun ψ hle => ObjR_list (hl.mono hle) hlen e 0

theorem allocs_made (hE : EnvOk E G) (o : Oper) (hρ : ∀ x ∈ o.op.operands.toList, VR φ (ρ x) (ρ' x)) {v : Value} {m' : Mem} (h : allocs E m ρ o.op = some (v, m')) :
    ∃ obj ob, m' = m.new obj ∧ Made E.P (execOp ρ' o) φ m.next v obj ob := by
  unfold execOp
  generalize o.type = ty at *
  cases ho : o.op with
  | alloc e =>
    simp only [ho, allocs] at h ⊢
    split at h
    · cases h
    · rename_i z hz
      obtain ⟨m1, h1, h2⟩ := withAddr_some h
      cases h2
      obtain ⟨rfl, hlen⟩ := newCells_some h1
      refine ⟨_, _, rfl, made_row (f := fun a => .pointer (some a)) hE ((VR.plain z (hE.zeros e z hz)).cells (φ := φ)) hlen (fun W => ?_) (.inl fun _ => rfl)⟩
      simp [Instr.alloc, zero_run hE hz, newVar, newRow]
  | box e x =>
    simp only [ho, allocs] at h ⊢
    obtain ⟨m1, h1, h2⟩ := withAddr_some h
    cases h2
    obtain ⟨rfl, hlen⟩ := newCells_some h1
    refine ⟨_, _, rfl, made_row (f := fun a => .pointer (some a)) hE (hρ x (by simp [ho, Op.operands])).cells hlen (fun W => ?_) (.inl fun _ => rfl)⟩
    simp [Instr.box, newVar, newRow]
  | buildSlice t len parts =>
    simp only [ho, allocs] at h ⊢
    split at h
    · rename_i e ht
      split at h
      · rename_i k z hk hz
        cases hb : (Nat.ble (len * k) 10000000 && Nat.beq (cellsOf z).length k) with
        | false => simp [hb] at h
        | true =>
          simp only [hb, cond_true] at h
          simp only [Bool.and_eq_true] at hb
          have hle := Nat.le_of_ble_eq_true hb.1
          have hzk := Nat.eq_of_beq_eq_true hb.2
          split at h
          · cases h
          · rename_i l hl
            obtain ⟨m1, h1, h2⟩ := withAddr_some h
            cases h2
            obtain ⟨rfl, hlen⟩ := newCells_some h1
            have hzc := (VR.plain z (hE.zeros e z hz)).cells (φ := φ)
            have hzl : z.cells.toList.length = k := by rw [← hzc.length, hzk]
            have hp := parts_rel (φ := φ) (ρ := ρ) (ρ' := ρ') parts.toList (fun p hp => hρ p.2 (by
              simp only [ho, Op.operands]
              exact List.mem_map.2 ⟨p, hp, rfl⟩))
            have earr : (parts.map fun (i, x) => (i, ρ' x)).toList = parts.toList.map fun p => (p.1, ρ' p.2) := by simp
            have hrep := repeat_rel hzc len (if len * k = 0 then #[] else z.cells) (by rw [hzl])
            rw [hzl] at hrep
            obtain ⟨r', g1, g2⟩ := fill_sound _ _ _ _ _ hp.1 hp.2 hrep hl
            refine ⟨_, _, rfl, made_row (f := fun a => .slice (some a) len len) hE g2 hlen (fun W => ?_) (.inr ⟨len, len, fun _ => rfl⟩)⟩
            have hno : ¬ len * k > 2 ^ 24 := by omega
            have hmk : ∀ (A : Array Value), (⟨A.toList⟩ : Array Value) = A := fun _ => rfl
            rw [hmk] at g1
            simp only [Instr.buildSlice, Sem.run_bind, under_run hE ht, size_run hE hk, Result.andThen_ok, hno, if_false, earr]
            by_cases h0 : len * k = 0
            · simp only [if_pos h0] at g1 ⊢
              simp only [Sem.run_bind, Sem.run_pure, Result.andThen_ok, g1, newRow, run_newObj]
            · simp only [if_neg h0] at g1 ⊢
              simp only [Sem.run_bind, Sem.run_pure, Result.andThen_ok, zero_run hE hz, g1, newRow, run_newObj]
      · cases h
    · cases h
  | makeSlice t lo c =>
    simp only [ho, allocs] at h ⊢
    have hlo := hρ lo (by simp [ho, Op.operands])
    have hc := hρ c (by simp [ho, Op.operands])
    split at h
    · rename_i e l cp ht hle hce
      rw [hle] at hlo
      rw [hce] at hc
      rw [hlo.int_inv, hc.int_inv]
      split at h
      · cases h
      · rename_i i hi
        split at h
        · rename_i z hz
          cases hb : (Nat.ble l cp && Nat.ble (cp * i.bytes) 1000000000 && Nat.blt cp 1000000000 && Nat.beq (cellsOf z).length i.size) with
          | false => simp [hb] at h
          | true =>
            simp only [hb, cond_true] at h
            simp only [Bool.and_eq_true, Nat.blt_eq] at hb
            obtain ⟨⟨⟨b1, b2⟩, b3⟩, b4⟩ := hb
            have b1 := Nat.le_of_ble_eq_true b1
            have b2 := Nat.le_of_ble_eq_true b2
            have b4 := Nat.eq_of_beq_eq_true b4
            obtain ⟨m1, h1, h2⟩ := withAddr_some h
            cases h2
            obtain ⟨rfl, hlen⟩ := newCells_some h1
            have hz' : E.zero e = some z := by unfold Env.zero; rw [hi]; exact hz
            have hzc := (VR.plain z (hE.zeros e z hz')).cells (φ := φ)
            have hzl : z.cells.toList.length = i.size := by rw [← hzc.length, b4]
            have hrep := repeat_rel hzc cp (if cp * i.size = 0 then #[] else z.cells) (by rw [hzl])
            rw [hzl] at hrep
            refine ⟨_, _, rfl, made_row (f := fun a => .slice (some a) l cp) hE hrep hlen (fun W => ?_) (.inr ⟨l, cp, fun _ => rfl⟩)⟩
            have w1 : IntKind.i64.wrap (Int.ofNat l) = (l : Int) := by unfold IntKind.wrap IntKind.signed IntKind.bits; simp only [Int.ofNat_eq_natCast]; split <;> simp_all <;> omega
            have w2 : IntKind.i64.wrap (Int.ofNat cp) = (cp : Int) := by unfold IntKind.wrap IntKind.signed IntKind.bits; simp only [Int.ofNat_eq_natCast]; split <;> simp_all <;> omega
            have hsz : E.size e = some i.size := by unfold Env.size; rw [hi]
            have hbig : ¬ ((i.bytes : Int) * (cp : Int) > 2 ^ 48) := by
              have : (i.bytes : Int) * (cp : Int) = ((cp * i.bytes : Nat) : Int) := by rw [Nat.mul_comm]; simp
              rw [this]
              omega
            have hcond : ((decide ((cp : Int) < 0) || decide ((i.bytes : Int) * (cp : Int) > 2 ^ 48)) || decide ((l : Int) < 0) || decide ((l : Int) > (cp : Int))) = false := by
              simp only [Bool.or_eq_false_iff, decide_eq_false_iff_not]
              omega
            simp only [Instr.makeSlice, Sem.run_bind, under_run hE ht, Result.andThen_ok, asInt, asIntOf, Sem.run_pure, typeInfo, run_program, ti_info hE hi, w1, w2, hcond, Bool.false_eq_true, if_false, run_askRoom, Int.toNat_natCast, size_run hE hsz]
            by_cases h0 : cp * i.size = 0
            · simp only [if_pos h0]
              simp only [Sem.run_bind, Sem.run_pure, Result.andThen_ok, newRow, run_newObj]
            · simp only [if_neg h0]
              simp only [Sem.run_bind, Sem.run_pure, Result.andThen_ok, zero_run hE hz', newRow, run_newObj]
        · cases h
    · cases h
  | makeMap t r =>
    cases r with
    | some r => simp [ho, allocs] at h
    | none =>
      simp only [ho, allocs, Option.some.injEq] at h ⊢
      cases h
      refine ⟨.map [], .map #[] 0, rfl, fun W => ⟨{ W with heap := W.heap.push (.map #[] 0) }, .map (some W.heap.size), ?_, rfl, rfl, rfl, rfl, fun ψ hψ => .map hψ⟩, fun ψ _ => ⟨#[], 0, rfl, .nil, .nil⟩⟩
      simp [Instr.makeMap]
  | _ => simp [ho, allocs] at h

end
end Go.Ev
