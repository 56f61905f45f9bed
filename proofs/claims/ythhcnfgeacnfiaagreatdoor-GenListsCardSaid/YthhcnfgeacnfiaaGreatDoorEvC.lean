/- Part of a verified evaluator of the model's programs and of runs by it: EvB EvC EvD EvE EvF. -/
import Derived.Test.YthhcnfgeacnfiaaGreatDoorEvB
import Derived.Defers
import Derived.Orders
namespace Go.Ev
set_option linter.unusedSimpArgs false
open Go.RowKit
set_option linter.unusedVariables false
set_option linter.unusedSectionVars false
variable [Sym]

theorem notFrozen {w : World} {g : Nat} {cur : Array Value} {t : TypeId} {fz : Nat × Nat} (hg : w.heap[g]? = some (.cells cur t fz)) (hf : fz.1 = fz.2 ∨ cur.size ≤ fz.1) (i : Nat) (hi : i < cur.size) :
  w.frozen? ⟨g, i, none⟩ = false := by
 obtain ⟨lo, hi'⟩ := fz
 simp only [World.frozen?, hg, Bool.and_eq_false_iff, decide_eq_false_iff_not]
 simp only at hf
 omega

theorem storeCells_row {P : Program} {g : Nat} {t : TypeId} {fz : Nat × Nat} : ∀ (vs : List Value) (o i : Nat) (cur : Array Value) (w : World), w.heap[g]? = some (.cells cur t fz) → (fz.1 = fz.2 ∨ cur.size ≤ fz.1) → o + i + vs.length ≤ cur.size →
  (∀ v ∈ vs, v.oneCell' = true) → ∃ c2 : Array Value, (storeCells ⟨g, o, none⟩ vs i).run P w = .ok () (w.setRow g c2) ∧ c2.size = cur.size ∧ ∀ j, c2[j]? = if o + i ≤ j ∧ j < o + i + vs.length then vs[j - (o + i)]? else cur[j]?
 | [], o, i, cur, w, hg, hf, hl, h1 => by
  refine ⟨cur, ?_, rfl, fun j => ?_⟩
  ·simp only [storeCells]; rw [setRow_self w g cur t fz hg]; rfl
  ·simp only [List.length_nil]; rw [if_neg (by omega)]
 | v :: r, o, i, cur, w, hg, hf, hl, h1 => by
  simp only [List.length_cons] at hl
  have hi : o + i < cur.size := by omega
  have hcell : w.cell? ⟨g, o + i, none⟩ = some cur[o + i] := by rw [cell_at hg]; exact Array.getElem?_eq_getElem hi
  have hfro := notFrozen hg hf (o + i) hi
  have hst : (store ((⟨g, o, none⟩ : Addr).add i) v).run P w = .ok () (w.setRow g (cur.setIfInBounds (o + i) v)) := by
   rw [add_at, run_store P w _ v _ (h1 v (by simp)), hcell]
   simp [hfro, setCell_eq_setRow w g (o + i) cur t fz v hg]
  obtain ⟨c2, e1, e2, e3⟩ := storeCells_row (P := P) r o (i + 1) (cur.setIfInBounds (o + i) v) (w.setRow g (cur.setIfInBounds (o + i) v)) (setRow_heap w g cur _ t fz hg) (by simpa using hf) (by simp; omega) (fun x hx => h1 x (by simp [hx]))
  refine ⟨c2, ?_, by simpa using e2, fun j => ?_⟩
  ·simp only [storeCells, Sem.run_bind, hst, Result.andThen_ok, e1, setRow_setRow]
  ·rw [e3 j]
   by_cases hj : o + (i + 1) ≤ j ∧ j < o + (i + 1) + r.length
   ·rw [if_pos hj, if_pos (by simp only [List.length_cons]; omega), show j - (o + i) = (j - (o + (i + 1))) + 1 by omega]; rfl
   ·rw [if_neg hj]
    by_cases he : j = o + i
    ·subst he
     rw [if_pos (by simp only [List.length_cons]; omega), Array.getElem?_setIfInBounds, if_pos rfl, if_pos hi]
     simp
    ·rw [if_neg (by simp only [List.length_cons]; omega), Array.getElem?_setIfInBounds, if_neg (by omega)]

theorem storeFrom_get : ∀ (vs : List Value) (c c' : Tree Value) (i n : Nat), n ≤ 1000000000 → storeFrom c i n vs = some c' →
  (∀ v ∈ vs, oneCell v = true) ∧ (vs ≠ [] → i + vs.length ≤ n) ∧ ∀ j, c'.get j = if i ≤ j ∧ j < i + vs.length then vs[j - i]? else c.get j
 | [], c, c', i, n, hn, h => by
  simp only [storeFrom, Option.some.injEq] at h
  subst h
  refine ⟨by simp, by simp, fun j => ?_⟩
  simp only [List.length_nil]; rw [if_neg (by omega)]
 | v :: l, c, c', i, n, hn, h => by
  simp only [storeFrom] at h
  cases hb : (Nat.blt i n && oneCell v) with
  | false => simp [hb] at h
  | true =>
   simp only [hb, cond_true] at h
   simp only [Bool.and_eq_true, Nat.blt_eq] at hb
   obtain ⟨h1, h2, h3⟩ := storeFrom_get l _ c' (i + 1) n hn h
   refine ⟨fun x hx => (List.mem_cons.1 hx).elim (fun e => e ▸ hb.2) (fun e => h1 x e), fun _ => ?_, fun j => ?_⟩
   ·cases l with
    | nil => simp; omega
    | cons y l => have := h2 (by simp); simp only [List.length_cons] at this ⊢; omega
   ·rw [h3 j]
    simp only [List.length_cons]
    by_cases hj : i + 1 ≤ j ∧ j < i + 1 + l.length
    ·rw [if_pos hj, if_pos (by omega), show j - i = (j - (i + 1)) + 1 by omega]; rfl
    ·rw [if_neg hj]
     by_cases he : i = j
     ·subst he; rw [Tree.get_set, if_pos (by omega)]; simp
     ·rw [Tree.get_set_other _ _ _ _ _ he, if_neg (by omega)]

section
variable {E : Env} {G : Nat} {w0 w : World} {φ : Phi} {m : Mem} {ρ ρ' : Rho}

/-- cells of an object of one's own are written, in both. -/
theorem put_cells (hR : Rel E.P G w0 φ m w) (hn : True) {b b' o n : Nat} {c c2 : Tree Value} {e : TypeId} {kd : Nat} (hm : m.get b = some (.cells n c e kd)) (hφ : φ b = some b') (hkd : kd ≠ 1) {l l' : List Value} (hl : VRs φ l l')
  (hs : storeFrom c o n l = some c2) : ∃ w', (storeCells ⟨b', o, none⟩ l').run E.P w = .ok () w' ∧ Rel E.P G w0 φ (m.put b (.cells n c2 e kd)) w' := by
 obtain ⟨c', fr, hob, hnc, hc, h0, h1⟩ := hR.obj b _ b' hm hφ
 obtain ⟨e2, hob, he2⟩ := hob
 obtain rfl := (he2 hkd).symm
 obtain ⟨hfr, hn9, hcap⟩ := h1 hkd
 obtain ⟨a1, a2, a3⟩ := storeFrom_get l c c2 o n hn9 hs
 have hlen : l'.length = l.length := hl.length.symm
 have hone : ∀ v ∈ l', v.oneCell' = true := by
  intro v hv
  obtain ⟨i, hi, rfl⟩ := List.getElem_of_mem hv
  have hi2 : i < l.length := by omega
  obtain ⟨v', e1, e2⟩ := hl.get i l[i] (List.getElem?_eq_getElem hi2)
  rw [List.getElem?_eq_getElem hi] at e1
  cases e1
  rw [e2.oneCell]
  exact a1 _ (List.getElem_mem hi2)
 have hfit : o + 0 + l'.length ≤ c'.size ∨ l' = [] := by
  cases l with
  | nil => exact .inr (by cases hl; rfl)
  | cons x l => have := a2 (by simp); exact .inl (by omega)
 have key : ∃ c3 : Array Value, (storeCells ⟨b', o, none⟩ l').run E.P w = .ok () (w.setRow b' c3) ∧ c3.size = c'.size ∧ ∀ j, c3[j]? = if o ≤ j ∧ j < o + l'.length then l'[j - o]? else c'[j]? := by
  rcases hfit with hfit | rfl
  ·obtain ⟨c3, e1, e2, e3⟩ := storeCells_row (P := E.P) l' o 0 c' w hob hfr hfit hone
   exact ⟨c3, e1, e2, by simpa using e3⟩
  ·refine ⟨c', ?_, rfl, fun j => ?_⟩
   ·simp only [storeCells]; rw [setRow_self w b' c' e fr hob]; rfl
   ·simp only [List.length_nil]; rw [if_neg (by omega)]
 obtain ⟨c3, e1, e2, e3⟩ := key
 refine ⟨w.setRow b' c3, e1, ?_⟩
 have hrw : (AObj.cells n c e kd).rw = true := by
  unfold AObj.rw
  split <;> first | rfl | (rename_i heq; cases heq; exact absurd rfl hkd) | (rename_i heq; cases heq)
 have hrw2 : (AObj.cells n c2 e kd).rw = true := by
  unfold AObj.rw
  split <;> first | rfl | (rename_i heq; cases heq; exact absurd rfl hkd) | (rename_i heq; cases heq)
 refine hR.update hm hφ hrw (.inl hrw2) (by omega) (by simp) (fun k hk => setRow_other w b' k c3 hk) ?_ rfl rfl rfl
 refine ⟨c3, fr, ⟨_, setRow_heap w b' c' c3 _ fr hob, fun _ => rfl⟩, by omega, fun i hi _ => ?_, h0, fun _ => ⟨by rw [e2]; exact hfr, hn9, by rw [e2]; exact hcap⟩⟩
 rw [a3 i, e3 i, hlen]
 by_cases hio : o ≤ i ∧ i < o + l.length
 ·rw [if_pos hio, if_pos hio]
  have hx : l[i - o]? = some l[i - o] := List.getElem?_eq_getElem (by omega)
  obtain ⟨v', g1, g2⟩ := hl.get _ _ hx
  exact ⟨_, v', hx, g1, g2⟩
 ·rw [if_neg hio, if_neg hio]
  exact hc i hi (fun h => absurd h hkd)

theorem store_sound (hE : EnvOk E G) (hR : Rel E.P G w0 φ m w) (hn : True) {t : TypeId} {b b' o : Nat} {v v' : Value} {m' : Mem} (h : storeAt E m t b o v = some m') (hφ : φ b = some b') (hv : VR φ v v') :
  ∃ w', (storeVar t ⟨b', o, none⟩ v').run E.P w = .ok () w' ∧ Rel E.P G w0 φ m' w' := by
 unfold storeAt at h
 split at h
 ·rename_i k n c e kd hk hm
  cases hb : (Nat.beq (cellsOf v).length k && !(Nat.beq kd 1)) with
  | false => simp [hb] at h
  | true =>
   simp only [hb, cond_true] at h
   simp only [Bool.and_eq_true, Bool.not_eq_true'] at hb
   split at h
   ·cases h
   ·rename_i c2 hs
    cases h
    have hkd : kd ≠ 1 := fun e => by subst e; simp at hb
    obtain ⟨w', e1, e2⟩ := put_cells (E := E) hR hn hm hφ hkd hv.cells hs
    refine ⟨w', ?_, e2⟩
    have hsz : v'.cells.size = k := by
     have := hv.cells.length
     have h2 := Nat.eq_of_beq_eq_true hb.1
     rw [← Array.length_toList, ← this, h2]
    simp [storeVar, size_run hE hk, hsz, e1]
 ·cases h

end
end Go.Ev

namespace Go.Ev
set_option linter.unusedSimpArgs false
open Go.RowKit
set_option linter.unusedVariables false
set_option linter.unusedSectionVars false
variable [Sym]

/-- the objects that stood mean what they meant. -/
def Ext (φ φ' : Phi) (m m' : Mem) : Prop := φ.le φ' ∧ (∀ b, b < m.next → φ' b = φ b) ∧ m.next ≤ m'.next

theorem Ext.refl (φ : Phi) {m m' : Mem} (h : m.next ≤ m'.next) : Ext φ φ m m' := ⟨φ.le_refl, fun _ _ => rfl, h⟩
theorem Ext.set {φ : Phi} {m m' : Mem} (h : φ m.next = none) (b' κ : Nat) (hn : m.next ≤ m'.next) : Ext φ (φ.set m.next b' κ) m m' := ⟨Phi.le_set h _ _, fun b hb => Phi.set_other _ (by omega), hn⟩
theorem Ext.trans {φ φ' φ'' : Phi} {m m' m'' : Mem} (h : Ext φ φ' m m') (k : Ext φ' φ'' m' m'') : Ext φ φ'' m m'' :=
 ⟨h.1.trans k.1, fun b hb => (k.2.1 b (Nat.lt_of_lt_of_le hb h.2.2)).trans (h.2.1 b hb), Nat.le_trans h.2.2 k.2.2⟩

section
variable {E : Env} {G : Nat} {w0 w : World} {φ : Phi} {m : Mem} {ρ ρ' : Rho}

/-- what is appended: its cells, in whatever world with these blocks. -/
theorem cellsIn_sound (hE : EnvOk E G) (hR : Rel E.P G w0 φ m w) {size k : Nat} {y y' : Value} {new : List Value} (h : effect.cellsIn m size y = some (k, new)) (hy : VR φ y y') :
  ∃ new' : List Value, VRs φ new new' ∧ new.length = k * size ∧ ∀ W : World, W.heap = w.heap → (Builtin.lenOf y').run E.P W = .ok k W ∧ (Builtin.firstCells size k y').run E.P W = .ok ⟨new'⟩ W := by
 unfold effect.cellsIn at h
 split at h
 ·rename_i n c
  cases hb : Nat.beq n 0 with
  | false => simp [hb] at h
  | true =>
   simp only [hb, cond_true, Option.some.injEq, Prod.mk.injEq] at h
   obtain ⟨rfl, rfl⟩ := h
   have := Nat.eq_of_beq_eq_true hb
   subst this
   rw [hy.snil_inv]
   exact ⟨[], .nil, by simp, fun W _ => ⟨rfl, rfl⟩⟩
 ·rename_i b o s n c
  cases hb : Nat.beq n 0 with
  | false => simp [hb] at h
  | true =>
   simp only [hb, cond_true, Option.some.injEq, Prod.mk.injEq] at h
   obtain ⟨rfl, rfl⟩ := h
   obtain ⟨a, c', rfl, _, _⟩ := hy.slost_inv
   exact ⟨[], .nil, by simp, fun W _ => ⟨rfl, by simp [Builtin.firstCells, loadCells, loadCellsFrom]⟩⟩
 ·rename_i b o n c
  split at h
  ·rename_i kk cc e kd hm
   cases hb : Nat.ble (o + n * size) kk with
   | false => simp [hb] at h
   | true =>
    simp only [hb, cond_true] at h
    split at h
    ·cases h
    ·rename_i l hl
     simp only [Option.some.injEq, Prod.mk.injEq] at h
     obtain ⟨rfl, rfl⟩ := h
     obtain ⟨b', c', rfl, hφ, _⟩ := hy.slice_inv
     obtain ⟨cw, fr, ⟨e2, hob, _⟩, hn, hc, _⟩ := hR.obj b _ b' hm hφ
     obtain ⟨l', g1, g2, g3⟩ := cellsFrom_rel hc (n * size) o l (Nat.le_of_ble_eq_true hb) hl
     refine ⟨l', g1, cellsFrom_len hl, fun W hW => ⟨rfl, ?_⟩⟩
     have := run_loadCells_list (P := E.P) W ⟨b', o, none⟩ l' (fun j v hv => by rw [add_at, cell_at (hW ▸ hob)]; exact g3 j v hv)
     rw [g2] at this
     exact this
  ·cases h
 ·rename_i s
  cases hb : Nat.beq size 1 with
  | false => simp [hb] at h
  | true =>
   simp only [hb, cond_true, Option.some.injEq, Prod.mk.injEq] at h
   obtain ⟨rfl, rfl⟩ := h
   rw [hy.string_inv]
   have e : ∀ s : List UInt8, cellsOfBytes s = s.map fun b => Value.int .u8 b.toNat := by
    intro s
    induction s with
    | nil => rfl
    | cons a s ih => simp [cellsOfBytes, ih]
   have hplain : ∀ s : List UInt8, VRs φ (cellsOfBytes s) (cellsOfBytes s) := by
    intro s
    induction s with
    | nil => exact .nil
    | cons a s ih => exact .cons (.int _ _) ih
   have := Nat.eq_of_beq_eq_true hb
   refine ⟨cellsOfBytes s, hplain s, by rw [e]; simp [this], fun W _ => ⟨rfl, ?_⟩⟩
   have hex : (ByteArray.mk ⟨s⟩).extract 0 s.length = ⟨⟨s⟩⟩ := by
    apply ByteArray.ext
    apply Array.ext'
    simp
   simp only [Builtin.firstCells, hex, Sem.run_pure]
   rw [e]
   simp
 ·cases h

theorem zeroCells_size (z : Array Value) (n : Nat) : (Builtin.zeroCells z n).size = n * z.size := by simp [Builtin.zeroCells]

theorem cut_le (need old : Nat) (e : TypeId) (t : Nat) : need ≤ (Question.appendCap need old e).cut t := Nat.le_add_right _ _

/-- a new row behind a draw of a capacity. -/
theorem grown_row (hR : Rel E.P G w0 φ m w) (hn : True) {l l' rest : List Value} {e : TypeId} {kd need cap : Nat} (hl : VRs φ l l') (hlen : l.length ≤ 1000000000) (hkd : kd ≠ 1)
  (hneed : l.length = need * E.P.cellsOf e) (hcap : need ≤ cap) (hrest : rest.length = (cap - need) * E.P.cellsOf e) :
  Rel E.P G w0 (φ.set m.next w.heap.size (cap - need)) (m.new (.cells l.length (ofListFrom .leaf 0 l) e kd)) { w with heap := w.heap.push (.cells ⟨l' ++ rest⟩ e (0, 0)), drawn := w.drawn + 1 } := by
 have hle := hR.le_next w.heap.size (cap - need)
 refine Rel.alloc hR _ (by omega) ?_ rfl rfl rfl rfl
 have hl2 := hl.length
 refine ⟨⟨l' ++ rest⟩, (0, 0), ⟨_, rfl, fun _ => rfl⟩, ?_, fun i hi _ => ?_, fun _ => rfl, fun _ => ⟨.inl rfl, hlen, ?_⟩⟩
 ·show l.length ≤ (l' ++ rest).length
  rw [List.length_append, ← hl2]; omega
 ·rw [get_ofListFrom _ _ _ _ (by omega), if_pos (by omega), Nat.sub_zero]
  have : l[i]? = some l[i] := List.getElem?_eq_getElem hi
  obtain ⟨v', h1, h2⟩ := hl.get i _ this
  refine ⟨l[i], v', this, ?_, h2.mono hle⟩
  rw [List.getElem?_toArray, List.getElem?_append_left (by omega)]; exact h1
 ·show l.length + (cap - need) * E.P.cellsOf e ≤ (l' ++ rest).length
  rw [List.length_append, ← hl2, hrest]
  exact Nat.le_refl _

end

section
variable {w : World} {P : Program} {t u ty e : TypeId} {du : TypeDesc} {i : TypeInfo} {base : Option Addr} {sLen sCap k : Nat} {y' : Value} {new' : List Value}

theorem run_room (ht : P.underlying t = some (.slice e)) (hu : P.underlying u = some du) (hdu : (∃ e', du = .slice e') ∨ du = .string) (hi : P.info? e = some i)
  (hlen : (Builtin.lenOf y').run P w = .ok k w) (hfirst : (Builtin.firstCells i.size k y').run P w = .ok ⟨new'⟩ w) (hroom : sLen + k ≤ sCap) {w' : World}
  (hst : (match base with | some a => storeCells (a.add (sLen * i.size)) new' | none => pure () : Sem Unit).run P w = .ok () w') :
  (Builtin.append_ #[t, u] ty #[.slice base sLen sCap, y']).run P w = .ok (.slice base (sLen + k) sCap) w' := by
 rcases hdu with ⟨e', rfl⟩ | rfl
 all_goals
  cases base with
  | none =>
   have hst' : w' = w := by simpa using hst.symm
   subst hst'
   simp [Builtin.append_, run_underlying ht, run_underlying hu, sizeOf, typeInfo, hi, hlen, hroom, hfirst]
  | some a =>
   simp only at hst
   simp [Builtin.append_, run_underlying ht, run_underlying hu, sizeOf, typeInfo, hi, hlen, hroom, hfirst, hst]

theorem run_grow {z : Value} {old' : List Value} (ht : P.underlying t = some (.slice e)) (hu : P.underlying u = some du) (hdu : (∃ e', du = .slice e') ∨ du = .string) (hi : P.info? e = some i) (hz : i.zero = some z)
  (hlen : (Builtin.lenOf y').run P w = .ok k w) (hfirst : (Builtin.firstCells i.size k y').run P { w with drawn := w.drawn + 1 } = .ok ⟨new'⟩ { w with drawn := w.drawn + 1 })
  (hold : (Builtin.firstCells i.size sLen (.slice base sLen sCap)).run P { w with drawn := w.drawn + 1 } = .ok ⟨old'⟩ { w with drawn := w.drawn + 1 })
  (hno : ¬ sLen + k ≤ sCap) (h63 : sLen + k ≤ 1000000000) (h48 : (sLen + k) * i.bytes ≤ 1000000000) :
  ∃ cap, sLen + k ≤ cap ∧ (Builtin.append_ #[t, u] ty #[.slice base sLen sCap, y']).run P w = .ok (.slice (some ⟨w.heap.size, 0, none⟩) (sLen + k) cap)
   { w with heap := w.heap.push (.cells ⟨old' ++ new' ++ (Builtin.zeroCells z.cells (cap - (sLen + k))).toList⟩ e (0, 0)), drawn := w.drawn + 1 } := by
 refine ⟨(Question.appendCap (sLen + k) sCap e).cut (w.tape w.drawn (.appendCap (sLen + k) sCap e)), cut_le _ _ _ _, ?_⟩
 have h63' : ¬ (9223372036854775807 < ((sLen : Int) + (k : Int))) := by omega
 have hnx := nextslicecap_le (show sCap < sLen + k by omega)
 have h48' : ¬ (281474976710656 < Builtin.nextslicecap (sLen + k) sCap * i.bytes) := by
  have : Builtin.nextslicecap (sLen + k) sCap * i.bytes ≤ 2 * (sLen + k) * i.bytes := Nat.mul_le_mul_right _ hnx
  rw [Nat.mul_assoc] at this
  omega
 have hfirst' : (Builtin.firstCells i.size k y').run P w.drew = .ok ⟨new'⟩ w.drew := hfirst
 have hold' : (Builtin.firstCells i.size sLen (.slice base sLen sCap)).run P w.drew = .ok ⟨old'⟩ w.drew := hold
 have hA : ∀ Z : Array Value, ((⟨old'⟩ : Array Value) ++ ((⟨new'⟩ : Array Value) ++ Z)) = ⟨old' ++ (new' ++ Z.toList)⟩ := fun Z => by
  apply Array.ext'
  simp
 rcases hdu with ⟨e', rfl⟩ | rfl
 all_goals
  simp [Builtin.append_, run_underlying ht, run_underlying hu, sizeOf, typeInfo, zeroValue, hi, hz, hlen, hno, h63', h48', Question.forced, hfirst', hold', newRow]
  rw [hA]
  rfl

end

section
variable {E : Env} {G : Nat} {w0 w : World} {φ : Phi} {m : Mem} {ρ ρ' : Rho}

theorem append_sound (hE : EnvOk E G) (hR : Rel E.P G w0 φ m w) (hn : True) {t u ty e : TypeId} {du : TypeDesc} {i : TypeInfo} {z x y x' y' v : Value} {k : Nat} {new : List Value} {m' : Mem}
  (ht : E.under t = some (.slice e)) (hu : E.under u = some du) (hdu : (∃ e', du = .slice e') ∨ du = .string) (hi : E.ti e = some i) (hz : i.zero = some z) (hzl : (cellsOf z).length = i.size)
  (hx : VR φ x x') (hy : VR φ y y') (hnew : effect.cellsIn m i.size y = some (k, new)) (h : effect.append m e i.size i.bytes x k new = some (v, m')) :
  ∃ φ' v' w', (Builtin.append_ #[t, u] ty #[x', y']).run E.P w = .ok v' w' ∧ Ext φ φ' m m' ∧ VR φ' v v' ∧ Rel E.P G w0 φ' m' w' := by
 obtain ⟨new', hnr, hnl, hW⟩ := cellsIn_sound hE hR hnew hy
 have hi' := ti_info hE hi
 have hcells : E.P.cellsOf e = i.size := by simp [Program.cellsOf, hi']
 have hz' : E.zero e = some z := by unfold Env.zero; rw [hi]; exact hz
 have hzc := (VR.plain z (hE.zeros e z hz')).cells (φ := φ)
 have hzs : z.cells.size = i.size := by rw [← Array.length_toList, ← hzc.length, hzl]
 have hnl' : new'.length = k * i.size := by rw [← hnr.length, hnl]
 have ht' := under_eq hE ht
 have hu' := under_eq hE hu
 obtain ⟨hlen0, hfirst0⟩ := hW w rfl
 obtain ⟨hlen1, hfirst1⟩ := hW { w with drawn := w.drawn + 1 } rfl
 have hzero : ∀ n, (Builtin.zeroCells z.cells n).toList.length = n * i.size := fun n => by rw [Array.length_toList, zeroCells_size, hzs]
 unfold effect.append at h
 split at h
 ·-- nil
  rename_i n c
  cases hb : (Nat.beq n 0 && Nat.beq c 0 && Nat.ble (k * i.bytes) 1000000000 && Nat.ble k 1000000000) with
  | false => simp [hb] at h
  | true =>
   simp only [hb, cond_true] at h
   simp only [Bool.and_eq_true] at hb
   obtain ⟨⟨⟨b1, b2⟩, b3⟩, b4⟩ := hb
   have b1 := Nat.eq_of_beq_eq_true b1
   have b2 := Nat.eq_of_beq_eq_true b2
   have b3 := Nat.le_of_ble_eq_true b3
   have b4 := Nat.le_of_ble_eq_true b4
   subst b1 b2
   rw [hx.snil_inv]
   cases hk : Nat.beq k 0 with
   | true =>
    simp only [hk, cond_true, Option.some.injEq, Prod.mk.injEq] at h
    obtain ⟨rfl, rfl⟩ := h
    have := Nat.eq_of_beq_eq_true hk
    subst this
    exact ⟨φ, _, w, run_room ht' hu' hdu hi' hlen0 hfirst0 (Nat.le_refl _) (w' := w) rfl, Ext.refl _ (Nat.le_refl _), .snil 0 0, hR⟩
   | false =>
    simp only [hk, cond_false] at h
    obtain ⟨m1, h1, h2⟩ := withAddr_some h
    cases h2
    obtain ⟨rfl, hlen⟩ := newCells_some h1
    have hkpos : k ≠ 0 := fun e => by subst e; simp at hk
    obtain ⟨cap, hcap, hrun⟩ := run_grow (ty := ty) (base := none) (sLen := 0) (sCap := 0) (old' := []) ht' hu' hdu hi' hz hlen0 hfirst1 rfl (by omega) (by omega) (by simpa using b3)
    simp only [Nat.zero_add] at hcap hrun
    refine ⟨_, _, _, hrun, Ext.set hR.next_none _ _ (Nat.le_succ _), ?_, grown_row hR hn (kd := 0) hnr hlen (by decide) (by rw [hcells]; exact hnl) hcap (by rw [hzero, hcells])⟩
    refine .slice 0 k (Phi.set_same _ _ _ _) ⟨hcap, ?_⟩
    rw [Phi.cap_same]; omega
 ·rename_i b o n cap
  split at h
  ·rename_i nc c el kd hm
   cases hkd1 : Nat.beq kd 1 with
   | true => simp [hkd1] at h
   | false =>
    simp only [hkd1, cond_false] at h
    have hkd : kd ≠ 1 := fun e => by subst e; simp at hkd1
    obtain ⟨b', c', hxe, hφ, hc1, hc2⟩ := hx.slice_inv
    rw [hxe]
    cases hroom : Nat.ble (n + k) cap with
    | true =>
     simp only [hroom, cond_true] at h
     split at h
     ·cases h
     ·rename_i c2 hs
      simp only [Option.some.injEq, Prod.mk.injEq] at h
      obtain ⟨rfl, rfl⟩ := h
      have hle := Nat.le_of_ble_eq_true hroom
      obtain ⟨w', e1, e2⟩ := put_cells (E := E) hR hn hm hφ hkd hnr hs
      refine ⟨φ, _, w', run_room ht' hu' hdu hi' hlen0 hfirst0 (by omega) (w' := w') ?_, Ext.refl _ (Nat.le_refl _), .slice o (n + k) hφ ⟨hc1, hc2⟩, e2⟩
      simp only [add_at]
      exact e1
    | false =>
     simp only [hroom, cond_false] at h
     cases hb : (Nat.ble n cap && Nat.ble (cap * i.size) nc && Nat.beq el e && Nat.beq o 0 && Nat.ble ((n + k) * i.bytes) 1000000000 && Nat.ble (n + k) 1000000000 && Nat.ble ((n + k) * i.size) 1000000000 && new.all oneCell) with
     | false => simp [hb] at h
     | true =>
      simp only [hb, cond_true, Option.some.injEq, Prod.mk.injEq] at h
      obtain ⟨rfl, rfl⟩ := h
      simp only [Bool.and_eq_true] at hb
      obtain ⟨⟨⟨⟨⟨⟨⟨b0, b1⟩, b2⟩, b3⟩, b4⟩, b5⟩, b6⟩, b7⟩ := hb
      have b0 := Nat.le_of_ble_eq_true b0
      have b1 := Nat.le_of_ble_eq_true b1
      have b2 := Nat.eq_of_beq_eq_true b2
      have b3 := Nat.eq_of_beq_eq_true b3
      have b4 := Nat.le_of_ble_eq_true b4
      have b5 := Nat.le_of_ble_eq_true b5
      have b6 := Nat.le_of_ble_eq_true b6
      subst b2 b3
      have hncap : n * i.size ≤ nc := Nat.le_trans (Nat.mul_le_mul_right _ b0) b1
      obtain ⟨cw, fr, ⟨e2, hob, he2⟩, hnc, hcs, h0, h1⟩ := hR.obj b _ b' hm hφ
      obtain rfl := (he2 hkd).symm
      obtain ⟨hfr, hn9, hcapw⟩ := h1 hkd
      rw [hcells] at hcapw
      have hnk : (n + k) * i.size = n * i.size + k * i.size := Nat.add_mul _ _ _
      have hrw : (AObj.cells nc c el kd).rw = true := by
       unfold AObj.rw
       split <;> first | rfl | (rename_i heq; cases heq; exact absurd rfl hkd) | (rename_i heq; cases heq)
      have hrw2 : ∀ t, (AObj.cells ((n + k) * i.size) t el kd).rw = true := by
       intro t
       unfold AObj.rw
       split <;> first | rfl | (rename_i heq; cases heq; exact absurd rfl hkd) | (rename_i heq; cases heq)
      -- the first cells in the world
      have hold : ∃ old' : List Value, VRs φ ((List.range (n * i.size)).map fun j => (c.get j).getD undef) old' ∧ old'.length = n * i.size ∧ ∀ (j : Nat) (v : Value), old'[j]? = some v → cw[j]? = some v := by
       refine ⟨(cw.toList.take (n * i.size)), ?_, by simp; omega, fun j v hv => ?_⟩
       ·refine VRs.of_get (by simp; omega) fun j v v' hv hv' => ?_
        have hj : j < n * i.size := by
         rcases Nat.lt_or_ge j (n * i.size) with h | h
         ·exact h
         ·rw [List.getElem?_eq_none (by simp; omega)] at hv; cases hv
        obtain ⟨x, x', q1, q2, q3⟩ := hcs j (by omega) (fun h => absurd h hkd)
        rw [List.getElem?_map, List.getElem?_range hj] at hv
        simp only [Option.map_some, Option.some.injEq, q1, Option.getD_some] at hv
        rw [List.getElem?_take_of_lt hj, Array.getElem?_toList, q2] at hv'
        cases hv'
        subst hv
        exact q3
       ·by_cases hj : j < n * i.size
        ·rw [List.getElem?_take_of_lt hj, Array.getElem?_toList] at hv; exact hv
        ·rw [List.getElem?_eq_none (by simp; omega)] at hv; cases hv
      obtain ⟨old', ho1, ho2, ho3⟩ := hold
      have hnocap : ¬ n + k ≤ cap := fun hle => by rw [Nat.ble_eq_true_of_le hle] at hroom; cases hroom
      -- the new object's cells
      have hget : ∀ j, j < (n + k) * i.size → (ofListFrom c (n * i.size) new).get j = if n * i.size ≤ j then new[j - n * i.size]? else c.get j := by
       intro j hj
       rw [get_ofListFrom _ _ _ _ (by omega)]
       by_cases hjn : n * i.size ≤ j
       ·rw [if_pos ⟨hjn, by omega⟩, if_pos hjn]
       ·rw [if_neg (by omega), if_neg hjn]
      by_cases hin : n + k ≤ c'
      ·-- there is room in the world: in place
       have hfit : 0 + n * i.size + new'.length ≤ cw.size := by
        have : (n + k) * i.size ≤ c' * i.size := Nat.mul_le_mul_right _ hin
        have h2 : c' * i.size ≤ (cap + φ.cap b) * i.size := Nat.mul_le_mul_right _ hc2
        rw [Nat.add_mul] at h2
        omega
       have hone : ∀ v ∈ new', v.oneCell' = true := by
        intro v hv
        obtain ⟨q, hq, rfl⟩ := List.getElem_of_mem hv
        have hq2 : q < new.length := by omega
        obtain ⟨v', g1, g2⟩ := hnr.get q new[q] (List.getElem?_eq_getElem hq2)
        rw [List.getElem?_eq_getElem hq] at g1
        cases g1
        rw [g2.oneCell]
        exact List.all_eq_true.1 b7 _ (List.getElem_mem hq2)
       obtain ⟨c3, e1, e2, e3⟩ := storeCells_row (P := E.P) new' (0 + n * i.size) 0 cw w hob hfr (by simpa using hfit) hone
       have hle := hR.le_next b' (c' - (n + k))
       refine ⟨φ.set m.next b' (c' - (n + k)), _, w.setRow b' c3, run_room ht' hu' hdu hi' hlen0 hfirst0 hin (w' := w.setRow b' c3) ?_, Ext.set hR.next_none _ _ (Nat.le_succ _), ?_, ?_⟩
       ·simp only [add_at]; exact e1
       ·refine .slice 0 (n + k) (Phi.set_same _ _ _ _) ⟨hin, ?_⟩
        rw [Phi.cap_same]; omega
       ·refine Rel.move hR hm hφ hrw (hrw2 _) (by omega) (by simp) (fun q hq => setRow_other w b' q c3 hq) ?_ rfl rfl rfl
        refine ⟨c3, fr, ⟨_, setRow_heap w b' cw c3 _ fr hob, fun _ => rfl⟩, by omega, fun j hj _ => ?_, h0, fun _ => ⟨by rw [e2]; exact hfr, b6, ?_⟩⟩
        ·rw [hget j hj, e3 j]
         by_cases hjn : n * i.size ≤ j
         ·rw [if_pos hjn, if_pos ⟨by omega, by omega⟩]
          have hx' : new[j - n * i.size]? = some new[j - n * i.size] := List.getElem?_eq_getElem (by omega)
          obtain ⟨v', g1, g2⟩ := hnr.get _ _ hx'
          refine ⟨_, v', hx', ?_, g2.mono hle⟩
          rw [show j - (0 + n * i.size + 0) = j - n * i.size by omega]; exact g1
         ·rw [if_neg hjn, if_neg (by omega)]
          obtain ⟨x, x', q1, q2, q3⟩ := hcs j (by omega) (fun h => absurd h hkd)
          exact ⟨x, x', q1, q2, q3.mono hle⟩
        ·rw [hcells, e2]
         have h2 : c' * i.size ≤ (cap + φ.cap b) * i.size := Nat.mul_le_mul_right _ hc2
         rw [Nat.add_mul] at h2
         have h3 : (n + k) * i.size + (c' - (n + k)) * i.size = c' * i.size := by rw [← Nat.add_mul]; congr 1; omega
         omega
      ·-- a new row
       have hfo : (Builtin.firstCells i.size n (.slice (some ⟨b', 0, none⟩) n c')).run E.P { w with drawn := w.drawn + 1 } = .ok ⟨old'⟩ { w with drawn := w.drawn + 1 } := by
        have := run_loadCells_list (P := E.P) { w with drawn := w.drawn + 1 } ⟨b', 0, none⟩ old' (fun j v hv => by
         have hob' : ({ w with drawn := w.drawn + 1 } : World).heap[b']? = some (.cells cw el fr) := hob
         rw [add_at, cell_at hob', Nat.zero_add]; exact ho3 j v hv)
        rw [ho2] at this
        exact this
       obtain ⟨ncap, hcap, hrun⟩ := run_grow (ty := ty) (base := some ⟨b', 0, none⟩) (sLen := n) (sCap := c') (old' := old') ht' hu' hdu hi' hz hlen0 hfirst1 hfo hin b5 b4
       refine ⟨_, _, _, hrun, Ext.set hR.next_none w.heap.size (ncap - (n + k)) (Nat.le_succ _), .slice 0 (n + k) (Phi.set_same _ _ _ _) ⟨hcap, by rw [Phi.cap_same]; omega⟩, ?_⟩
       have h1' : Rel E.P G w0 φ (m.put b .dead) w := hR.die hm hφ hrw (by omega)
       have hle := hR.le_next w.heap.size (ncap - (n + k))
       refine Rel.alloc h1' (.cells ((n + k) * i.size) (ofListFrom c (n * i.size) new) el kd) trivial (κ := ncap - (n + k)) ?_ rfl rfl rfl rfl
       refine ⟨⟨old' ++ new' ++ (Builtin.zeroCells z.cells (ncap - (n + k))).toList⟩, (0, 0), ⟨_, rfl, fun _ => rfl⟩, ?_, fun j hj _ => ?_, fun _ => rfl, fun _ => ⟨.inl rfl, b6, ?_⟩⟩
       ·show (n + k) * i.size ≤ (old' ++ new' ++ _).length
        rw [List.length_append, List.length_append, ho2, hnl']; omega
       ·rw [hget j hj]
        by_cases hjn : n * i.size ≤ j
        ·rw [if_pos hjn]
         have hx' : new[j - n * i.size]? = some new[j - n * i.size] := List.getElem?_eq_getElem (by omega)
         obtain ⟨v', g1, g2⟩ := hnr.get _ _ hx'
         refine ⟨_, v', hx', ?_, g2.mono hle⟩
         rw [List.getElem?_toArray, List.getElem?_append_left (by rw [List.length_append, ho2, hnl']; omega), List.getElem?_append_right (by omega), ho2]
         exact g1
        ·rw [if_neg hjn]
         obtain ⟨x, x', q1, q2, q3⟩ := hcs j (by omega) (fun h => absurd h hkd)
         refine ⟨x, x', q1, ?_, q3.mono hle⟩
         rw [List.getElem?_toArray, List.getElem?_append_left (by rw [List.length_append, ho2, hnl']; omega), List.getElem?_append_left (by omega)]
         have hjl : j < old'.length := by omega
         have := ho3 j old'[j] (List.getElem?_eq_getElem hjl)
         rw [List.getElem?_eq_getElem hjl, ← this, q2]
       ·rw [hcells]
        show (n + k) * i.size + (ncap - (n + k)) * i.size ≤ (old' ++ new' ++ _).length
        rw [List.length_append, List.length_append, ho2, hnl', hzero]; omega
  ·cases h
 ·cases h

end
end Go.Ev

namespace Go.Ev
set_option linter.unusedSimpArgs false
open Go.RowKit
set_option linter.unusedVariables false
set_option linter.unusedSectionVars false
variable [Sym]

section
variable {E : Env} {G : Nat} {w0 w : World} {φ : Phi} {m : Mem} {ρ ρ' : Rho}

theorem Rel.congr {P : Program} {m2 : Mem} (h : Rel P G w0 φ m w) (hg : ∀ b, m.get b = m2.get b) (hn : m.next = m2.next) : Rel P G w0 φ m2 w where
 glob := h.glob
 lt := by rw [← hn]; exact h.lt
 obj := fun b o b' hb => h.obj b o b' (by rw [hg]; exact hb)
 inj := fun b₁ b₂ o₁ o₂ b' h1 h2 => h.inj b₁ b₂ o₁ o₂ b' (by rw [hg]; exact h1) (by rw [hg]; exact h2)
 own := fun b o b' hb => h.own b o b' (by rw [hg]; exact hb)
 fresh := fun b o hb => by rw [← hn]; exact h.fresh b o (by rw [hg]; exact hb)
 below := h.below

/-- how an operation of the model comes to an end that fits. -/
def Did (P : Program) (s : Sem Next) (w : World) (v : Value) (φ : Phi) (w' : World) : Prop :=
 (∃ v', s.run P w = .ok (.value v') w' ∧ VR φ v v') ∨ (s.run P w = .ok .skip w' ∧ v = undef)

theorem upd_sound (hE : EnvOk E G) (hR : Rel E.P G w0 φ m w) (hn : True) {t kt et : TypeId} {r : Nat} {k x : Value} {k' x' mv : Value} {es es2 : List (Value × Value)} (ht : E.under t = some (.map kt et)) (hm : m.get r = some (.map es))
  (hmv : VR φ (.map (some r)) mv) (hk : VR φ k k') (hx : VR φ x x') (h : effect.upd E m kt k x es = some es2) :
  ∃ w', (Instr.mapUpdate t mv k' x').run E.P w = .ok () w' ∧ Rel E.P G w0 φ (m.put r (.map es2)) w' := by
 obtain ⟨r', rfl, hφ⟩ := hmv.map_inv
 obtain ⟨es', clock, hob, h1, h2⟩ := map_at hR hm hφ
 have setRel : ∀ (es3 : Array MapEntry) (cl : Nat), VRs φ (es2.map (·.1)) (es3.toList.map (·.key)) → VRs φ (es2.map (·.2)) (es3.toList.map (·.val)) →
   Rel E.P G w0 φ (m.put r (.map es2)) { w with heap := w.heap.setIfInBounds r' (.map es3 cl) } := by
  intro es3 cl a b
  have hlt := (hR.lt _ _ hφ).2
  refine hR.update hm hφ rfl (.inl rfl) (by omega) (by simp) (fun q hq => ?_) ?_ rfl rfl rfl
  ·show (w.heap.setIfInBounds r' _)[q]? = _
   rw [Array.getElem?_setIfInBounds, if_neg (by omega)]
  ·refine ⟨es3, cl, ?_, a, b⟩
   show (w.heap.setIfInBounds r' _)[r']? = _
   rw [Array.getElem?_setIfInBounds, if_pos rfl, if_pos hlt]
 have setRun : ∀ o : Obj, (setObj r' o).run E.P w = .ok () { w with heap := w.heap.setIfInBounds r' o } := by
  intro o
  simp [setObj, Sem.run, hob]
 rcases upd_form es es2 h with ⟨rfl, hok, hall⟩ | ⟨pre, k0, v0, post, rfl, rfl, hall, h0⟩
 ·obtain ⟨d, hd, hck⟩ := keyOk_sound (w := w) hE hok hk
  have hf := findKey_none (w := w) hE es'.toList hd fun e' he' => by
   obtain ⟨y, hy, hye⟩ := keys_mem h1 e' he'
   obtain ⟨d', hd', hke, _⟩ := eqKey_sound hE hR (hall y hy) hk hye
   obtain rfl := Option.some.inj (hd.symm.trans hd')
   exact hke
  refine ⟨_, ?_, setRel (es'.push { key := k', val := x', born := clock }) (clock + 1) ?_ ?_⟩
  ·simp only [Instr.mapUpdate, Sem.run_bind, under_run hE ht, Result.andThen_ok, getObj_map hob, hck 9999, hf, setRun]
  ·simpa using h1.append (.cons hk .nil)
  ·simpa using h2.append (.cons hx .nil)
 ·obtain ⟨pre', e0, post', hes, hlen, hk0, hv0, a, b, c, d⟩ := entries_cut h1 h2
  obtain ⟨dd, hd, hke, hck, hsame⟩ := eqKey_sound hE hR h0 hk hk0
  have hf := findKey_some (post := post') hE pre' hd (fun e' he' => by
   obtain ⟨y, hy, hye⟩ := keys_mem a e' he'
   obtain ⟨d', hd', hke', _⟩ := eqKey_sound hE hR (hall y hy) hk hye
   obtain rfl := Option.some.inj (hd.symm.trans hd')
   exact hke') hke
  rw [← hes] at hf
  have hget : es'[pre'.length]? = some e0 := by
   rw [← Array.getElem?_toList, hes, List.getElem?_append_right (Nat.le_refl _)]
   simp
  have hmod : (es'.modify pre'.length fun e => { e with key := k', val := x' }).toList = pre' ++ { e0 with key := k', val := x' } :: post' := by
   apply List.ext_getElem?
   intro q
   rw [Array.getElem?_toList, Array.getElem?_modify, ← Array.getElem?_toList, hes]
   by_cases hq : pre'.length = q
   ·subst hq
    rw [if_pos rfl, List.getElem?_append_right (Nat.le_refl _), List.getElem?_append_right (Nat.le_refl _)]
    simp
   ·rw [if_neg hq]
    by_cases hlt : q < pre'.length
    ·rw [List.getElem?_append_left hlt, List.getElem?_append_left hlt]
    ·rw [List.getElem?_append_right (by omega), List.getElem?_append_right (by omega)]
     obtain ⟨s, hs⟩ : ∃ s, q - pre'.length = s + 1 := ⟨q - pre'.length - 1, by omega⟩
     rw [hs]
     rfl
  refine ⟨_, ?_, setRel (es'.modify pre'.length fun e => { e with key := k', val := x' }) clock ?_ ?_⟩
  ·simp only [Instr.mapUpdate, Sem.run_bind, under_run hE ht, Result.andThen_ok, getObj_map hob, hck 9999, hf, hget, Option.map_some, Option.getD_some, Instr.keyThatStays, hsame rfl, if_true, Sem.run_pure, setRun]
  ·rw [hmod]
   simp only [List.map_append, List.map_cons]
   exact a.append (.cons hk c)
  ·rw [hmod]
   simp only [List.map_append, List.map_cons]
   exact b.append (.cons hx d)

theorem freeze_row {b' : Nat} {c' : Array Value} {e : TypeId} {fr : Nat × Nat} (h : w.heap[b']? = some (.cells c' e fr)) (off : Nat) :
  (markStringish ⟨b', off, none⟩).run E.P w = .ok () { w with heap := w.heap.modify b' fun
   | .cells c elem (lo, hi) => .cells c elem (if lo == hi then (c'.size, c'.size + 1) else (min lo c'.size, max hi (c'.size + 1)))
   | o => o } := by
 simp only [markStringish, Sem.run_bind, run_shape, World.shape?, h, Result.andThen_ok, run_freeze, World.freeze]
 rfl

/-- a slice of bytes is told to be one that a string may share. -/
theorem mark_sound (hR : Rel E.P G w0 φ m w) (hn : True) {b b' n : Nat} {c : Tree Value} {e : TypeId} {kd : Nat} (hm : m.get b = some (.cells n c e kd)) (hφ : φ b = some b') (hkd : kd ≠ 1) (off : Nat) :
  ∃ w', (markStringish ⟨b', off, none⟩).run E.P w = .ok () w' ∧ Rel E.P G w0 φ (m.put b (.cells n c e 2)) w' := by
 obtain ⟨c', fr, hob, hnc, hc, h0, h1⟩ := hR.obj b _ b' hm hφ
 obtain ⟨e2, hob, he2⟩ := hob
 obtain rfl := (he2 hkd).symm
 obtain ⟨hfr, hn9, hcap⟩ := h1 hkd
 have hlt := (hR.lt _ _ hφ).2
 refine ⟨_, freeze_row hob off, ?_⟩
 have hrw : (AObj.cells n c e kd).rw = true := by
  unfold AObj.rw
  split <;> first | rfl | (rename_i heq; cases heq; exact absurd rfl hkd) | (rename_i heq; cases heq)
 refine hR.update hm hφ hrw (.inl rfl) (by omega) (by simp) (fun q hq => ?_) ?_ rfl rfl rfl
 ·show (w.heap.modify b' _)[q]? = _
  rw [Array.getElem?_modify, if_neg (by omega)]
 ·obtain ⟨lo, hi⟩ := fr
  refine ⟨c', if lo == hi then (c'.size, c'.size + 1) else (min lo c'.size, max hi (c'.size + 1)), ⟨_, ?_, fun _ => rfl⟩, hnc, fun i hi _ => hc i hi (fun h => absurd h hkd), fun h => absurd h (by decide), fun _ => ⟨?_, hn9, hcap⟩⟩
  ·show (w.heap.modify b' _)[b']? = _
   rw [Array.getElem?_modify, if_pos rfl, hob]
   rfl
  ·right
   simp only at hfr
   by_cases hl : lo = hi
   ·simp [hl]
   ·have : (lo == hi) = false := by simpa using hl
    simp only [this, Bool.false_eq_true, if_false]
    omega

theorem storeAt_next {t : TypeId} {b o : Nat} {v : Value} {m' : Mem} (h : storeAt E m t b o v = some m') : m'.next = m.next := by
 unfold storeAt at h
 split at h
 ·rename_i k n c e kd hk hm
  cases hb : (Nat.beq (cellsOf v).length k && !(Nat.beq kd 1)) with
  | false => simp [hb] at h
  | true =>
   simp only [hb, cond_true] at h
   split at h
   ·cases h
   ·cases h; rfl
 ·cases h

theorem effect_sound (hE : EnvOk E G) (hR : Rel E.P G w0 φ m w) (hn1' : True) (o : Oper) (hρ : ∀ x ∈ o.op.operands.toList, VR φ (ρ x) (ρ' x)) {v : Value} {m' : Mem} (h : effect E m ρ o.op = some (v, m')) :
  ∃ φ' w', Did E.P (execOp ρ' o) w v φ' w' ∧ Ext φ φ' m m' ∧ Rel E.P G w0 φ' m' w' := by
 have hn : True := trivial
 have ofV : ∀ {s : Sem Value} {v' w'}, s.run E.P w = .ok v' w' → (do pure (.value (← s)) : Sem Next).run E.P w = .ok (.value v') w' := by
  intro s v' w' hs
  simp only [Sem.run_bind, hs, Result.andThen_ok, Sem.run_pure]
 have ofU : ∀ {s : Sem Unit} {w'}, s.run E.P w = .ok () w' → (do s; pure .skip : Sem Next).run E.P w = .ok .skip w' := by
  intro s w' hs
  simp only [Sem.run_bind, hs, Result.andThen_ok, Sem.run_pure]
 unfold execOp
 generalize o.type = ty at *
 cases ho : o.op with
 | store t a x =>
  rw [ho] at h hρ
  simp only [effect] at h
  dsimp only
  have ha := hρ a (by simp [Op.operands])
  have hx := hρ x (by simp [Op.operands])
  split at h
  ·rename_i b off hae
   split at h
   ·cases h
   ·rename_i m1 hs
    simp only [Option.some.injEq, Prod.mk.injEq] at h
    obtain ⟨rfl, rfl⟩ := h
    rw [hae] at ha
    obtain ⟨b', hb, hφ⟩ := ha.ptr_inv
    obtain ⟨w', e1, e2⟩ := store_sound hE hR hn hs hφ hx
    refine ⟨φ, w', .inr ⟨ofU ?_, rfl⟩, Ext.refl _ (by rw [storeAt_next hs]; exact Nat.le_refl _), e2⟩
    rw [hb]
    simpa [Instr.storeAt, Instr.sureAddr] using e1
  ·cases h
 | mapUpdate t mp k x =>
  rw [ho] at h hρ
  simp only [effect] at h
  dsimp only
  have hmp := hρ mp (by simp [Op.operands])
  have hk := hρ k (by simp [Op.operands])
  have hx := hρ x (by simp [Op.operands])
  split at h
  ·rename_i kt et r ht hme
   split at h
   ·rename_i es hm
    split at h
    ·cases h
    ·rename_i es2 hu
     simp only [Option.some.injEq, Prod.mk.injEq] at h
     obtain ⟨rfl, rfl⟩ := h
     rw [hme] at hmp
     obtain ⟨w', e1, e2⟩ := upd_sound hE hR hn ht hm hmp hk hx hu
     exact ⟨φ, w', .inr ⟨ofU e1, rfl⟩, Ext.refl _ (Nat.le_refl _), e2⟩
   ·cases h
  ·cases h
 | insert t mp k x =>
  rw [ho] at h hρ
  simp only [effect] at h
  dsimp only
  have hmp := hρ mp (by simp [Op.operands])
  have hk := hρ k (by simp [Op.operands])
  have hx := hρ x (by simp [Op.operands])
  split at h
  ·rename_i kt et r ht hme
   split at h
   ·rename_i es hm
    split at h
    ·cases h
    ·rename_i es2 hu
     simp only [Option.some.injEq, Prod.mk.injEq] at h
     obtain ⟨rfl, rfl⟩ := h
     rw [hme] at hmp
     obtain ⟨w', e1, e2⟩ := upd_sound hE hR hn ht hm hmp hk hx hu
     exact ⟨φ, w', .inr ⟨ofU e1, rfl⟩, Ext.refl _ (Nat.le_refl _), e2⟩
   ·cases h
  ·cases h
 | convert s d x =>
  rw [ho] at h hρ
  simp only [effect] at h
  dsimp only
  have hx := hρ x (by simp [Op.operands])
  split at h
  ·rename_i b off len cap hxe
   split at h
   ·rename_i e0 e hs hd
    split at h
    ·rename_i n c el kd he hm
     cases hb : (Nat.beq s d && !(Nat.beq kd 1)) with
     | false => simp [hb] at h
     | true =>
      simp only [hb, cond_true, Option.some.injEq, Prod.mk.injEq] at h
      obtain ⟨rfl, rfl⟩ := h
      simp only [Bool.and_eq_true, Bool.not_eq_true'] at hb
      have hsd := Nat.eq_of_beq_eq_true hb.1
      subst hsd
      have hkd : kd ≠ 1 := fun e => by subst e; simp at hb
      rw [hxe] at hx
      obtain ⟨b', c', hxb, hφ, hc1, hc2⟩ := hx.slice_inv
      rw [hxb]
      obtain ⟨w', e1, e2⟩ := mark_sound (E := E) hR hn hm hφ hkd off
      refine ⟨φ, w', .inl ⟨.slice (some ⟨b', off, none⟩) len c', ofV ?_, .slice _ _ hφ ⟨hc1, hc2⟩⟩, Ext.refl _ (Nat.le_refl _), e2⟩
      simp only [Go.convert, Sem.run_bind, under_run hE hd, Result.andThen_ok, under_run hE he, beq_self_eq_true, e1, Sem.run_pure]
    ·cases h
   ·cases h
  ·rename_i str hxe
   split at h
   ·rename_i d0 e hs hd
    split at h
    ·rename_i he
     cases hsz : size1 E e with
     | false => simp [hsz] at h
     | true =>
      simp only [hsz, cond_true] at h
      obtain ⟨m1, h1, h2⟩ := withAddr_some h
      cases h2
      obtain ⟨rfl, hlen⟩ := newCells_some h1
      have hcell : E.P.cellsOf e = 1 := by
       unfold size1 Env.size at hsz
       cases hi : E.ti e with
       | none => simp [hi] at hsz
       | some i => simp only [hi] at hsz; simp [Program.cellsOf, ti_info hE hi, Nat.eq_of_beq_eq_true hsz]
      rw [hxe] at hx
      rw [hx.string_inv]
      have ecells : ∀ s : List UInt8, cellsOfBytes s = s.map fun b => Value.int .u8 b.toNat := by
       intro s
       induction s with
       | nil => rfl
       | cons a s ih => simp [cellsOfBytes, ih]
      have hplain : ∀ s : List UInt8, VRs φ (cellsOfBytes s) (cellsOfBytes s) := by
       intro s
       induction s with
       | nil => exact .nil
       | cons a s ih => exact .cons (.int _ _) ih
      have hcl : (cellsOfBytes str).length = str.length := by rw [ecells]; simp
      let cap := (Question.appendCap str.length 0 e).cut (w.tape w.drawn (.appendCap str.length 0 e))
      have hcap : str.length ≤ cap := cut_le _ _ _ _
      have hg := grown_row (E := E) hR hn (kd := 2) (rest := List.replicate (cap - str.length) (.int .u8 0)) (hplain str) hlen (by decide) (need := str.length) (cap := cap) (e := e) (by rw [hcell, hcl]; omega) hcap (by simp [hcell])
      have hget := Mem.get_new_same m (.cells (cellsOfBytes str).length (ofListFrom .leaf 0 (cellsOfBytes str)) e 2) trivial
      obtain ⟨w', e1, e2⟩ := mark_sound (E := E) hg trivial hget (Phi.set_same _ _ _ _) (by decide) 0
      have hrel : Rel E.P G w0 (φ.set m.next w.heap.size (cap - str.length)) (m.new (.cells (cellsOfBytes str).length (ofListFrom .leaf 0 (cellsOfBytes str)) e 2)) w' := by
       refine Rel.congr e2 (fun b => ?_) rfl
       by_cases hb : m.next = b
       ·subst hb; rw [Mem.get_put_same _ _ _ trivial, hget]
       ·rw [Mem.get_put_other _ _ _ _ hb]
      refine ⟨_, w', .inl ⟨.slice (some ⟨w.heap.size, 0, none⟩) str.length cap, ofV ?_, .slice 0 _ (Phi.set_same _ _ _ _) ⟨hcap, by rw [Phi.cap_same]; omega⟩⟩, Ext.set hR.next_none _ _ (Nat.le_succ _), hrel⟩
      have hdata : (ByteArray.mk ⟨str⟩).data.map (fun b => Value.int .u8 b.toNat) = ⟨cellsOfBytes str⟩ := by
       apply Array.ext'
       simp [ecells]
      have hsz' : (ByteArray.mk ⟨str⟩).size = str.length := rfl
      have hconv : (Conv.stringToBytes e ⟨⟨str⟩⟩).run E.P w = .ok (.slice (some ⟨w.heap.size, 0, none⟩) str.length cap) w' := by
       have harr : (⟨cellsOfBytes str⟩ : Array Value) ++ Array.replicate (cap - str.length) (.int .u8 0) = ⟨cellsOfBytes str ++ List.replicate (cap - str.length) (.int .u8 0)⟩ := by
        apply Array.ext'
        simp
       simp only [Conv.stringToBytes, hsz', Sem.run_bind, run_choose, Question.forced, Bool.false_eq_true, if_false, Result.andThen_ok, newRow, run_newObj, Sem.run_pure, hdata]
       rw [show (Question.appendCap str.length 0 e).cut (w.tape w.drawn (.appendCap str.length 0 e)) = cap from rfl, harr]
       rw [e1]
       rfl
      cases d0 <;> simp only [Go.convert, Sem.run_bind, under_run hE hs, under_run hE hd, Result.andThen_ok, under_run hE he, hconv]
    ·cases h
   ·cases h
  ·cases h
 | call c =>
  rw [ho] at h hρ
  cases hcal : c.callee with
  | value f => simp [effect, hcal] at h
  | invoke r nm => simp [effect, hcal] at h
  | builtin b =>
   have hargs : ∀ x ∈ c.args.toList, VR φ (ρ x) (ρ' x) := fun x hx => hρ x (by simp only [Op.operands, Call.operands, Array.toList_append]; exact List.mem_append.2 (.inr hx))
   simp only [resolve, hcal, invoke, builtin]
   cases b <;> first
    | (simp only [effect, hcal] at h; cases h; done)
    | skip
   simp only [effect, hcal] at h
   split at h
   ·rename_i t u x y hts hxs
    split at h
    ·rename_i e du ht hu
     cases hdu : rowD du with
     | false => rw [hdu] at h; cases h
     | true =>
      rw [hdu] at h
      simp only [Bool.not_true, cond_false] at h
      have hdu' : (∃ e', du = .slice e') ∨ du = .string := by
       cases du <;> first | exact .inr rfl | exact .inl ⟨_, rfl⟩ | (simp [rowD] at hdu; done)
      split at h
      ·cases h
      ·rename_i i hi
       split at h
       ·cases h
       ·rename_i z hz
        cases hzl : Nat.beq (cellsOf z).length i.size with
        | false => simp [hzl] at h
        | true =>
         simp only [hzl, cond_true] at h
         split at h
         ·cases h
         ·rename_i k new hnew
          have ea : c.argTypes = #[t, u] := by apply Array.ext'; rw [hts]
          have eb : c.args.map ρ' = #[ρ' x, ρ' y] := by apply Array.ext'; simp [hxs]
          obtain ⟨φ', v', w', e1, e2, e3, e4⟩ := append_sound (ty := ty) hE hR hn ht hu hdu' hi hz (Nat.eq_of_beq_eq_true hzl) (hargs x (by rw [hxs]; simp)) (hargs y (by rw [hxs]; simp)) hnew h
          refine ⟨φ', w', .inl ⟨v', ?_, e3⟩, e2, e4⟩
          have := ofV e1
          simp only [Sem.run_bind, Sem.run_pure, Result.andThen_ok] at this ⊢
          rw [ea, eb]
          exact this
    ·cases h
   ·cases h
 | _ => simp [ho, effect] at h

end
end Go.Ev

namespace Go.Ev
set_option linter.unusedSimpArgs false
open Go.RowKit
set_option linter.unusedVariables false
set_option linter.unusedSectionVars false
variable [Sym]

/-- a deferred call. -/
def DR (φ : Phi) (d : Nat × List Value) (d' : Deferred) : Prop :=
 ∃ cap args : List Value, d' = { target := .fn (.func d.1) ⟨cap⟩, args := ⟨args⟩ } ∧ VRs φ d.2 (args ++ cap)

inductive DRs (φ : Phi) : List (Nat × List Value) → List Deferred → Prop where
 | nil : DRs φ [] []
 | cons {d d' l l'} (h : DR φ d d') (hl : DRs φ l l') : DRs φ (d :: l) (d' :: l')

theorem DRs.mono {φ ψ : Phi} (hle : φ.le ψ) : ∀ {l l'}, DRs φ l l' → DRs ψ l l'
 | _, _, .nil => .nil
 | _, _, .cons ⟨cap, args, h1, h2⟩ hl => .cons ⟨cap, args, h1, h2.mono hle⟩ (DRs.mono hle hl)

/-- the state of a function. -/
structure ActR (φ : Phi) (a : Act) (ac : Go.Act) : Prop where
 size : ac.tmps.size = a.n
 bound : a.n ≤ 1000000000
 tmps : ∀ t, VR φ (a.tmp t) (ac.tmps.getD t undef)
 defers : DRs φ a.defers ac.defers

theorem ActR.mono {φ ψ : Phi} (hle : φ.le ψ) {a : Act} {ac : Go.Act} (h : ActR φ a ac) : ActR ψ a ac :=
 ⟨h.size, h.bound, fun t => (h.tmps t).mono hle, h.defers.mono hle⟩

theorem ActR.mem {φ : Phi} {a : Act} {ac : Go.Act} (h : ActR φ a ac) (m : Mem) : ActR φ { a with m := m } ac := ⟨h.size, h.bound, h.tmps, h.defers⟩

section
variable {E : Env} {G : Nat} {w0 w : World} {φ : Phi} {m : Mem}

theorem ActR.eval {a : Act} {ac : Go.Act} (h : ActR φ a ac) (hR : Rel E.P G w0 φ m w) (x : Operand) (hx : operandOk G x = true) : VR φ (a.eval x) (ac.eval x) := by
 cases x with
 | tmp t => exact h.tmps t
 | const v => exact VR.plain v hx
 | global g => exact .ptr 0 (hR.glob g (by simpa [operandOk, Nat.blt_eq] using hx))
 | func f => exact .func _ .nil .nil

theorem Act.put_tmp {a a' : Act} {dst : Option Tmp} {v : Value} (h : a.put dst v = some a') : a'.n = a.n ∧ a'.defers = a.defers ∧ a'.m = a.m ∧ (∀ t, dst ≠ some t → a'.tmp t = a.tmp t) ∧ ∀ d, dst = some d → d < a.n ∧ (a.n ≤ 1000000000 → a'.tmp d = v) := by
 cases dst with
 | none =>
  simp only [Act.put, Option.some.injEq] at h
  subst h
  exact ⟨rfl, rfl, rfl, fun _ _ => rfl, fun d hd => by cases hd⟩
 | some d =>
  simp only [Act.put] at h
  cases hb : Nat.blt d a.n with
  | false => simp [hb] at h
  | true =>
   simp only [hb, cond_true, Option.some.injEq] at h
   subst h
   have hlt : d < a.n := by simpa [Nat.blt_eq] using hb
   refine ⟨rfl, rfl, rfl, fun t ht => ?_, fun d' hd => ?_⟩
   ·simp only [Act.tmp]
    rw [Tree.get_set_other _ _ _ _ _ (fun e => ht (by rw [e]))]
   ·have hdd : d = d' := Option.some.inj hd
    subst hdd
    refine ⟨hlt, fun hbd => ?_⟩
    have hsmall : d ≤ 2000000000 := Nat.le_trans (Nat.le_of_lt hlt) (Nat.le_trans hbd (by decide))
    simp only [Act.tmp]
    rw [Tree.get_set]

theorem ActR.put {a a' : Act} {ac : Go.Act} (h : ActR φ a ac) {dst : Option Tmp} {v v' : Value} (hp : a.put dst v = some a') (hv : VR φ v v') : ActR φ a' (ac.put dst v') := by
 obtain ⟨h1, h2, h3, h4, h5⟩ := Act.put_tmp hp
 cases dst with
 | none =>
  refine ⟨by rw [h1]; exact h.size, by rw [h1]; exact h.bound, fun t => ?_, by rw [h2]; exact h.defers⟩
  rw [h4 t (by simp)]
  exact h.tmps t
 | some d =>
  obtain ⟨hlt, hd⟩ := h5 d rfl
  refine ⟨?_, by rw [h1]; exact h.bound, fun t => ?_, by rw [h2]; exact h.defers⟩
  ·show (ac.tmps.setIfInBounds d v').size = _
   rw [Array.size_setIfInBounds, h.size, h1]
  ·show VR φ _ ((ac.tmps.setIfInBounds d v').getD t undef)
   by_cases ht : d = t
   ·subst ht
    rw [hd h.bound]
    have : (ac.tmps.setIfInBounds d v').getD d undef = v' := by
     simp only [Array.getD_eq_getD_getElem?, Array.getElem?_setIfInBounds]
     simp [h.size, hlt]
    rw [this]; exact hv
   ·rw [h4 t (by simpa using ht)]
    have : (ac.tmps.setIfInBounds d v').getD t undef = ac.tmps.getD t undef := by
     simp only [Array.getD_eq_getD_getElem?, Array.getElem?_setIfInBounds]
     simp [ht]
    rw [this]; exact h.tmps t

/-- what is asked of the calls that are made within. -/
def CallOk (E : Env) (G : Nat) (w0 : World) (call : CallFn) : Prop :=
 ∀ (g : Nat) (args args' : List Value) (m m' : Mem) (v : Value) (φ : Phi) (w : World), call g args m = some (v, m') → VRs φ args args' → Rel E.P G w0 φ m w →
  (∃ fn, E.funcs.get g = some fn ∧ fn.body.isSome = true) ∧
  Calls E.P g ⟨args'⟩ w fun e w' => ∃ φ' v', e = .returned v' ∧ Ext φ φ' m m' ∧ VR φ' v v' ∧ Rel E.P G w0 φ' m' w'

/-- the outcome of one operation. -/
def Outcome (E : Env) (G : Nat) (w0 : World) (φ : Phi) (m m' : Mem) (a' : Act) (act' : Go.Act → World → Prop) : Prop := True

theorem resolve_value {ρ' : Operand → Value} {c : Call} {f : Operand} {g : Nat} {first cap : List Value} (ty : TypeId) (hc : c.callee = .value f) (hf : ρ' f = .func (.func g) ⟨first⟩ ⟨cap⟩) (P : Program) (w : World) :
  (resolve ρ' c ty).run P w = .ok { target := .fn (.func g) ⟨cap⟩, args := ⟨first ++ c.args.toList.map ρ'⟩ } w := by
 have e : (⟨first⟩ : Array Value) ++ c.args.map ρ' = ⟨first ++ c.args.toList.map ρ'⟩ := by
  apply Array.ext'
  simp
 simp only [resolve, hc, Deferred.ofValue, hf, Sem.run_pure, e]

theorem invoke_fn (hE : EnvOk E G) {g : Nat} {fn : Func} (hg : E.funcs.get g = some fn) (hb : fn.body.isSome = true) (args cap : List Value) (w : World) :
  (invoke (.fn (.func g) ⟨cap⟩) ⟨args⟩).run E.P w = .ok (.enter g ⟨args ++ cap⟩) w := by
 obtain ⟨h1, h2, _⟩ := hE.funcs g fn hg
 have e : (⟨args⟩ : Array Value) ++ ⟨cap⟩ = ⟨args ++ cap⟩ := by
  apply Array.ext'
  simp
 have hn : fn.body.isNone = false := by cases h : fn.body <;> simp_all
 simp only [invoke, callFunc, Sem.run_bind, run_program, Result.andThen_ok, h1, h2, hn, Bool.false_eq_true, if_false, Sem.run_pure, e]

theorem target_sound {ρ ρ' : Operand → Value} {c : Call} {g : Nat} {args : List Value} (h : target ρ c = some (g, args)) (hρ : ∀ x ∈ (Op.call c).operands.toList, VR φ (ρ x) (ρ' x)) :
  ∃ f first' cap', c.callee = .value f ∧ ρ' f = .func (.func g) ⟨first'⟩ ⟨cap'⟩ ∧ VRs φ args (first' ++ c.args.toList.map ρ' ++ cap') := by
 unfold target at h
 split at h
 ·rename_i f hc
  split at h
  ·rename_i g' first cap hf
   simp only [Option.some.injEq, Prod.mk.injEq] at h
   obtain ⟨rfl, rfl⟩ := h
   have hfv := hρ f (by simp [Op.operands, Call.operands, hc])
   rw [hf] at hfv
   obtain ⟨first', cap', e1, e2, e3⟩ := hfv.func_inv
   have rel : ∀ (l : List Operand), (∀ x ∈ l, VR φ (ρ x) (ρ' x)) → VRs φ (l.map ρ) (l.map ρ') := by
    intro l
    induction l with
    | nil => intro _; exact .nil
    | cons y l ih => intro hl; exact .cons (hl y (by simp)) (ih fun z hz => hl z (by simp [hz]))
   have ra := rel c.args.toList (fun x hx => hρ x (by simp only [Op.operands, Call.operands, Array.toList_append]; exact List.mem_append.2 (.inr hx)))
   exact ⟨f, first', cap', hc, e1, (e2.append ra).append e3⟩
  ·cases h
 ·cases h

/-- one operation that is no call, in a world that fits. -/
theorem plainOp_sound (hE : EnvOk E G) {ρ ρ' : Rho} (hR : Rel E.P G w0 φ m w) (o : Oper) (hρ : ∀ x ∈ o.op.operands.toList, VR φ (ρ x) (ρ' x)) {k : Nat} {v : Value} {m' : Mem} (h : plainOp E m ρ o.op = some (k, v, m')) :
  ∃ φ' w', Did E.P (execOp ρ' o) w v φ' w' ∧ Ext φ φ' m m' ∧ Rel E.P G w0 φ' m' w' := by
 unfold plainOp at h
 split at h
 ·rename_i v' hq
  simp only [Option.some.injEq, Prod.mk.injEq] at h
  obtain ⟨rfl, rfl, rfl⟩ := h
  obtain ⟨v', h1, h2⟩ := quiet_sound hE hR o hρ hq
  exact ⟨φ, w, .inl ⟨v', h1, h2⟩, Ext.refl _ (Nat.le_refl _), hR⟩
 ·split at h
  ·rename_i v' m1 ha
   simp only [Option.some.injEq, Prod.mk.injEq] at h
   obtain ⟨rfl, rfl, rfl⟩ := h
   obtain ⟨obj, ob, rfl, hmade⟩ := allocs_made hE o hρ ha
   obtain ⟨w', v', h1, h2, h3, h4, h5, h6⟩ := hmade.run w
   refine ⟨φ.set m.next w.heap.size 0, w', .inl ⟨v', h1, h6 _ (Phi.set_same _ _ _ _)⟩, Ext.set hR.next_none _ _ (Nat.le_succ _), ?_⟩
   exact hR.alloc obj trivial (hmade.obj _ (hR.le_next _ _)) h2 h3 h4 h5
  ·split at h
   ·rename_i v' m1 he
    simp only [Option.some.injEq, Prod.mk.injEq] at h
    obtain ⟨rfl, rfl, rfl⟩ := h
    exact effect_sound hE hR trivial o hρ he
   ·cases h

end
end Go.Ev

namespace Go.Ev
set_option linter.unusedSimpArgs false
open Go.RowKit
set_option linter.unusedVariables false
set_option linter.unusedSectionVars false
variable [Sym]

section
variable {E : Env} {G : Nat} {w0 w : World} {φ : Phi} {m : Mem}

/-- what one operation does, wherever it is done: the value, the memory, what is deferred; and that the model does it. -/
structure OpDoes (E : Env) (G : Nat) (w0 : World) (a a' : Act) (o : Oper) (v : Value) (m' : Mem) (dn : List (Nat × List Value)) : Prop where
 put : ({ a with m := m', defers := dn ++ a.defers } : Act).put o.dst v = some a'
 wp : ∀ (φ : Phi) (w : World) (ac : Go.Act) (Q : Exit → Go.Act → World → Prop) (K : Go.Act → World → Prop), Rel E.P G w0 φ a.m w → (∀ x ∈ o.op.operands.toList, VR φ (a.eval x) (ac.eval x)) →
  (∀ φ' v' w' dn', Ext φ φ' a.m m' → VR φ' v v' → DRs φ' dn dn' → Rel E.P G w0 φ' m' w' → K (({ ac with defers := dn' ++ ac.defers } : Go.Act).put o.dst v') w') → o.wp E.P ac w K Q

theorem wp_of_did {o : Oper} {ac : Go.Act} {Q : Exit → Go.Act → World → Prop} {K : Go.Act → World → Prop} {v : Value} {w' : World} (h : Did E.P (execOp ac.eval o) w v φ w')
  (hK : ∀ v', VR φ v v' → K (ac.put o.dst v') w') : o.wp E.P ac w K Q := by
 unfold Oper.wp
 rcases h with ⟨v', h1, h2⟩ | ⟨h1, rfl⟩
 ·rw [h1]; exact hK v' h2
 ·rw [h1]; exact hK undef VR.undef

theorem oper_does (hE : EnvOk E G) {call : CallFn} (hcall : CallOk E G w0 call) {a a' : Act} {o : Oper} {k : Nat} (h : oper E call a o = some (k, a')) :
  ∃ v m' dn, OpDoes E G w0 a a' o v m' dn ∧ ((k = 0 → m' = a.m ∧ quiet E a.m a.eval o.op = some v) ∧ dn.length ≤ 1) := by
 unfold oper at h
 split at h
 ·rename_i k' v m' hp
  split at h
  ·cases h
  ·rename_i a1 hput
   simp only [Option.some.injEq, Prod.mk.injEq] at h
   obtain ⟨rfl, rfl⟩ := h
   refine ⟨v, m', [], ⟨hput, fun φ w ac Q K hR hρ hK => ?_⟩, ⟨fun hk => ?_, by simp⟩⟩
   ·obtain ⟨φ', w', h1, h2, h3⟩ := plainOp_sound hE hR o hρ hp
    exact wp_of_did h1 fun v' hv => hK φ' v' w' [] h2 hv .nil h3
   ·subst hk
    unfold plainOp at hp
    split at hp
    ·rename_i u hq
     simp only [Option.some.injEq, Prod.mk.injEq] at hp
     obtain ⟨_, rfl, rfl⟩ := hp
     exact ⟨rfl, hq⟩
    ·split at hp
     ·cases hp
     ·split at hp <;> cases hp
 ·split at h
  ·rename_i c hop
   split at h
   ·cases h
   ·rename_i g args ht
    split at h
    ·cases h
    ·rename_i v m' hc
     split at h
     ·cases h
     ·rename_i a1 hput
      simp only [Option.some.injEq, Prod.mk.injEq] at h
      obtain ⟨rfl, rfl⟩ := h
      refine ⟨v, m', [], ⟨hput, fun φ w ac Q K hR hρ hK => ?_⟩, ⟨fun hk => absurd hk (by decide), by simp⟩⟩
      rw [hop] at hρ
      obtain ⟨f, first', cap', e1, e2, e3⟩ := target_sound ht hρ
      obtain ⟨⟨fn, hg, hb⟩, hcalls⟩ := hcall g args _ a.m m' v φ w hc e3 hR
      have hrun : (execOp ac.eval o).run E.P w = .ok (.enter g ⟨first' ++ c.args.toList.map ac.eval ++ cap'⟩) w := by
       simp only [execOp, hop, Sem.run_bind, resolve_value o.type e1 e2, Result.andThen_ok]
       exact invoke_fn hE hg hb _ _ w
      unfold Oper.wp
      rw [hrun]
      refine hcalls.mono fun e w' he => ?_
      obtain ⟨φ', v', rfl, h1, h2, h3⟩ := he
      exact hK φ' v' w' [] h1 h2 .nil h3
  ·rename_i c hop
   split at h
   ·cases h
   ·rename_i d ht
    split at h
    ·cases h
    ·rename_i a1 hput
     simp only [Option.some.injEq, Prod.mk.injEq] at h
     obtain ⟨rfl, rfl⟩ := h
     refine ⟨undef, a.m, [d], ⟨hput, fun φ w ac Q K hR hρ hK => ?_⟩, ⟨fun hk => absurd hk (by decide), by simp⟩⟩
     obtain ⟨g, args⟩ := d
     have hρ' : ∀ x ∈ (Op.call c).operands.toList, VR φ (a.eval x) (ac.eval x) := by rw [hop] at hρ; exact hρ
     obtain ⟨f, first', cap', e1, e2, e3⟩ := target_sound ht hρ'
     have hrun : (execOp ac.eval o).run E.P w = .ok (.defer { target := .fn (.func g) ⟨cap'⟩, args := ⟨first' ++ c.args.toList.map ac.eval⟩ }) w := by
      simp only [execOp, hop, Sem.run_bind, resolve_value o.type e1 e2, Result.andThen_ok, Sem.run_pure]
     unfold Oper.wp
     rw [hrun]
     exact hK φ undef w [_] (Ext.refl _ (Nat.le_refl _)) VR.undef (.cons ⟨cap', _, rfl, e3⟩ .nil) hR
  ·cases h

theorem wanted_sound {a : Act} {ac : Go.Act} {ops : List Oper} {o : Oper} (hg : ∀ t, (match o.guard with | none => False | some (j, _) => ∃ oj, ops[j]? = some oj ∧ oj.dst = some t) → VR φ (a.tmp t) (ac.tmps.getD t undef)) :
  Region.wanted o (yielded ⟨ops⟩ ac.tmps) = wanted a ops o := by
 unfold Region.wanted wanted
 cases hgd : o.guard with
 | none => rfl
 | some p =>
  obtain ⟨j, want⟩ := p
  simp only
  rw [nth_eq]
  have e1 : (⟨ops⟩ : Array Oper)[j]? = ops[j]? := by simp
  unfold yielded
  rw [e1]
  cases hj : ops[j]? with
  | none => rfl
  | some oj =>
   simp only [Option.bind_some]
   cases hd : oj.dst with
   | none => rfl
   | some t =>
    simp only [Option.bind_some]
    have hv := hg t (by rw [hgd]; exact ⟨oj, hj, hd⟩)
    have hgetD : ac.tmps.getD t undef = (ac.tmps[t]?).getD undef := by rw [Array.getD_eq_getD_getElem?]
    rw [hgetD] at hv
    cases hc : ac.tmps[t]? with
    | none =>
     rw [hc] at hv
     simp only [Option.getD_none] at hv
     revert hv
     generalize a.tmp t = x
     intro hv
     unfold undef at hv
     cases hv with
     | tok _ _ h => simp [tokOk] at h
     | tuple _ => rfl
    | some y =>
     rw [hc] at hv
     simp only [Option.getD_some] at hv
     revert hv
     generalize a.tmp t = x
     intro hv
     cases hv with
     | tok _ _ h => cases y <;> first | rfl | (simp [tokOk] at h)
     | _ => rfl

theorem ActR.appendDefers {a : Act} {ac : Go.Act} (h : ActR φ a ac) {dn : List (Nat × List Value)} {dn' : List Deferred} (hd : DRs φ dn dn') (m : Mem) : ActR φ { a with m := m, defers := dn ++ a.defers } { ac with defers := dn' ++ ac.defers } := by
 refine ⟨h.size, h.bound, h.tmps, ?_⟩
 induction hd with
 | nil => exact h.defers
 | cons h1 _ ih => exact .cons h1 ih

/-- operations in the order of the text. -/
theorem opers_sound (hE : EnvOk E G) {call : CallFn} (hcall : CallOk E G w0 call) {all : List Oper} (hok : all.all (operOk G) = true) {Q : Exit → Go.Act → World → Prop} :
  ∀ (l : List Oper) (k : Nat) (a a' : Act) (ac : Go.Act) (φ : Phi) (w : World), all.drop k = l → opers E call all l a = some a' → ActR φ a ac → Rel E.P G w0 φ a.m w →
   (∀ φ' ac' w', Ext φ φ' a.m a'.m → ActR φ' a' ac' → Rel E.P G w0 φ' a'.m w' → Q .normal ac' w') → wpOps E.P ⟨all⟩ Q ((List.range l.length).map (k + ·)) ac w
 | [], k, a, a', ac, φ, w, hl, h, hA, hR, hQ => by
  simp only [opers, Option.some.injEq] at h
  subst h
  simp only [List.length_nil, List.range_zero, List.map_nil, wpOps]
  exact hQ φ ac w (Ext.refl _ (Nat.le_refl _)) hA hR
 | o :: l, k, a, a', ac, φ, w, hl, h, hA, hR, hQ => by
  have hk : all[k]? = some o := by
   have := congrArg (·[0]?) hl
   simpa using this
  have hl' : all.drop (k + 1) = l := by rw [← List.drop_drop, hl]; rfl
  have hoo : operOk G o = true := List.all_eq_true.1 hok o (List.mem_of_getElem? hk)
  have hρ : ∀ x ∈ o.op.operands.toList, VR φ (a.eval x) (ac.eval x) := fun x hx => hA.eval hR x (List.all_eq_true.1 hoo x hx)
  have hw := wanted_sound (φ := φ) (a := a) (ac := ac) (ops := all) (o := o) (fun t _ => hA.tmps t)
  have hrange : (List.range (o :: l).length).map (k + ·) = k :: (List.range l.length).map (k + 1 + ·) := by
   rw [List.length_cons, List.range_succ_eq_map]
   simp [Function.comp_def, Nat.add_assoc, Nat.add_comm 1]
  rw [hrange, wpOps_cons]
  have e1 : (⟨all⟩ : Array Oper)[k]? = some o := by simpa using hk
  unfold wpOp
  simp only [e1, hw]
  simp only [opers, stepOp] at h
  cases hwt : wanted a all o with
  | false =>
   simp only [hwt, cond_false, Bool.false_eq_true, if_false] at h ⊢
   cases hput : a.put o.dst undef with
   | none => simp [hput] at h
   | some a1 =>
    simp only [hput] at h
    have hm1 : a1.m = a.m := (Act.put_tmp hput).2.2.1
    refine opers_sound hE hcall hok l (k + 1) a1 a' _ φ w hl' h (hA.put hput VR.undef) (by rw [hm1]; exact hR) fun φ' ac' w' h1 h2 h3 => hQ φ' ac' w' (by rw [← hm1]; exact h1) h2 h3
  | true =>
   simp only [hwt, cond_true, if_true] at h ⊢
   cases hop : oper E call a o with
   | none => simp [hop] at h
   | some r =>
    obtain ⟨kk, a1⟩ := r
    simp only [hop] at h
    obtain ⟨v, m', dn, hdoes, _, _⟩ := oper_does hE hcall hop
    refine .inl (hdoes.wp φ w ac Q _ hR hρ fun φ' v' w' dn' h1 h2 h3 h4 => ?_)
    have hm1 : a1.m = m' := (Act.put_tmp hdoes.put).2.2.1
    have hA1 : ActR φ' a1 (({ ac with defers := dn' ++ ac.defers } : Go.Act).put o.dst v') := ((hA.mono h1.1).appendDefers h3 m').put hdoes.put h2
    exact opers_sound hE hcall hok l (k + 1) a1 a' _ φ' w' hl' h hA1 (by rw [hm1]; exact h4) fun φ'' ac' w'' g1 g2 g3 => hQ φ'' ac' w'' (h1.trans (by rw [← hm1]; exact g1)) g2 g3

end
end Go.Ev
