/- Part of an evaluator for closed runs, and of its proof (EvD). -/
import Derived.Test.YtihokakelnfdgaaDoorEvC
namespace Go.Ev
open Go.RowKit
set_option linter.unusedVariables false
set_option linter.unusedSectionVars false
variable [Sym]

section
variable {E : Env} {G : Nat} {w0 w : World} {φ : Phi} {m : Mem} {ρ ρ' : Rho}

theorem Rel.congr {P : Program} {m2 : Mem} (h : Rel P G w0 φ m w) (hg : ∀ b, m.get b = m2.get b) (hn : m.next = m2.next) : Rel P G w0 φ m2 w where
  glob := h.glob
  lt := by rw [← hn]; exact h.lt
  obj := fun b o b' hb => h.obj b o b' (by rw [hg]; exact hb)
  inj := fun b₁ b₂ o₁ o₂ b' h1 h2 => h.inj b₁ b₂ o₁ o₂ b' (by rw [hg]; exact h1) (by rw [hg]; exact h2)
  own := fun b o b' hb => h.own b o b' (by rw [hg]; exact hb)
  fresh := fun b o hb => by rw [← hn]; exact h.fresh b o (by rw [hg]; exact hb)
  below := h.below

/-- how an operation of the model comes to an end that fits. -/
def Did (P : Program) (s : Sem Next) (w : World) (v : Value) (φ : Phi) (w' : World) : Prop :=
  (∃ v', s.run P w = .ok (.value v') w' ∧ VR φ v v') ∨ (s.run P w = .ok .skip w' ∧ v = undef)

theorem upd_sound (hE : EnvOk E G) (hR : Rel E.P G w0 φ m w) (hn : m.next ≤ 1000000000) {t kt et : TypeId} {r : Nat} {k x : Value} {k' x' mv : Value} {es es2 : List (Value × Value)} (ht : E.under t = some (.map kt et)) (hm : m.get r = some (.map es))
    (hmv : VR φ (.map (some r)) mv) (hk : VR φ k k') (hx : VR φ x x') (h : effect.upd E m kt k x es = some es2) :
    ∃ w', (Instr.mapUpdate t mv k' x').run E.P w = .ok () w' ∧ Rel E.P G w0 φ (m.put r (.map es2)) w' := by
  obtain ⟨r', rfl, hφ⟩ := hmv.map_inv
  obtain ⟨es', clock, hob, h1, h2⟩ := map_at hR hm hφ
  have setRel : ∀ (es3 : Array MapEntry) (cl : Nat), VRs φ (es2.map (·.1)) (es3.toList.map (·.key)) → VRs φ (es2.map (·.2)) (es3.toList.map (·.val)) →
      Rel E.P G w0 φ (m.put r (.map es2)) { w with heap := w.heap.setIfInBounds r' (.map es3 cl) } := by
    intro es3 cl a b
    have hlt := (hR.lt _ _ hφ).2
    refine hR.update hm hφ rfl (.inl rfl) (by omega) (by simp) (fun q hq => ?_) ?_ rfl rfl rfl
    · show (w.heap.setIfInBounds r' _)[q]? = _
      rw [Array.getElem?_setIfInBounds, if_neg (by omega)]
    · refine ⟨es3, cl, ?_, a, b⟩
      show (w.heap.setIfInBounds r' _)[r']? = _
      rw [Array.getElem?_setIfInBounds, if_pos rfl, if_pos hlt]
  have setRun : ∀ o : Obj, (setObj r' o).run E.P w = .ok () { w with heap := w.heap.setIfInBounds r' o } := by
    intro o
    simp [setObj, Sem.run, hob]
  rcases upd_form es es2 h with ⟨rfl, hok, hall⟩ | ⟨pre, k0, v0, post, rfl, rfl, hall, h0⟩
  · obtain ⟨d, hd, hck⟩ := keyOk_sound (w := w) hE hok hk
    have hf := findKey_none (w := w) hE es'.toList hd fun e' he' => by
      obtain ⟨y, hy, hye⟩ := keys_mem h1 e' he'
      obtain ⟨d', hd', hke, _⟩ := eqKey_sound hE hR (hall y hy) hk hye
      obtain rfl := Option.some.inj (hd.symm.trans hd')
      exact hke
    refine ⟨_, ?_, setRel (es'.push { key := k', val := x', born := clock }) (clock + 1) ?_ ?_⟩
    · simp only [Instr.mapUpdate, Sem.run_bind, under_run hE ht, Result.andThen_ok, getObj_map hob, hck 9999, hf, setRun]
    · simpa using h1.append (.cons hk .nil)
    · simpa using h2.append (.cons hx .nil)
  · obtain ⟨pre', e0, post', hes, hlen, hk0, hv0, a, b, c, d⟩ := entries_cut h1 h2
    obtain ⟨dd, hd, hke, hck, hsame⟩ := eqKey_sound hE hR h0 hk hk0
    have hf := findKey_some (post := post') hE pre' hd (fun e' he' => by
      obtain ⟨y, hy, hye⟩ := keys_mem a e' he'
      obtain ⟨d', hd', hke', _⟩ := eqKey_sound hE hR (hall y hy) hk hye
      obtain rfl := Option.some.inj (hd.symm.trans hd')
      exact hke') hke
    rw [← hes] at hf
    have hget : es'[pre'.length]? = some e0 := by
      rw [← Array.getElem?_toList, hes, List.getElem?_append_right (Nat.le_refl _)]
      simp
    have hmod : (es'.modify pre'.length fun e => { e with key := k', val := x' }).toList = pre' ++ { e0 with key := k', val := x' } :: post' := by
      apply List.ext_getElem?
      intro q
      rw [Array.getElem?_toList, Array.getElem?_modify, ← Array.getElem?_toList, hes]
      by_cases hq : pre'.length = q
      · subst hq
        rw [if_pos rfl, List.getElem?_append_right (Nat.le_refl _), List.getElem?_append_right (Nat.le_refl _)]
        simp
      · rw [if_neg hq]
        by_cases hlt : q < pre'.length
        · rw [List.getElem?_append_left hlt, List.getElem?_append_left hlt]
        · rw [List.getElem?_append_right (by omega), List.getElem?_append_right (by omega)]
          obtain ⟨s, hs⟩ : ∃ s, q - pre'.length = s + 1 := ⟨q - pre'.length - 1, by omega⟩
          rw [hs]
          rfl
    refine ⟨_, ?_, setRel (es'.modify pre'.length fun e => { e with key := k', val := x' }) clock ?_ ?_⟩
    · simp only [Instr.mapUpdate, Sem.run_bind, under_run hE ht, Result.andThen_ok, getObj_map hob, hck 9999, hf, hget, Option.map_some, Option.getD_some, Instr.keyThatStays, hsame rfl, if_true, Sem.run_pure, setRun]
    · rw [hmod]
      simp only [List.map_append, List.map_cons]
      exact a.append (.cons hk c)
    · rw [hmod]
      simp only [List.map_append, List.map_cons]
      exact b.append (.cons hx d)

theorem freeze_row {b' : Nat} {c' : Array Value} {e : TypeId} {fr : Nat × Nat} (h : w.heap[b']? = some (.cells c' e fr)) (off : Nat) :
    (markStringish ⟨b', off, none⟩).run E.P w = .ok () { w with heap := w.heap.modify b' fun
      | .cells c elem (lo, hi) => .cells c elem (if lo == hi then (c'.size, c'.size + 1) else (min lo c'.size, max hi (c'.size + 1)))
      | o => o } := by
  simp only [markStringish, Sem.run_bind, run_shape, World.shape?, h, Result.andThen_ok, run_freeze, World.freeze]
  rfl

/-- a slice of bytes is told to be one that a string may share. -/
theorem mark_sound (hR : Rel E.P G w0 φ m w) (hn : m.next ≤ 1000000000) {b b' n : Nat} {c : Tree Value} {e : TypeId} {kd : Nat} (hm : m.get b = some (.cells n c e kd)) (hφ : φ b = some b') (hkd : kd ≠ 1) (off : Nat) :
    ∃ w', (markStringish ⟨b', off, none⟩).run E.P w = .ok () w' ∧ Rel E.P G w0 φ (m.put b (.cells n c e 2)) w' := by
  obtain ⟨c', fr, hob, hnc, hc, h0, h1⟩ := hR.obj b _ b' hm hφ
  obtain ⟨hfr, hn9, hcap⟩ := h1 hkd
  have hlt := (hR.lt _ _ hφ).2
  refine ⟨_, freeze_row hob off, ?_⟩
  have hrw : (AObj.cells n c e kd).rw = true := by
    unfold AObj.rw
    split <;> first | rfl | (rename_i heq; cases heq; exact absurd rfl hkd) | (rename_i heq; cases heq)
  refine hR.update hm hφ hrw (.inl rfl) (by omega) (by simp) (fun q hq => ?_) ?_ rfl rfl rfl
  · show (w.heap.modify b' _)[q]? = _
    rw [Array.getElem?_modify, if_neg (by omega)]
  · obtain ⟨lo, hi⟩ := fr
    refine ⟨c', if lo == hi then (c'.size, c'.size + 1) else (min lo c'.size, max hi (c'.size + 1)), ?_, hnc, hc, fun h => absurd h (by decide), fun _ => ⟨?_, hn9, hcap⟩⟩
    · show (w.heap.modify b' _)[b']? = _
      rw [Array.getElem?_modify, if_pos rfl, hob]
      rfl
    · right
      simp only at hfr
      by_cases hl : lo = hi
      · simp [hl]
      · have : (lo == hi) = false := by simpa using hl
        simp only [this, Bool.false_eq_true, if_false]
        omega

theorem storeAt_next {t : TypeId} {b o : Nat} {v : Value} {m' : Mem} (h : storeAt E m t b o v = some m') : m'.next = m.next := by
  unfold storeAt at h
  split at h
  · rename_i k n c e kd hk hm
    cases hb : (Nat.beq (cellsOf v).length k && !(Nat.beq kd 1)) with
    | false => simp [hb] at h
    | true =>
      simp only [hb, cond_true] at h
      split at h
      · cases h
      · cases h; rfl
  · cases h

theorem effect_sound (hE : EnvOk E G) (hR : Rel E.P G w0 φ m w) (hn1' : m.next + 1 ≤ 1000000000) (o : Oper) (hρ : ∀ x ∈ o.op.operands.toList, VR φ (ρ x) (ρ' x)) {v : Value} {m' : Mem} (h : effect E m ρ o.op = some (v, m')) :
    ∃ φ' w', Did E.P (execOp ρ' o) w v φ' w' ∧ Ext φ φ' m m' ∧ Rel E.P G w0 φ' m' w' := by
  have hn : m.next ≤ 1000000000 := by omega
  have ofV : ∀ {s : Sem Value} {v' w'}, s.run E.P w = .ok v' w' → (do pure (.value (← s)) : Sem Next).run E.P w = .ok (.value v') w' := by
    intro s v' w' hs
    simp only [Sem.run_bind, hs, Result.andThen_ok, Sem.run_pure]
  have ofU : ∀ {s : Sem Unit} {w'}, s.run E.P w = .ok () w' → (do s; pure .skip : Sem Next).run E.P w = .ok .skip w' := by
    intro s w' hs
    simp only [Sem.run_bind, hs, Result.andThen_ok, Sem.run_pure]
  unfold execOp
  generalize o.type = ty at *
  cases ho : o.op with
  | store t a x =>
    rw [ho] at h hρ
    simp only [effect] at h
    dsimp only
    have ha := hρ a (by simp [Op.operands])
    have hx := hρ x (by simp [Op.operands])
    split at h
    · rename_i b off hae
      split at h
      · cases h
      · rename_i m1 hs
        simp only [Option.some.injEq, Prod.mk.injEq] at h
        obtain ⟨rfl, rfl⟩ := h
        rw [hae] at ha
        obtain ⟨b', hb, hφ⟩ := ha.ptr_inv
        obtain ⟨w', e1, e2⟩ := store_sound hE hR hn hs hφ hx
        refine ⟨φ, w', .inr ⟨ofU ?_, rfl⟩, Ext.refl _ (by rw [storeAt_next hs]; exact Nat.le_refl _), e2⟩
        rw [hb]
        simpa [Instr.storeAt, Instr.sureAddr] using e1
    · cases h
  | mapUpdate t mp k x =>
    rw [ho] at h hρ
    simp only [effect] at h
    dsimp only
    have hmp := hρ mp (by simp [Op.operands])
    have hk := hρ k (by simp [Op.operands])
    have hx := hρ x (by simp [Op.operands])
    split at h
    · rename_i kt et r ht hme
      split at h
      · rename_i es hm
        split at h
        · cases h
        · rename_i es2 hu
          simp only [Option.some.injEq, Prod.mk.injEq] at h
          obtain ⟨rfl, rfl⟩ := h
          rw [hme] at hmp
          obtain ⟨w', e1, e2⟩ := upd_sound hE hR hn ht hm hmp hk hx hu
          exact ⟨φ, w', .inr ⟨ofU e1, rfl⟩, Ext.refl _ (Nat.le_refl _), e2⟩
      · cases h
    · cases h
  | insert t mp k x =>
    rw [ho] at h hρ
    simp only [effect] at h
    dsimp only
    have hmp := hρ mp (by simp [Op.operands])
    have hk := hρ k (by simp [Op.operands])
    have hx := hρ x (by simp [Op.operands])
    split at h
    · rename_i kt et r ht hme
      split at h
      · rename_i es hm
        split at h
        · cases h
        · rename_i es2 hu
          simp only [Option.some.injEq, Prod.mk.injEq] at h
          obtain ⟨rfl, rfl⟩ := h
          rw [hme] at hmp
          obtain ⟨w', e1, e2⟩ := upd_sound hE hR hn ht hm hmp hk hx hu
          exact ⟨φ, w', .inr ⟨ofU e1, rfl⟩, Ext.refl _ (Nat.le_refl _), e2⟩
      · cases h
    · cases h
  | convert s d x =>
    rw [ho] at h hρ
    simp only [effect] at h
    dsimp only
    have hx := hρ x (by simp [Op.operands])
    split at h
    · rename_i b off len cap hxe
      split at h
      · rename_i e0 e hs hd
        split at h
        · rename_i n c el kd he hm
          cases hb : (Nat.beq s d && !(Nat.beq kd 1)) with
          | false => simp [hb] at h
          | true =>
            simp only [hb, cond_true, Option.some.injEq, Prod.mk.injEq] at h
            obtain ⟨rfl, rfl⟩ := h
            simp only [Bool.and_eq_true, Bool.not_eq_true'] at hb
            have hsd := Nat.eq_of_beq_eq_true hb.1
            subst hsd
            have hkd : kd ≠ 1 := fun e => by subst e; simp at hb
            rw [hxe] at hx
            obtain ⟨b', c', hxb, hφ, hc1, hc2⟩ := hx.slice_inv
            rw [hxb]
            obtain ⟨w', e1, e2⟩ := mark_sound (E := E) hR hn hm hφ hkd off
            refine ⟨φ, w', .inl ⟨.slice (some ⟨b', off, none⟩) len c', ofV ?_, .slice _ _ hφ ⟨hc1, hc2⟩⟩, Ext.refl _ (Nat.le_refl _), e2⟩
            simp only [Go.convert, Sem.run_bind, under_run hE hd, Result.andThen_ok, under_run hE he, beq_self_eq_true, e1, Sem.run_pure]
        · cases h
      · cases h
    · rename_i str hxe
      split at h
      · rename_i d0 e hs hd
        split at h
        · rename_i he
          cases hsz : size1 E e with
          | false => simp [hsz] at h
          | true =>
            simp only [hsz, cond_true] at h
            obtain ⟨m1, h1, h2⟩ := withAddr_some h
            cases h2
            obtain ⟨rfl, hlen⟩ := newCells_some h1
            have hcell : E.P.cellsOf e = 1 := by
              unfold size1 Env.size at hsz
              cases hi : E.ti e with
              | none => simp [hi] at hsz
              | some i => simp only [hi] at hsz; simp [Program.cellsOf, ti_info hE hi, Nat.eq_of_beq_eq_true hsz]
            rw [hxe] at hx
            rw [hx.string_inv]
            have ecells : ∀ s : List UInt8, cellsOfBytes s = s.map fun b => Value.int .u8 b.toNat := by
              intro s
              induction s with
              | nil => rfl
              | cons a s ih => simp [cellsOfBytes, ih]
            have hplain : ∀ s : List UInt8, VRs φ (cellsOfBytes s) (cellsOfBytes s) := by
              intro s
              induction s with
              | nil => exact .nil
              | cons a s ih => exact .cons (.int _ _) ih
            have hcl : (cellsOfBytes str).length = str.length := by rw [ecells]; simp
            let cap := (Question.appendCap str.length 0 e).cut (w.tape w.drawn (.appendCap str.length 0 e))
            have hcap : str.length ≤ cap := cut_le _ _ _ _
            have hg := grown_row (E := E) hR hn (kd := 2) (rest := List.replicate (cap - str.length) (.int .u8 0)) (hplain str) hlen (by decide) (need := str.length) (cap := cap) (e := e) (by rw [hcell, hcl]; omega) hcap (by simp [hcell])
            have hget := Mem.get_new_same m (.cells (cellsOfBytes str).length (ofListFrom .leaf 0 (cellsOfBytes str)) e 2) (by omega)
            obtain ⟨w', e1, e2⟩ := mark_sound (E := E) hg (show (m.new _).next ≤ 1000000000 from hn1') hget (Phi.set_same _ _ _ _) (by decide) 0
            have hrel : Rel E.P G w0 (φ.set m.next w.heap.size (cap - str.length)) (m.new (.cells (cellsOfBytes str).length (ofListFrom .leaf 0 (cellsOfBytes str)) e 2)) w' := by
              refine Rel.congr e2 (fun b => ?_) rfl
              by_cases hb : m.next = b
              · subst hb; rw [Mem.get_put_same _ _ _ (by omega), hget]
              · rw [Mem.get_put_other _ _ _ _ hb]
            refine ⟨_, w', .inl ⟨.slice (some ⟨w.heap.size, 0, none⟩) str.length cap, ofV ?_, .slice 0 _ (Phi.set_same _ _ _ _) ⟨hcap, by rw [Phi.cap_same]; omega⟩⟩, Ext.set hR.next_none _ _ (Nat.le_succ _), hrel⟩
            have hdata : (ByteArray.mk ⟨str⟩).data.map (fun b => Value.int .u8 b.toNat) = ⟨cellsOfBytes str⟩ := by
              apply Array.ext'
              simp [ecells]
            have hsz' : (ByteArray.mk ⟨str⟩).size = str.length := rfl
            have hconv : (Conv.stringToBytes e ⟨⟨str⟩⟩).run E.P w = .ok (.slice (some ⟨w.heap.size, 0, none⟩) str.length cap) w' := by
              have harr : (⟨cellsOfBytes str⟩ : Array Value) ++ Array.replicate (cap - str.length) (.int .u8 0) = ⟨cellsOfBytes str ++ List.replicate (cap - str.length) (.int .u8 0)⟩ := by
                apply Array.ext'
                simp
              simp only [Conv.stringToBytes, hsz', Sem.run_bind, run_choose, Question.forced, Bool.false_eq_true, if_false, Result.andThen_ok, newRow, run_newObj, Sem.run_pure, hdata]
              rw [show (Question.appendCap str.length 0 e).cut (w.tape w.drawn (.appendCap str.length 0 e)) = cap from rfl, harr]
              rw [e1]
              rfl
            cases d0 <;> simp only [Go.convert, Sem.run_bind, under_run hE hs, under_run hE hd, Result.andThen_ok, under_run hE he, hconv]
        · cases h
      · cases h
    · cases h
  | call c =>
    rw [ho] at h hρ
    cases hcal : c.callee with
    | value f => simp [effect, hcal] at h
    | invoke r nm => simp [effect, hcal] at h
    | builtin b =>
      have hargs : ∀ x ∈ c.args.toList, VR φ (ρ x) (ρ' x) := fun x hx => hρ x (by simp only [Op.operands, Call.operands, Array.toList_append]; exact List.mem_append.2 (.inr hx))
      simp only [resolve, hcal, invoke, builtin]
      cases b <;> first
        | (simp only [effect, hcal] at h; cases h; done)
        | skip
      simp only [effect, hcal] at h
      split at h
      · rename_i t u x y hts hxs
        split at h
        · rename_i e du ht hu
          cases hdu : rowD du with
          | false => rw [hdu] at h; cases h
          | true =>
            rw [hdu] at h
            simp only [Bool.not_true, cond_false] at h
            have hdu' : (∃ e', du = .slice e') ∨ du = .string := by
              cases du <;> first | exact .inr rfl | exact .inl ⟨_, rfl⟩ | (simp [rowD] at hdu; done)
            split at h
            · cases h
            · rename_i i hi
              split at h
              · cases h
              · rename_i z hz
                cases hzl : Nat.beq (cellsOf z).length i.size with
                | false => simp [hzl] at h
                | true =>
                  simp only [hzl, cond_true] at h
                  split at h
                  · cases h
                  · rename_i k new hnew
                    have ea : c.argTypes = #[t, u] := by apply Array.ext'; rw [hts]
                    have eb : c.args.map ρ' = #[ρ' x, ρ' y] := by apply Array.ext'; simp [hxs]
                    obtain ⟨φ', v', w', e1, e2, e3, e4⟩ := append_sound (ty := ty) hE hR hn ht hu hdu' hi hz (Nat.eq_of_beq_eq_true hzl) (hargs x (by rw [hxs]; simp)) (hargs y (by rw [hxs]; simp)) hnew h
                    refine ⟨φ', w', .inl ⟨v', ?_, e3⟩, e2, e4⟩
                    have := ofV e1
                    simp only [Sem.run_bind, Sem.run_pure, Result.andThen_ok] at this ⊢
                    rw [ea, eb]
                    exact this
        · cases h
      · cases h
  | _ => simp [ho, effect] at h

end
end Go.Ev
