/- Part of an evaluator for closed runs, and of its proof (EvC). -/
import Derived.Test.YtihokakelnfdgaaDoorEvB
namespace Go.Ev
open Go.RowKit
set_option linter.unusedVariables false
set_option linter.unusedSectionVars false
variable [Sym]

/-- the objects that stood mean what they meant. -/
def Ext (φ φ' : Phi) (m m' : Mem) : Prop := φ.le φ' ∧ (∀ b, b < m.next → φ' b = φ b) ∧ m.next ≤ m'.next

theorem Ext.refl (φ : Phi) {m m' : Mem} (h : m.next ≤ m'.next) : Ext φ φ m m' := ⟨φ.le_refl, fun _ _ => rfl, h⟩
theorem Ext.set {φ : Phi} {m m' : Mem} (h : φ m.next = none) (b' κ : Nat) (hn : m.next ≤ m'.next) : Ext φ (φ.set m.next b' κ) m m' := ⟨Phi.le_set h _ _, fun b hb => Phi.set_other _ (by omega), hn⟩
theorem Ext.trans {φ φ' φ'' : Phi} {m m' m'' : Mem} (h : Ext φ φ' m m') (k : Ext φ' φ'' m' m'') : Ext φ φ'' m m'' :=
  ⟨h.1.trans k.1, fun b hb => (k.2.1 b (Nat.lt_of_lt_of_le hb h.2.2)).trans (h.2.1 b hb), Nat.le_trans h.2.2 k.2.2⟩

section
variable {E : Env} {G : Nat} {w0 w : World} {φ : Phi} {m : Mem} {ρ ρ' : Rho}

/-- what is appended: its cells, in whatever world with these blocks. -/
theorem cellsIn_sound (hE : EnvOk E G) (hR : Rel E.P G w0 φ m w) {size k : Nat} {y y' : Value} {new : List Value} (h : effect.cellsIn m size y = some (k, new)) (hy : VR φ y y') :
    ∃ new' : List Value, VRs φ new new' ∧ new.length = k * size ∧ ∀ W : World, W.heap = w.heap → (Builtin.lenOf y').run E.P W = .ok k W ∧ (Builtin.firstCells size k y').run E.P W = .ok ⟨new'⟩ W := by
  unfold effect.cellsIn at h
  split at h
  · rename_i n c
    cases hb : Nat.beq n 0 with
    | false => simp [hb] at h
    | true =>
      simp only [hb, cond_true, Option.some.injEq, Prod.mk.injEq] at h
      obtain ⟨rfl, rfl⟩ := h
      have := Nat.eq_of_beq_eq_true hb
      subst this
      rw [hy.snil_inv]
      exact ⟨[], .nil, by simp, fun W _ => ⟨rfl, rfl⟩⟩
  · rename_i b o s n c
    cases hb : Nat.beq n 0 with
    | false => simp [hb] at h
    | true =>
      simp only [hb, cond_true, Option.some.injEq, Prod.mk.injEq] at h
      obtain ⟨rfl, rfl⟩ := h
      obtain ⟨a, c', rfl, _, _⟩ := hy.slost_inv
      exact ⟨[], .nil, by simp, fun W _ => ⟨rfl, by simp [Builtin.firstCells, loadCells, loadCellsFrom]⟩⟩
  · rename_i b o n c
    split at h
    · rename_i kk cc e kd hm
      cases hb : Nat.ble (o + n * size) kk with
      | false => simp [hb] at h
      | true =>
        simp only [hb, cond_true] at h
        split at h
        · cases h
        · rename_i l hl
          simp only [Option.some.injEq, Prod.mk.injEq] at h
          obtain ⟨rfl, rfl⟩ := h
          obtain ⟨b', c', rfl, hφ, _⟩ := hy.slice_inv
          obtain ⟨cw, fr, hob, hn, hc, _⟩ := hR.obj b _ b' hm hφ
          obtain ⟨l', g1, g2, g3⟩ := cellsFrom_rel hc (n * size) o l (Nat.le_of_ble_eq_true hb) hl
          refine ⟨l', g1, cellsFrom_len hl, fun W hW => ⟨rfl, ?_⟩⟩
          have := run_loadCells_list (P := E.P) W ⟨b', o, none⟩ l' (fun j v hv => by rw [add_at, cell_at (hW ▸ hob)]; exact g3 j v hv)
          rw [g2] at this
          exact this
    · cases h
  · rename_i s
    cases hb : Nat.beq size 1 with
    | false => simp [hb] at h
    | true =>
      simp only [hb, cond_true, Option.some.injEq, Prod.mk.injEq] at h
      obtain ⟨rfl, rfl⟩ := h
      rw [hy.string_inv]
      have e : ∀ s : List UInt8, cellsOfBytes s = s.map fun b => Value.int .u8 b.toNat := by
        intro s
        induction s with
        | nil => rfl
        | cons a s ih => simp [cellsOfBytes, ih]
      have hplain : ∀ s : List UInt8, VRs φ (cellsOfBytes s) (cellsOfBytes s) := by
        intro s
        induction s with
        | nil => exact .nil
        | cons a s ih => exact .cons (.int _ _) ih
      have := Nat.eq_of_beq_eq_true hb
      refine ⟨cellsOfBytes s, hplain s, by rw [e]; simp [this], fun W _ => ⟨rfl, ?_⟩⟩
      have hex : (ByteArray.mk ⟨s⟩).extract 0 s.length = ⟨⟨s⟩⟩ := by
        apply ByteArray.ext
        apply Array.ext'
        simp
      simp only [Builtin.firstCells, hex, Sem.run_pure]
      rw [e]
      simp
  · cases h

theorem zeroCells_size (z : Array Value) (n : Nat) : (Builtin.zeroCells z n).size = n * z.size := by simp [Builtin.zeroCells]

theorem cut_le (need old : Nat) (e : TypeId) (t : Nat) : need ≤ (Question.appendCap need old e).cut t := Nat.le_add_right _ _

/-- a new row behind a draw of a capacity. -/
theorem grown_row (hR : Rel E.P G w0 φ m w) (hn : m.next ≤ 1000000000) {l l' rest : List Value} {e : TypeId} {kd need cap : Nat} (hl : VRs φ l l') (hlen : l.length ≤ 1000000000) (hkd : kd ≠ 1)
    (hneed : l.length = need * E.P.cellsOf e) (hcap : need ≤ cap) (hrest : rest.length = (cap - need) * E.P.cellsOf e) :
    Rel E.P G w0 (φ.set m.next w.heap.size (cap - need)) (m.new (.cells l.length (ofListFrom .leaf 0 l) e kd)) { w with heap := w.heap.push (.cells ⟨l' ++ rest⟩ e (0, 0)), drawn := w.drawn + 1 } := by
  have hle := hR.le_next w.heap.size (cap - need)
  refine Rel.alloc hR _ (by omega) ?_ rfl rfl rfl rfl
  have hl2 := hl.length
  refine ⟨⟨l' ++ rest⟩, (0, 0), rfl, ?_, fun i hi => ?_, fun _ => rfl, fun _ => ⟨.inl rfl, hlen, ?_⟩⟩
  · show l.length ≤ (l' ++ rest).length
    rw [List.length_append, ← hl2]; omega
  · rw [get_ofListFrom _ _ _ _ (by omega), if_pos (by omega), Nat.sub_zero]
    have : l[i]? = some l[i] := List.getElem?_eq_getElem hi
    obtain ⟨v', h1, h2⟩ := hl.get i _ this
    refine ⟨l[i], v', this, ?_, h2.mono hle⟩
    rw [List.getElem?_toArray, List.getElem?_append_left (by omega)]; exact h1
  · show l.length + (cap - need) * E.P.cellsOf e ≤ (l' ++ rest).length
    rw [List.length_append, ← hl2, hrest]
    exact Nat.le_refl _

end

section
variable {w : World} {P : Program} {t u ty e : TypeId} {du : TypeDesc} {i : TypeInfo} {base : Option Addr} {sLen sCap k : Nat} {y' : Value} {new' : List Value}

theorem run_room (ht : P.underlying t = some (.slice e)) (hu : P.underlying u = some du) (hdu : (∃ e', du = .slice e') ∨ du = .string) (hi : P.info? e = some i)
    (hlen : (Builtin.lenOf y').run P w = .ok k w) (hfirst : (Builtin.firstCells i.size k y').run P w = .ok ⟨new'⟩ w) (hroom : sLen + k ≤ sCap) {w' : World}
    (hst : (match base with | some a => storeCells (a.add (sLen * i.size)) new' | none => pure () : Sem Unit).run P w = .ok () w') :
    (Builtin.append_ #[t, u] ty #[.slice base sLen sCap, y']).run P w = .ok (.slice base (sLen + k) sCap) w' := by
  rcases hdu with ⟨e', rfl⟩ | rfl
  all_goals
    cases base with
    | none =>
      have hst' : w' = w := by simpa using hst.symm
      subst hst'
      simp [Builtin.append_, run_underlying ht, run_underlying hu, sizeOf, typeInfo, hi, hlen, hroom, hfirst]
    | some a =>
      simp only at hst
      simp [Builtin.append_, run_underlying ht, run_underlying hu, sizeOf, typeInfo, hi, hlen, hroom, hfirst, hst]

theorem run_grow {z : Value} {old' : List Value} (ht : P.underlying t = some (.slice e)) (hu : P.underlying u = some du) (hdu : (∃ e', du = .slice e') ∨ du = .string) (hi : P.info? e = some i) (hz : i.zero = some z)
    (hlen : (Builtin.lenOf y').run P w = .ok k w) (hfirst : (Builtin.firstCells i.size k y').run P { w with drawn := w.drawn + 1 } = .ok ⟨new'⟩ { w with drawn := w.drawn + 1 })
    (hold : (Builtin.firstCells i.size sLen (.slice base sLen sCap)).run P { w with drawn := w.drawn + 1 } = .ok ⟨old'⟩ { w with drawn := w.drawn + 1 })
    (hno : ¬ sLen + k ≤ sCap) (h63 : sLen + k ≤ 1000000000) (h48 : (sLen + k) * i.bytes ≤ 1000000000) :
    ∃ cap, sLen + k ≤ cap ∧ (Builtin.append_ #[t, u] ty #[.slice base sLen sCap, y']).run P w = .ok (.slice (some ⟨w.heap.size, 0, none⟩) (sLen + k) cap)
      { w with heap := w.heap.push (.cells ⟨old' ++ new' ++ (Builtin.zeroCells z.cells (cap - (sLen + k))).toList⟩ e (0, 0)), drawn := w.drawn + 1 } := by
  refine ⟨(Question.appendCap (sLen + k) sCap e).cut (w.tape w.drawn (.appendCap (sLen + k) sCap e)), cut_le _ _ _ _, ?_⟩
  have h63' : ¬ (9223372036854775807 < ((sLen : Int) + (k : Int))) := by omega
  have hnx := nextslicecap_le (show sCap < sLen + k by omega)
  have h48' : ¬ (281474976710656 < Builtin.nextslicecap (sLen + k) sCap * i.bytes) := by
    have : Builtin.nextslicecap (sLen + k) sCap * i.bytes ≤ 2 * (sLen + k) * i.bytes := Nat.mul_le_mul_right _ hnx
    rw [Nat.mul_assoc] at this
    omega
  have hfirst' : (Builtin.firstCells i.size k y').run P w.drew = .ok ⟨new'⟩ w.drew := hfirst
  have hold' : (Builtin.firstCells i.size sLen (.slice base sLen sCap)).run P w.drew = .ok ⟨old'⟩ w.drew := hold
  have hA : ∀ Z : Array Value, ((⟨old'⟩ : Array Value) ++ ((⟨new'⟩ : Array Value) ++ Z)) = ⟨old' ++ (new' ++ Z.toList)⟩ := fun Z => by
    apply Array.ext'
    simp
  rcases hdu with ⟨e', rfl⟩ | rfl
  all_goals
    simp [Builtin.append_, run_underlying ht, run_underlying hu, sizeOf, typeInfo, zeroValue, hi, hz, hlen, hno, h63', h48', Question.forced, hfirst', hold', newRow]
    rw [hA]
    rfl

end

section
variable {E : Env} {G : Nat} {w0 w : World} {φ : Phi} {m : Mem} {ρ ρ' : Rho}

theorem append_sound (hE : EnvOk E G) (hR : Rel E.P G w0 φ m w) (hn : m.next ≤ 1000000000) {t u ty e : TypeId} {du : TypeDesc} {i : TypeInfo} {z x y x' y' v : Value} {k : Nat} {new : List Value} {m' : Mem}
    (ht : E.under t = some (.slice e)) (hu : E.under u = some du) (hdu : (∃ e', du = .slice e') ∨ du = .string) (hi : E.ti e = some i) (hz : i.zero = some z) (hzl : (cellsOf z).length = i.size)
    (hx : VR φ x x') (hy : VR φ y y') (hnew : effect.cellsIn m i.size y = some (k, new)) (h : effect.append m e i.size i.bytes x k new = some (v, m')) :
    ∃ φ' v' w', (Builtin.append_ #[t, u] ty #[x', y']).run E.P w = .ok v' w' ∧ Ext φ φ' m m' ∧ VR φ' v v' ∧ Rel E.P G w0 φ' m' w' := by
  obtain ⟨new', hnr, hnl, hW⟩ := cellsIn_sound hE hR hnew hy
  have hi' := ti_info hE hi
  have hcells : E.P.cellsOf e = i.size := by simp [Program.cellsOf, hi']
  have hz' : E.zero e = some z := by unfold Env.zero; rw [hi]; exact hz
  have hzc := (VR.plain z (hE.zeros e z hz')).cells (φ := φ)
  have hzs : z.cells.size = i.size := by rw [← Array.length_toList, ← hzc.length, hzl]
  have hnl' : new'.length = k * i.size := by rw [← hnr.length, hnl]
  have ht' := under_eq hE ht
  have hu' := under_eq hE hu
  obtain ⟨hlen0, hfirst0⟩ := hW w rfl
  obtain ⟨hlen1, hfirst1⟩ := hW { w with drawn := w.drawn + 1 } rfl
  have hzero : ∀ n, (Builtin.zeroCells z.cells n).toList.length = n * i.size := fun n => by rw [Array.length_toList, zeroCells_size, hzs]
  unfold effect.append at h
  split at h
  · -- nil
    rename_i n c
    cases hb : (Nat.beq n 0 && Nat.beq c 0 && Nat.ble (k * i.bytes) 1000000000 && Nat.ble k 1000000000) with
    | false => simp [hb] at h
    | true =>
      simp only [hb, cond_true] at h
      simp only [Bool.and_eq_true] at hb
      obtain ⟨⟨⟨b1, b2⟩, b3⟩, b4⟩ := hb
      have b1 := Nat.eq_of_beq_eq_true b1
      have b2 := Nat.eq_of_beq_eq_true b2
      have b3 := Nat.le_of_ble_eq_true b3
      have b4 := Nat.le_of_ble_eq_true b4
      subst b1 b2
      rw [hx.snil_inv]
      cases hk : Nat.beq k 0 with
      | true =>
        simp only [hk, cond_true, Option.some.injEq, Prod.mk.injEq] at h
        obtain ⟨rfl, rfl⟩ := h
        have := Nat.eq_of_beq_eq_true hk
        subst this
        exact ⟨φ, _, w, run_room ht' hu' hdu hi' hlen0 hfirst0 (Nat.le_refl _) (w' := w) rfl, Ext.refl _ (Nat.le_refl _), .snil 0 0, hR⟩
      | false =>
        simp only [hk, cond_false] at h
        obtain ⟨m1, h1, h2⟩ := withAddr_some h
        cases h2
        obtain ⟨rfl, hlen⟩ := newCells_some h1
        have hkpos : k ≠ 0 := fun e => by subst e; simp at hk
        obtain ⟨cap, hcap, hrun⟩ := run_grow (ty := ty) (base := none) (sLen := 0) (sCap := 0) (old' := []) ht' hu' hdu hi' hz hlen0 hfirst1 rfl (by omega) (by omega) (by simpa using b3)
        simp only [Nat.zero_add] at hcap hrun
        refine ⟨_, _, _, hrun, Ext.set hR.next_none _ _ (Nat.le_succ _), ?_, grown_row hR hn (kd := 0) hnr hlen (by decide) (by rw [hcells]; exact hnl) hcap (by rw [hzero, hcells])⟩
        refine .slice 0 k (Phi.set_same _ _ _ _) ⟨hcap, ?_⟩
        rw [Phi.cap_same]; omega
  · rename_i b o n cap
    split at h
    · rename_i nc c el kd hm
      cases hkd1 : Nat.beq kd 1 with
      | true => simp [hkd1] at h
      | false =>
        simp only [hkd1, cond_false] at h
        have hkd : kd ≠ 1 := fun e => by subst e; simp at hkd1
        obtain ⟨b', c', hxe, hφ, hc1, hc2⟩ := hx.slice_inv
        rw [hxe]
        cases hroom : Nat.ble (n + k) cap with
        | true =>
          simp only [hroom, cond_true] at h
          split at h
          · cases h
          · rename_i c2 hs
            simp only [Option.some.injEq, Prod.mk.injEq] at h
            obtain ⟨rfl, rfl⟩ := h
            have hle := Nat.le_of_ble_eq_true hroom
            obtain ⟨w', e1, e2⟩ := put_cells (E := E) hR hn hm hφ hkd hnr hs
            refine ⟨φ, _, w', run_room ht' hu' hdu hi' hlen0 hfirst0 (by omega) (w' := w') ?_, Ext.refl _ (Nat.le_refl _), .slice o (n + k) hφ ⟨hc1, hc2⟩, e2⟩
            simp only [add_at]
            exact e1
        | false =>
          simp only [hroom, cond_false] at h
          cases hb : (Nat.ble n cap && Nat.ble (cap * i.size) nc && Nat.beq el e && Nat.beq o 0 && Nat.ble ((n + k) * i.bytes) 1000000000 && Nat.ble (n + k) 1000000000 && Nat.ble ((n + k) * i.size) 1000000000 && new.all oneCell) with
          | false => simp [hb] at h
          | true =>
            simp only [hb, cond_true, Option.some.injEq, Prod.mk.injEq] at h
            obtain ⟨rfl, rfl⟩ := h
            simp only [Bool.and_eq_true] at hb
            obtain ⟨⟨⟨⟨⟨⟨⟨b0, b1⟩, b2⟩, b3⟩, b4⟩, b5⟩, b6⟩, b7⟩ := hb
            have b0 := Nat.le_of_ble_eq_true b0
            have b1 := Nat.le_of_ble_eq_true b1
            have b2 := Nat.eq_of_beq_eq_true b2
            have b3 := Nat.eq_of_beq_eq_true b3
            have b4 := Nat.le_of_ble_eq_true b4
            have b5 := Nat.le_of_ble_eq_true b5
            have b6 := Nat.le_of_ble_eq_true b6
            subst b2 b3
            have hncap : n * i.size ≤ nc := Nat.le_trans (Nat.mul_le_mul_right _ b0) b1
            obtain ⟨cw, fr, hob, hnc, hcs, h0, h1⟩ := hR.obj b _ b' hm hφ
            obtain ⟨hfr, hn9, hcapw⟩ := h1 hkd
            rw [hcells] at hcapw
            have hnk : (n + k) * i.size = n * i.size + k * i.size := Nat.add_mul _ _ _
            have hrw : (AObj.cells nc c el kd).rw = true := by
              unfold AObj.rw
              split <;> first | rfl | (rename_i heq; cases heq; exact absurd rfl hkd) | (rename_i heq; cases heq)
            have hrw2 : ∀ t, (AObj.cells ((n + k) * i.size) t el kd).rw = true := by
              intro t
              unfold AObj.rw
              split <;> first | rfl | (rename_i heq; cases heq; exact absurd rfl hkd) | (rename_i heq; cases heq)
            -- the first cells in the world
            have hold : ∃ old' : List Value, VRs φ ((List.range (n * i.size)).map fun j => (c.get j).getD undef) old' ∧ old'.length = n * i.size ∧ ∀ (j : Nat) (v : Value), old'[j]? = some v → cw[j]? = some v := by
              refine ⟨(cw.toList.take (n * i.size)), ?_, by simp; omega, fun j v hv => ?_⟩
              · refine VRs.of_get (by simp; omega) fun j v v' hv hv' => ?_
                have hj : j < n * i.size := by
                  rcases Nat.lt_or_ge j (n * i.size) with h | h
                  · exact h
                  · rw [List.getElem?_eq_none (by simp; omega)] at hv; cases hv
                obtain ⟨x, x', q1, q2, q3⟩ := hcs j (by omega)
                rw [List.getElem?_map, List.getElem?_range hj] at hv
                simp only [Option.map_some, Option.some.injEq, q1, Option.getD_some] at hv
                rw [List.getElem?_take_of_lt hj, Array.getElem?_toList, q2] at hv'
                cases hv'
                subst hv
                exact q3
              · by_cases hj : j < n * i.size
                · rw [List.getElem?_take_of_lt hj, Array.getElem?_toList] at hv; exact hv
                · rw [List.getElem?_eq_none (by simp; omega)] at hv; cases hv
            obtain ⟨old', ho1, ho2, ho3⟩ := hold
            have hnocap : ¬ n + k ≤ cap := fun hle => by rw [Nat.ble_eq_true_of_le hle] at hroom; cases hroom
            -- the new object's cells
            have hget : ∀ j, j < (n + k) * i.size → (ofListFrom c (n * i.size) new).get j = if n * i.size ≤ j then new[j - n * i.size]? else c.get j := by
              intro j hj
              rw [get_ofListFrom _ _ _ _ (by omega)]
              by_cases hjn : n * i.size ≤ j
              · rw [if_pos ⟨hjn, by omega⟩, if_pos hjn]
              · rw [if_neg (by omega), if_neg hjn]
            by_cases hin : n + k ≤ c'
            · -- there is room in the world: in place
              have hfit : 0 + n * i.size + new'.length ≤ cw.size := by
                have : (n + k) * i.size ≤ c' * i.size := Nat.mul_le_mul_right _ hin
                have h2 : c' * i.size ≤ (cap + φ.cap b) * i.size := Nat.mul_le_mul_right _ hc2
                rw [Nat.add_mul] at h2
                omega
              have hone : ∀ v ∈ new', v.oneCell' = true := by
                intro v hv
                obtain ⟨q, hq, rfl⟩ := List.getElem_of_mem hv
                have hq2 : q < new.length := by omega
                obtain ⟨v', g1, g2⟩ := hnr.get q new[q] (List.getElem?_eq_getElem hq2)
                rw [List.getElem?_eq_getElem hq] at g1
                cases g1
                rw [g2.oneCell]
                exact List.all_eq_true.1 b7 _ (List.getElem_mem hq2)
              obtain ⟨c3, e1, e2, e3⟩ := storeCells_row (P := E.P) new' (0 + n * i.size) 0 cw w hob hfr (by simpa using hfit) hone
              have hle := hR.le_next b' (c' - (n + k))
              refine ⟨φ.set m.next b' (c' - (n + k)), _, w.setRow b' c3, run_room ht' hu' hdu hi' hlen0 hfirst0 hin (w' := w.setRow b' c3) ?_, Ext.set hR.next_none _ _ (Nat.le_succ _), ?_, ?_⟩
              · simp only [add_at]; exact e1
              · refine .slice 0 (n + k) (Phi.set_same _ _ _ _) ⟨hin, ?_⟩
                rw [Phi.cap_same]; omega
              · refine Rel.move hR hm hφ hrw (hrw2 _) (by omega) (by simp) (fun q hq => setRow_other w b' q c3 hq) ?_ rfl rfl rfl
                refine ⟨c3, fr, setRow_heap w b' cw c3 el fr hob, by omega, fun j hj => ?_, h0, fun _ => ⟨by rw [e2]; exact hfr, b6, ?_⟩⟩
                · rw [hget j hj, e3 j]
                  by_cases hjn : n * i.size ≤ j
                  · rw [if_pos hjn, if_pos ⟨by omega, by omega⟩]
                    have hx' : new[j - n * i.size]? = some new[j - n * i.size] := List.getElem?_eq_getElem (by omega)
                    obtain ⟨v', g1, g2⟩ := hnr.get _ _ hx'
                    refine ⟨_, v', hx', ?_, g2.mono hle⟩
                    rw [show j - (0 + n * i.size + 0) = j - n * i.size by omega]; exact g1
                  · rw [if_neg hjn, if_neg (by omega)]
                    obtain ⟨x, x', q1, q2, q3⟩ := hcs j (by omega)
                    exact ⟨x, x', q1, q2, q3.mono hle⟩
                · rw [hcells, e2]
                  have h2 : c' * i.size ≤ (cap + φ.cap b) * i.size := Nat.mul_le_mul_right _ hc2
                  rw [Nat.add_mul] at h2
                  have h3 : (n + k) * i.size + (c' - (n + k)) * i.size = c' * i.size := by rw [← Nat.add_mul]; congr 1; omega
                  omega
            · -- a new row
              have hfo : (Builtin.firstCells i.size n (.slice (some ⟨b', 0, none⟩) n c')).run E.P { w with drawn := w.drawn + 1 } = .ok ⟨old'⟩ { w with drawn := w.drawn + 1 } := by
                have := run_loadCells_list (P := E.P) { w with drawn := w.drawn + 1 } ⟨b', 0, none⟩ old' (fun j v hv => by
                  have hob' : ({ w with drawn := w.drawn + 1 } : World).heap[b']? = some (.cells cw el fr) := hob
                  rw [add_at, cell_at hob', Nat.zero_add]; exact ho3 j v hv)
                rw [ho2] at this
                exact this
              obtain ⟨ncap, hcap, hrun⟩ := run_grow (ty := ty) (base := some ⟨b', 0, none⟩) (sLen := n) (sCap := c') (old' := old') ht' hu' hdu hi' hz hlen0 hfirst1 hfo hin b5 b4
              refine ⟨_, _, _, hrun, Ext.set hR.next_none w.heap.size (ncap - (n + k)) (Nat.le_succ _), .slice 0 (n + k) (Phi.set_same _ _ _ _) ⟨hcap, by rw [Phi.cap_same]; omega⟩, ?_⟩
              have h1' : Rel E.P G w0 φ (m.put b .dead) w := hR.die hm hφ hrw (by omega)
              have hle := hR.le_next w.heap.size (ncap - (n + k))
              refine Rel.alloc h1' (.cells ((n + k) * i.size) (ofListFrom c (n * i.size) new) el kd) (show (m.put b .dead).next ≤ 2000000000 by rw [Mem.next_put]; omega) (κ := ncap - (n + k)) ?_ rfl rfl rfl rfl
              refine ⟨⟨old' ++ new' ++ (Builtin.zeroCells z.cells (ncap - (n + k))).toList⟩, (0, 0), rfl, ?_, fun j hj => ?_, fun _ => rfl, fun _ => ⟨.inl rfl, b6, ?_⟩⟩
              · show (n + k) * i.size ≤ (old' ++ new' ++ _).length
                rw [List.length_append, List.length_append, ho2, hnl']; omega
              · rw [hget j hj]
                by_cases hjn : n * i.size ≤ j
                · rw [if_pos hjn]
                  have hx' : new[j - n * i.size]? = some new[j - n * i.size] := List.getElem?_eq_getElem (by omega)
                  obtain ⟨v', g1, g2⟩ := hnr.get _ _ hx'
                  refine ⟨_, v', hx', ?_, g2.mono hle⟩
                  rw [List.getElem?_toArray, List.getElem?_append_left (by rw [List.length_append, ho2, hnl']; omega), List.getElem?_append_right (by omega), ho2]
                  exact g1
                · rw [if_neg hjn]
                  obtain ⟨x, x', q1, q2, q3⟩ := hcs j (by omega)
                  refine ⟨x, x', q1, ?_, q3.mono hle⟩
                  rw [List.getElem?_toArray, List.getElem?_append_left (by rw [List.length_append, ho2, hnl']; omega), List.getElem?_append_left (by omega)]
                  have hjl : j < old'.length := by omega
                  have := ho3 j old'[j] (List.getElem?_eq_getElem hjl)
                  rw [List.getElem?_eq_getElem hjl, ← this, q2]
              · rw [hcells]
                show (n + k) * i.size + (ncap - (n + k)) * i.size ≤ (old' ++ new' ++ _).length
                rw [List.length_append, List.length_append, ho2, hnl', hzero]; omega
    · cases h
  · cases h

end
end Go.Ev
