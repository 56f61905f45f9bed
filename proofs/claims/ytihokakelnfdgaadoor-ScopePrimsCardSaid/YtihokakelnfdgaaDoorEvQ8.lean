/- Part of an evaluator for closed runs, and of its proof (EvQ8). -/
import Derived.Test.YtihokakelnfdgaaDoorEvQ7
namespace Go.Ev
open Go.RowKit
set_option linter.unusedVariables false
set_option linter.unusedSectionVars false
variable [Sym]

section
variable {E : Env} {G : Nat} {w0 w : World} {φ : Phi} {m : Mem} {ρ ρ' : Rho}

theorem map_at (hR : Rel E.P G w0 φ m w) {r r' : Nat} {es : List (Value × Value)} (hm : m.get r = some (.map es)) (hφ : φ r = some r') :
    ∃ es' clock, w.heap[r']? = some (.map es' clock) ∧ VRs φ (es.map (·.1)) (es'.toList.map (·.key)) ∧ VRs φ (es.map (·.2)) (es'.toList.map (·.val)) := hR.obj r _ r' hm hφ

theorem getObj_map {r' : Nat} {es' : Array MapEntry} {clock : Nat} (h : w.heap[r']? = some (.map es' clock)) : (getObj r').run E.P w = .ok (.map es' clock) w := by
  simp [getObj, Sem.run, h]

theorem VRs.map_len {φ : Phi} {es : List (Value × Value)} {es' : List MapEntry} (h : VRs φ (es.map (·.1)) (es'.map (·.key))) : es.length = es'.length := by
  simpa using h.length

theorem find_sound (hE : EnvOk E G) (hR : Rel E.P G w0 φ m w) {kt : TypeId} {k k' : Value} {es : List (Value × Value)} {es' : List MapEntry} {r : Option Value} (h : quiet.find E m kt k es = some r) (hk : VR φ k k')
    (h1 : VRs φ (es.map (·.1)) (es'.map (·.key))) (h2 : VRs φ (es.map (·.2)) (es'.map (·.val))) :
    (∀ (n : Nat) (em : Bool), (Instr.checkKey em (n + 1) kt k').run E.P w = .ok () w) ∧
      ((r = none ∧ (Instr.findKey kt k' es').run E.P w = .ok none w) ∨ ∃ v v' i, r = some v ∧ VR φ v v' ∧ (Instr.findKey kt k' es').run E.P w = .ok (some (i, v')) w) := by
  rcases find_form es r h with ⟨rfl, hok, hall⟩ | ⟨pre, k0, v, post, rfl, rfl, hall, h0⟩
  · obtain ⟨d, hd, hck⟩ := keyOk_sound (w := w) hE hok hk
    refine ⟨hck, .inl ⟨rfl, findKey_none hE es' hd fun e' he' => ?_⟩⟩
    obtain ⟨y, hy, hye⟩ := keys_mem h1 e' he'
    obtain ⟨d', hd', hke, _⟩ := eqKey_sound hE hR (hall y hy) hk hye
    obtain rfl := Option.some.inj (hd.symm.trans hd')
    exact hke
  · obtain ⟨pre', e0, post', rfl, hlen, hk0, hv0, a, b, c, d⟩ := entries_cut h1 h2
    obtain ⟨dd, hd, hke, hck, _⟩ := eqKey_sound hE hR h0 hk hk0
    refine ⟨hck, .inr ⟨v, e0.val, pre'.length, rfl, hv0, findKey_some hE pre' hd (fun e' he' => ?_) hke⟩⟩
    obtain ⟨y, hy, hye⟩ := keys_mem a e' he'
    obtain ⟨d', hd', hke', _⟩ := eqKey_sound hE hR (hall y hy) hk hye
    obtain rfl := Option.some.inj (hd.symm.trans hd')
    exact hke'

/-- what a look-up answers. -/
def looked (ok : Bool) (z : Value) : Option Value → Value
  | some v => bif ok then .tuple ⟨[v, .bool true]⟩ else v
  | none => bif ok then .tuple ⟨[z, .bool false]⟩ else z

theorem q_lookup_at (hE : EnvOk E G) {t kt et : TypeId} {z : Value} {ok : Bool} {k' : Value} {es' : Array MapEntry} {x' : Value} {r : Option Value} {q : Option (Nat × Value)} (ht : E.under t = some (.map kt et)) (hz : E.zero et = some z)
    (hx : (x' = .map none ∧ es' = #[]) ∨ ∃ b c, x' = .map (some b) ∧ w.heap[b]? = some (.map es' c)) (hck : (Instr.checkKey es'.isEmpty 10000 kt k').run E.P w = .ok () w)
    (hf : (Instr.findKey kt k' es'.toList).run E.P w = .ok q w) (hq : (r = none ∧ q = none) ∨ ∃ v v' i, r = some v ∧ VR φ v v' ∧ q = some (i, v')) :
    ∃ v', (Instr.lookup t x' k' ok).run E.P w = .ok v' w ∧ VR φ (looked ok z r) v' := by
  have hzz : VR φ z z := VR.plain z (hE.zeros et z hz)
  rcases hq with ⟨rfl, rfl⟩ | ⟨u, u', i, rfl, hu, rfl⟩
  · refine ⟨if ok then .tuple #[z, .bool false] else z, ?_, ?_⟩
    · rcases hx with ⟨rfl, rfl⟩ | ⟨b, c, rfl, hc⟩
      · simp only [Instr.lookup, Sem.run_bind, under_run hE ht, Result.andThen_ok, Sem.run_pure, hck, hf, zero_run hE hz]
      · simp only [Instr.lookup, Sem.run_bind, under_run hE ht, Result.andThen_ok, Sem.run_pure, getObj_map hc, hck, hf, zero_run hE hz]
    · cases ok
      · exact hzz
      · exact .tuple (.cons hzz (.cons (.bool _) .nil))
  · refine ⟨if ok then .tuple #[u', .bool true] else u', ?_, ?_⟩
    · rcases hx with ⟨rfl, rfl⟩ | ⟨b, c, rfl, hc⟩
      · simp only [Instr.lookup, Sem.run_bind, under_run hE ht, Result.andThen_ok, Sem.run_pure, hck, hf]
      · simp only [Instr.lookup, Sem.run_bind, under_run hE ht, Result.andThen_ok, Sem.run_pure, getObj_map hc, hck, hf]
    · cases ok
      · exact hu
      · exact .tuple (.cons hu (.cons (.bool _) .nil))

theorem q_lookup (hE : EnvOk E G) (hR : Rel E.P G w0 φ m w) {t : TypeId} {x i : Operand} {ok : Bool} {v : Value} (hx : VR φ (ρ x) (ρ' x)) (hi : VR φ (ρ i) (ρ' i)) (h : quiet E m ρ (.lookup t x i ok) = some v) :
    ∃ v', (Instr.lookup t (ρ' x) (ρ' i) ok).run E.P w = .ok v' w ∧ VR φ v v' := by
  simp only [quiet] at h
  split at h
  · rename_i kt et ht
    split at h
    · rename_i es z hes hz
      split at h
      · cases h
      · rename_i r hr
        have hv : v = looked ok z r := by cases h; cases r <;> rfl
        subst hv
        -- the entries in the world
        have key : ∃ es' : Array MapEntry, ((ρ' x = .map none ∧ es' = #[]) ∨ ∃ b c, ρ' x = .map (some b) ∧ w.heap[b]? = some (.map es' c)) ∧ VRs φ (es.map (·.1)) (es'.toList.map (·.key)) ∧ VRs φ (es.map (·.2)) (es'.toList.map (·.val)) := by
          split at hes
          · rename_i hxe
            cases hes
            rw [hxe] at hx
            exact ⟨#[], .inl ⟨hx.mnil_inv, rfl⟩, .nil, .nil⟩
          · rename_i r' hxe
            split at hes
            · rename_i es0 hm
              cases hes
              rw [hxe] at hx
              obtain ⟨b, hb, hφ⟩ := hx.map_inv
              obtain ⟨es', c, h1, h2, h3⟩ := map_at hR hm hφ
              exact ⟨es', .inr ⟨b, c, hb, h1⟩, h2, h3⟩
            · cases hes
          · cases hes
        obtain ⟨es', hx', h1, h2⟩ := key
        obtain ⟨hck, hf⟩ := find_sound hE hR hr hi h1 h2
        rcases hf with ⟨rfl, hf⟩ | ⟨u, u', j, rfl, hu, hf⟩
        · exact q_lookup_at hE ht hz hx' (hck 9999 _) hf (.inl ⟨rfl, rfl⟩)
        · exact q_lookup_at hE ht hz hx' (hck 9999 _) hf (.inr ⟨u, u', j, rfl, hu, rfl⟩)
    · cases h
  · cases h


theorem q_len (hE : EnvOk E G) (hR : Rel E.P G w0 φ m w) {c : Call} (ty : TypeId) {v : Value} (hc : c.callee = .builtin .len) (hρ : ∀ x ∈ c.args.toList, VR φ (ρ x) (ρ' x)) (h : quiet E m ρ (.call c) = some v) :
    (Builtin.len_ c.argTypes ty (c.args.map ρ')).run E.P w = .ok v w ∧ VR φ v v := by
  simp only [quiet, hc] at h
  split at h
  · rename_i t x hts hxs
    have e1 : c.argTypes[0]? = some t := by rw [← Array.getElem?_toList, hts]; rfl
    have e2 : (c.args.map ρ')[0]? = some (ρ' x) := by rw [Array.getElem?_map, ← Array.getElem?_toList, hxs]; rfl
    have hx := hρ x (by rw [hxs]; simp)
    simp only [Builtin.len_, e1, e2, Sem.run_bind]
    split at h
    · rename_i s ht hxe
      cases h
      rw [hxe] at hx; rw [hx.string_inv]
      exact ⟨by simp only [under_run hE ht, Result.andThen_ok]; rfl, .int _ _⟩
    · rename_i e a n cp ht hxe
      cases h
      rw [hxe] at hx
      refine ⟨?_, .int _ _⟩
      simp only [under_run hE ht, Result.andThen_ok]
      revert hx
      generalize ρ' x = y
      intro hx
      cases hx <;> rfl
    · rename_i n el ht
      cases h
      refine ⟨?_, .int _ _⟩
      simp only [under_run hE ht, Result.andThen_ok]
      cases ρ' x <;> rfl
    · rename_i kt et ht hxe
      cases h
      rw [hxe] at hx; rw [hx.mnil_inv]
      exact ⟨by simp only [under_run hE ht, Result.andThen_ok]; rfl, .int _ _⟩
    · rename_i kt et r ht hxe
      split at h
      · rename_i es hm
        cases h
        rw [hxe] at hx
        obtain ⟨b, hb, hφ⟩ := hx.map_inv
        rw [hb]
        obtain ⟨es', cl, h1, h2, _⟩ := map_at hR hm hφ
        refine ⟨?_, .int _ _⟩
        simp only [under_run hE ht, Result.andThen_ok, Sem.run_bind, getObj_map h1, Sem.run_pure]
        have := VRs.map_len h2
        simp [goInt, this]
      · cases h
    · cases h
  · cases h

/-- the quiet operations. -/
theorem quiet_sound (hE : EnvOk E G) (hR : Rel E.P G w0 φ m w) (o : Oper) (hρ : ∀ x ∈ o.op.operands.toList, VR φ (ρ x) (ρ' x)) {v : Value} (h : quiet E m ρ o.op = some v) :
    ∃ v', (execOp ρ' o).run E.P w = .ok (.value v') w ∧ VR φ v v' := by
  have ofV : ∀ {s : Sem Value} {v'}, s.run E.P w = .ok v' w → (do pure (.value (← s)) : Sem Next).run E.P w = .ok (.value v') w := by
    intro s v' hs
    simp only [Sem.run_bind, hs, Result.andThen_ok, Sem.run_pure]
  unfold execOp
  generalize o.type = ty at *
  cases ho : o.op with
  | move x => simp only [ho, quiet, Option.some.injEq] at h ⊢; subst h; exact ⟨_, rfl, hρ x (by simp [ho, Op.operands])⟩
  | assign x => simp only [ho, quiet, Option.some.injEq] at h ⊢; subst h; exact ⟨_, rfl, hρ x (by simp [ho, Op.operands])⟩
  | pick c a b =>
    simp only [ho, quiet] at h ⊢
    have hc := hρ c (by simp [ho, Op.operands])
    split at h
    · rename_i hb; cases h; rw [hb] at hc; rw [hc.bool_inv]; exact ⟨_, rfl, hρ a (by simp [ho, Op.operands])⟩
    · rename_i hb; cases h; rw [hb] at hc; rw [hc.bool_inv]; exact ⟨_, rfl, hρ b (by simp [ho, Op.operands])⟩
    · cases h
  | load t a =>
    simp only [ho, quiet] at h ⊢
    have ha := hρ a (by simp [ho, Op.operands])
    split at h
    · rename_i b o' hae
      rw [hae] at ha
      obtain ⟨b', hb, hφ⟩ := ha.ptr_inv
      obtain ⟨v', h1, h2⟩ := load_sound hE hR h hφ
      refine ⟨v', ofV ?_, h2⟩
      rw [hb]
      simpa [Instr.loadAt, Instr.sureAddr] using h1
    · cases h
  | nilCheck x =>
    simp only [ho, quiet] at h ⊢
    have hx := hρ x (by simp [ho, Op.operands])
    split at h
    · rename_i a hae
      cases h
      rw [hae] at hx
      obtain ⟨b', hb, hφ, hs⟩ := hx.ptr_any
      rw [hb]
      obtain ⟨ab, ao, as⟩ := a
      simp only at hφ hs
      subst hs
      exact ⟨_, rfl, .ptr _ hφ⟩
    · cases h
  | binOp op t x y u =>
    simp only [ho, quiet] at h ⊢
    obtain ⟨b1, b2⟩ := binOp_sound hE hR h (hρ x (by simp [ho, Op.operands])) (hρ y (by simp [ho, Op.operands])) x y
    exact ⟨v, ofV b1, b2⟩
  | unOp op t x =>
    simp only [ho, quiet] at h ⊢
    have hx := hρ x (by simp [ho, Op.operands])
    have hform : ρ' x = ρ x := by
      unfold unOp at h
      split at h
      · rename_i hxe; rw [hxe] at hx ⊢; exact hx.int_inv
      · rename_i hxe; rw [hxe] at hx ⊢; exact hx.bool_inv
      · cases h
    rw [hform]
    exact ⟨v, ofV (unOp_run h), unOp_plain h⟩
  | extract x i =>
    simp only [ho, quiet] at h ⊢
    have hx := hρ x (by simp [ho, Op.operands])
    split at h
    · rename_i l hxe
      rw [hxe] at hx
      obtain ⟨l', hl, hr⟩ := hx.tuple_inv
      rw [nth_eq] at h
      obtain ⟨v', h1, h2⟩ := hr.get i v h
      refine ⟨v', ofV ?_, h2⟩
      rw [hl]
      simp [Instr.extract, h1]
    · cases h
  | build t parts =>
    simp only [ho, quiet] at h ⊢
    have hp := parts_rel (φ := φ) (ρ := ρ) (ρ' := ρ') parts.toList (fun p hp => hρ p.2 (by
      simp only [ho, Op.operands]
      exact List.mem_map.2 ⟨p, hp, rfl⟩))
    have earr : (parts.map fun (i, x) => (i, ρ' x)).toList = parts.toList.map fun p => (p.1, ρ' p.2) := by simp
    split at h
    · rename_i z fs hz ht
      split at h
      · cases h
      · rename_i pl hpl
        split at h
        · cases h
        · rename_i l hl
          cases h
          obtain ⟨r', h1, h2⟩ := fill_sound _ _ _ _ _ hp.1 hp.2 ((VR.plain z (hE.zeros t z hz)).cells (φ := φ)) hl
          refine ⟨.agg ⟨r'⟩, ofV ?_, .agg h2⟩
          have hpl' : nth pl = fun i => (⟨pl⟩ : Array (Nat × Nat))[i]? := by funext i; rw [nth_eq]; simp
          have hzc : z.cells = ⟨z.cells.toList⟩ := rfl
          rw [hpl', ← hzc] at h1
          simp only [Instr.build, Sem.run_bind, zero_run hE hz, under_run hE ht, Result.andThen_ok, places_run_array hE fs pl hpl, earr, h1, Sem.run_pure]
    · rename_i z n e hz ht
      split at h
      · cases h
      · rename_i k hk
        split at h
        · cases h
        · rename_i l hl
          cases h
          obtain ⟨r', h1, h2⟩ := fill_sound _ _ _ _ _ hp.1 hp.2 ((VR.plain z (hE.zeros t z hz)).cells (φ := φ)) hl
          refine ⟨.agg ⟨r'⟩, ofV ?_, .agg h2⟩
          have hzc : z.cells = ⟨z.cells.toList⟩ := rfl
          rw [← hzc] at h1
          simp only [Instr.build, Sem.run_bind, zero_run hE hz, under_run hE ht, Result.andThen_ok, size_run hE hk, earr, h1, Sem.run_pure]
    · cases h
  | fieldAddr s x f =>
    simp only [ho, quiet] at h ⊢
    have hx := hρ x (by simp [ho, Op.operands])
    split at h
    · rename_i fs b o' hs hxe
      split at h
      · cases h
      · rename_i fd hf
        split at h
        · rename_i k hk
          cases h
          rw [hxe] at hx
          obtain ⟨v', h1, h2⟩ := q_fieldAddr (w := w) hE hs hf hk hx
          exact ⟨v', ofV h1, h2⟩
        · cases h
    · cases h
  | indexAddr t x i =>
    simp only [ho, quiet] at h ⊢
    have hx := hρ x (by simp [ho, Op.operands])
    have hi := hρ i (by simp [ho, Op.operands])
    split at h
    · rename_i e b o' len cp ki n ht hxe hie
      cases hb : Nat.blt n len with
      | false => simp [hb] at h
      | true =>
        simp only [hb, cond_true] at h
        split at h
        · rename_i k hk
          cases h
          rw [hxe] at hx; rw [hie] at hi; rw [hi.int_inv]
          obtain ⟨v', h1, h2⟩ := q_indexAddr_slice (w := w) (ki := ki) hE ht hk (by simpa [Nat.blt_eq] using hb) hx
          exact ⟨v', ofV h1, h2⟩
        · cases h
    · rename_i len e b o' ki n ht hxe hie
      cases hb : Nat.blt n len with
      | false => simp [hb] at h
      | true =>
        simp only [hb, cond_true] at h
        split at h
        · rename_i k hk
          cases h
          rw [hxe] at hx; rw [hie] at hi; rw [hi.int_inv]
          obtain ⟨v', h1, h2⟩ := q_indexAddr_array (w := w) (ki := ki) hE ht hk (by simpa [Nat.blt_eq] using hb) hx
          exact ⟨v', ofV h1, h2⟩
        · cases h
    · cases h
  | index t x i =>
    simp only [ho, quiet] at h ⊢
    have hx := hρ x (by simp [ho, Op.operands])
    have hi := hρ i (by simp [ho, Op.operands])
    split at h
    · rename_i s ki n ht hxe hie
      split at h
      · rename_i c hc
        cases h
        rw [hxe] at hx; rw [hie] at hi; rw [hi.int_inv, hx.string_inv]
        exact ⟨_, ofV (q_index_string hE ht hc), .int _ _⟩
      · cases h
    · rename_i len e l ki n ht hxe hie
      cases hb : Nat.blt n len with
      | false => simp [hb] at h
      | true =>
        have hlt : n < len := by simpa [Nat.blt_eq] using hb
        simp only [hb, cond_true] at h
        rw [hxe] at hx; rw [hie] at hi
        obtain ⟨l', hl, hr⟩ := hx.agg_inv
        rw [hi.int_inv, hl]
        split at h
        · rename_i d hk hd
          cases ha : isAggD d with
          | true => simp [ha] at h
          | false =>
            simp only [ha, cond_false] at h
            obtain ⟨v', h1, h2⟩ := q_index_cell (w := w) (ki := ki) hE ht hk hd ha hlt h hr
            exact ⟨v', ofV h1, h2⟩
        · rename_i k d hne hk hd
          cases ha : isAggD d with
          | true =>
            simp only [ha, cond_true, Option.some.injEq] at h
            subst h
            obtain ⟨v', h1, h2⟩ := q_index_agg (w := w) (ki := ki) hE ht hk hd ha hlt hr
            exact ⟨v', ofV h1, h2⟩
          | false => simp [ha] at h
        · cases h
    · cases h
  | field t x f =>
    simp only [ho, quiet] at h ⊢
    have hx := hρ x (by simp [ho, Op.operands])
    split at h
    · rename_i fs l ht hxe
      split at h
      · cases h
      · rename_i fd hf
        split at h
        · rename_i k d hk hd
          rw [hxe] at hx
          obtain ⟨l', hl, hr⟩ := hx.agg_inv
          rw [hl]
          obtain ⟨v', h1, h2⟩ := q_field (w := w) hE ht hf hk hd h hr
          exact ⟨v', ofV h1, h2⟩
        · cases h
    · cases h
  | slice t x lo hi mx =>
    rw [ho] at h hρ
    have hx := hρ x (by simp [Op.operands])
    have hlo : ∀ y, lo = some y → VR φ (ρ y) (ρ' y) := fun y hy => hρ y (by subst hy; simp [Op.operands])
    have hhi : ∀ y, hi = some y → VR φ (ρ y) (ρ' y) := fun y hy => hρ y (by subst hy; simp [Op.operands])
    obtain ⟨v', h1, h2⟩ := q_slice hE (w := w) hx hlo hhi mx h
    exact ⟨v', ofV h1, h2⟩
  | makeFunc fn first captured =>
    simp only [ho, quiet, Option.some.injEq] at h ⊢
    subst h
    have rel : ∀ (l : List Operand), (∀ x ∈ l, VR φ (ρ x) (ρ' x)) → VRs φ (l.map ρ) (l.map ρ') := by
      intro l
      induction l with
      | nil => intro _; exact .nil
      | cons y l ih => intro hl; exact .cons (hl y (by simp)) (ih fun z hz => hl z (by simp [hz]))
    have r1 := rel first.toList (fun x hx => hρ x (by simp only [ho, Op.operands, Array.toList_append]; exact List.mem_append.2 (.inl hx)))
    have r2 := rel captured.toList (fun x hx => hρ x (by simp only [ho, Op.operands, Array.toList_append]; exact List.mem_append.2 (.inr hx)))
    refine ⟨.func fn (first.map ρ') (captured.map ρ'), rfl, ?_⟩
    have e1 : first.map ρ' = ⟨first.toList.map ρ'⟩ := by apply Array.ext'; simp
    have e2 : captured.map ρ' = ⟨captured.toList.map ρ'⟩ := by apply Array.ext'; simp
    rw [e1, e2]
    exact .func fn r1 r2
  | convert s d x =>
    rw [ho] at h hρ
    obtain ⟨v', h1, h2⟩ := q_convert hE hR (hρ x (by simp [Op.operands])) h
    exact ⟨v', ofV h1, h2⟩
  | lookup t x i ok =>
    rw [ho] at h hρ
    obtain ⟨v', h1, h2⟩ := q_lookup hE hR (hρ x (by simp [Op.operands])) (hρ i (by simp [Op.operands])) h
    exact ⟨v', ofV h1, h2⟩
  | call c =>
    rw [ho] at h hρ
    have hargs : ∀ x ∈ c.args.toList, VR φ (ρ x) (ρ' x) := fun x hx => hρ x (by simp only [Op.operands, Call.operands, Array.toList_append]; exact List.mem_append.2 (.inr hx))
    cases hcal : c.callee with
    | value f => simp [quiet, hcal] at h
    | invoke r nm => simp [quiet, hcal] at h
    | builtin b =>
      simp only [resolve, hcal, Sem.run_bind, Sem.run_pure, Result.andThen_ok, invoke, builtin]
      cases b <;> first
        | (simp only [quiet, hcal] at h; cases h; done)
        | skip
      · obtain ⟨h1, h2⟩ := q_len hE hR ty hcal hargs h
        exact ⟨v, ofV h1, h2⟩
      · simp only [quiet, hcal] at h
        split at h
        · rename_i x y hxs
          split at h
          · rename_i k a k' b hxe hye
            cases h
            have hx := hargs x (by rw [hxs]; simp)
            have hy := hargs y (by rw [hxs]; simp)
            rw [hxe] at hx; rw [hye] at hy
            have earr : c.args.map ρ' = #[.int k a, .int k' b] := by apply Array.ext'; simp [hxs, hx.int_inv, hy.int_inv]
            refine ⟨_, ofV (v' := .int k (if b > a then b else a)) ?_, .int _ _⟩
            rw [earr]
            exact run_max_int2 w _ _ k k' a b
          · cases h
        · cases h
      · simp only [quiet, hcal] at h
        split at h
        · rename_i x y hxs
          split at h
          · rename_i k a k' b hxe hye
            cases h
            have hx := hargs x (by rw [hxs]; simp)
            have hy := hargs y (by rw [hxs]; simp)
            rw [hxe] at hx; rw [hye] at hy
            have earr : c.args.map ρ' = #[.int k a, .int k' b] := by apply Array.ext'; simp [hxs, hx.int_inv, hy.int_inv]
            refine ⟨_, ofV (v' := .int k (if b < a then b else a)) ?_, .int _ _⟩
            rw [earr]
            exact run_min_int2 w _ _ k k' a b
          · cases h
        · cases h
  | _ => simp [ho, quiet] at h

end
end Go.Ev
