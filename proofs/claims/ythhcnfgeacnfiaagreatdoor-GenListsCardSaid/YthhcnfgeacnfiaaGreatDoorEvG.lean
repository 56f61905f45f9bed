/- Part of a verified evaluator of the model's programs and of runs by it: EvKeep EvNeed EvLy EvArg EvChain EvPiece EvArgG. -/
import Derived.Test.YthhcnfgeacnfiaaGreatDoorEvF
import Derived.Test.YthhcnfgeacnfiaaGreatDoorEvE
namespace Go.Ev
set_option linter.unusedSimpArgs false
set_option linter.unusedVariables false
variable {E : Env}

/-! What stays as it is, told by the kind of a block: its elements' type, or that it is a map. -/
def mapTag : Nat := 1000000000
def otag : AObj → Nat
 | .cells _ _ e _ => e
 | .map _ => mapTag
 | .dead => mapTag + 1
/-- blocks of X, and those whose kind is none of T, stay. -/
def Keep (X : Nat → Prop) (T : List Nat) (m m' : Mem) : Prop := m.next ≤ m'.next ∧ ∀ b o, b < m.next → m.get b = some o → (X b ∨ otag o ∉ T) → m'.get b = some o

section
variable {X : Nat → Prop} {T T' : List Nat} {m m' m2 : Mem} {b e kd : Nat} {l : List Value}
theorem Keep.refl : Keep X T m m := ⟨Nat.le_refl _, fun _ _ _ h _ => h⟩
theorem Keep.trans (h : Keep X T m m') (k : Keep X T m' m2) : Keep X T m m2 := ⟨Nat.le_trans h.1 k.1, fun b o hb ho hx => k.2 b o (Nat.lt_of_lt_of_le hb h.1) (h.2 b o hb ho hx) hx⟩
theorem Keep.mono (h : Keep X T m m') (hT : ∀ t ∈ T, t ∈ T') : Keep X T' m m' := ⟨h.1, fun b o hb ho hx => h.2 b o hb ho (hx.imp id fun hn hm => hn (hT _ hm))⟩
theorem Keep.sub {X' : Nat → Prop} (h : Keep X' T m m') (hX : ∀ b, X b → X' b) : Keep X T m m' := ⟨h.1, fun b o hb ho hx => h.2 b o hb ho (hx.imp (hX b) id)⟩
theorem Keep.new (o : AObj) : Keep X T m (m.new o) := ⟨Nat.le_succ _, fun b o' hb ho _ => by rw [mget_new' _ _ hb]; exact ho⟩
theorem Keep.grow (h : Grow m m') : Keep X T m m' := ⟨h.1, fun b o hb ho _ => by rw [h.2 b hb]; exact ho⟩
theorem Keep.wrote {o : AObj} (hb : m.get b = some o) (hx : ¬ X b) (ht : otag o ∈ T) (ho : ∀ x, x ≠ b → m'.get x = m.get x) (hn : m'.next = m.next) : Keep X T m m' := by
 refine ⟨Nat.le_of_eq hn.symm, fun c o' hc h' hk => ?_⟩
 by_cases hcb : c = b
 ·subst hcb
  rw [hb] at h'
  cases h'
  exact absurd hk (not_or.2 ⟨hx, fun h => h ht⟩)
 ·rw [ho c hcb]; exact h'
theorem Row.get (h : Row m b l e kd) : ∃ o, m.get b = some o ∧ otag o = e := ⟨_, h.2.choose_spec.1, rfl⟩
theorem Keep.row (h : Row m b l e kd) (hx : ¬ X b) (ht : e ∈ T) (ho : ∀ x, x ≠ b → m'.get x = m.get x) (hn : m'.next = m.next) : Keep X T m m' := by
 obtain ⟨o, h1, h2⟩ := h.get
 exact Keep.wrote h1 hx (by rw [h2]; exact ht) ho hn
theorem Keep.app (h : Row m b l e kd) (hx : ¬ X b) (ht : e ∈ T) (ho : ∀ x, x ≠ b → x < m.next → m'.get x = m.get x) (hn : m.next ≤ m'.next) : Keep X T m m' := by
 obtain ⟨o, h1, h2⟩ := h.get
 refine ⟨hn, fun c o' hc h' hk => ?_⟩
 by_cases hcb : c = b
 ·subst hcb
  rw [h1] at h'
  cases h'
  exact absurd hk (not_or.2 ⟨hx, fun hh => hh (by rw [h2]; exact ht)⟩)
 ·rw [ho c hcb hc]; exact h'
theorem Row.stay (h : Row m b l e kd) (k : Keep X T m m') (hx : X b ∨ e ∉ T) : Row m' b l e kd := by
 obtain ⟨h1, c, h2, h3⟩ := h
 exact ⟨Nat.lt_of_lt_of_le h1 k.1, c, k.2 b _ h1 h2 hx, h3⟩

/-- a map's entries. -/
def Mp (m : Mem) (b : Nat) (es : List (Value × Value)) : Prop := b < m.next ∧ m.get b = some (.map es)
variable {es : List (Value × Value)}
theorem Mp.stay (h : Mp m b es) (k : Keep X T m m') (hx : X b ∨ mapTag ∉ T) : Mp m' b es := ⟨Nat.lt_of_lt_of_le h.1 k.1, k.2 b _ h.1 h.2 hx⟩
theorem Mp.keep (h : Mp m b es) (hn : m.next ≤ m'.next) (hg : m'.get b = m.get b) : Mp m' b es := ⟨Nat.lt_of_lt_of_le h.1 hn, hg.trans h.2⟩
theorem mp_new (m : Mem) : Mp (m.new (.map [])) m.next [] := ⟨Nat.lt_succ_self _, mget_new _ _⟩
theorem mp_put (h : Mp m b es) (es' : List (Value × Value)) : Mp (m.put b (.map es')) b es' := ⟨h.1, mget_put _ _ _⟩

/-- a slice of these cells, in a block that is none of X. -/
def Sl (X : Nat → Prop) (m : Mem) (v : Value) (e sz : Nat) (l : List Value) : Prop :=
 (v = .slice none 0 0 ∧ l = []) ∨ ∃ b cap r n, v = .slice (some ⟨b, 0, none⟩) n cap ∧ ¬ X b ∧ Row m b r e 0 ∧ r.length = cap * sz ∧ n ≤ cap ∧ l = r.take (n * sz)
variable {v : Value} {sz : Nat}
theorem Sl.stay (h : Sl X m v e sz l) (k : Keep X T m m') (hx : e ∉ T) : Sl X m' v e sz l := by
 rcases h with h | ⟨b, cap, r, n, h1, h2, h3, h4⟩
 ·exact .inl h
 ·exact .inr ⟨b, cap, r, n, h1, h2, h3.stay k (.inr hx), h4⟩
theorem Sl.keep (h : Sl X m v e sz l) (hn : m.next ≤ m'.next) (hg : ∀ b n c, v = .slice (some ⟨b, 0, none⟩) n c → m'.get b = m.get b) : Sl X m' v e sz l := by
 rcases h with h | ⟨b, cap, r, n, h1, h2, h3, h4⟩
 ·exact .inl h
 ·exact .inr ⟨b, cap, r, n, h1, h2, h3.keep hn (hg _ _ _ h1), h4⟩
theorem Sl.grow (h : Sl X m v e sz l) (g : Grow m m') : Sl X m' v e sz l := by
 rcases h with h | ⟨b, cap, r, n, h1, h2, h3, h4⟩
 ·exact .inl h
 ·exact .inr ⟨b, cap, r, n, h1, h2, h3.grow g, h4⟩
theorem Sl.sub {X' : Nat → Prop} (h : Sl X m v e sz l) (hx : ∀ b, b < m.next → ¬ X b → ¬ X' b) : Sl X' m v e sz l := by
 rcases h with h | ⟨b, cap, r, n, h1, h2, h3, h4⟩
 ·exact .inl h
 ·exact .inr ⟨b, cap, r, n, h1, hx b h3.1 h2, h3, h4⟩
theorem Sl.form (h : Sl X m v e sz l) (hsz : 0 < sz) : ∃ a n c, v = .slice a n c ∧ l.length = n * sz := by
 rcases h with ⟨rfl, rfl⟩ | ⟨b, cap, r, n, rfl, h2, h3, h4, h5, rfl⟩
 ·exact ⟨_, _, _, rfl, by simp⟩
 ·refine ⟨_, _, _, rfl, ?_⟩
  have : n * sz ≤ cap * sz := Nat.mul_le_mul_right _ h5
  rw [List.length_take]; omega
/-- an element of it. -/
theorem Sl.at (h : Sl X m v e sz l) {i : Nat} (hi : i < l.length) : ∃ b cap r n, v = .slice (some ⟨b, 0, none⟩) n cap ∧ ¬ X b ∧ Row m b r e 0 ∧ r.length = cap * sz ∧ n ≤ cap ∧ l = r.take (n * sz) ∧ r[i]? = l[i]? := by
 rcases h with ⟨rfl, rfl⟩ | ⟨b, cap, r, n, h1, h2, h3, h4, h5, rfl⟩
 ·simp at hi
 ·refine ⟨b, cap, r, n, h1, h2, h3, h4, h5, rfl, ?_⟩
  rw [List.length_take] at hi
  rw [List.getElem?_take_of_lt (by omega)]
/-- fewer of it. -/
theorem Sl.cut {b n cap : Nat} (h : Sl X m (.slice (some ⟨b, 0, none⟩) n cap) e sz l) {n' : Nat} (hn : n' ≤ n) : Sl X m (.slice (some ⟨b, 0, none⟩) n' cap) e sz (l.take (n' * sz)) := by
 rcases h with ⟨h, _⟩ | ⟨b', cap', r, k, h1, h2, h3, h4, h5, rfl⟩
 ·cases h
 ·cases h1
  refine .inr ⟨b, cap, r, n', rfl, h2, h3, h4, by omega, ?_⟩
  rw [List.take_take, Nat.min_eq_left (Nat.mul_le_mul_right _ hn)]
/-- the last of single cells. -/
theorem Sl.last {l : List Value} {w : Value} (h : Sl X m v e 1 (l ++ [w])) : ∃ b cap r, v = .slice (some ⟨b, 0, none⟩) (l.length + 1) cap ∧ ¬ X b ∧ Row m b r e 0 ∧ l.length + 1 ≤ cap ∧ r.length = cap ∧ r[l.length]? = some w ∧ Sl X m (.slice (some ⟨b, 0, none⟩) l.length cap) e 1 l := by
 have hl : l.length < (l ++ [w]).length := by simp
 obtain ⟨b, cap, r, n, rfl, h2, h3, h4, h5, h6, h7⟩ := h.at hl
 have hn : n = l.length + 1 := by
  have := congrArg List.length h6
  simp only [List.length_append, List.length_cons, List.length_nil, List.length_take, Nat.mul_one] at this h4
  omega
 subst hn
 refine ⟨b, cap, r, rfl, h2, h3, h5, by omega, by rw [h7]; simp, ?_⟩
 have := h.cut (n' := l.length) (by omega)
 rw [Nat.mul_one, List.take_left] at this
 exact this
theorem put_take' : ∀ (ws l : List Value) (o k : Nat), (put l o ws).take k = put (l.take k) o ws
 | [], l, o, k => rfl
 | w :: ws, l, o, k => by rw [put, put_take' ws, put, List.take_set]
theorem Row.uniq {r r' : List Value} (h : Row m b r e kd) (h' : Row m b r' e kd) : r' = r := by
 obtain ⟨_, c, g1, g2⟩ := h
 obtain ⟨_, c', g3, g4⟩ := h'
 rw [g1] at g3
 simp only [Option.some.injEq, AObj.cells.injEq, and_true] at g3
 obtain ⟨hl, rfl⟩ := g3
 apply List.ext_getElem?
 intro i
 by_cases hi : i < r'.length
 ·rw [← g4 i hi, g2 i (by omega)]
 ·rw [List.getElem?_eq_none (by omega), List.getElem?_eq_none (by omega)]
/-- cells of it are written. -/
theorem Sl.put {b n cap o : Nat} {r ws : List Value} (h : Sl X m (.slice (some ⟨b, 0, none⟩) n cap) e sz l) (hr : Row m b r e 0) (hr' : Row m' b (Ev.put r o ws) e 0) : Sl X m' (.slice (some ⟨b, 0, none⟩) n cap) e sz (Ev.put l o ws) := by
 rcases h with ⟨h, _⟩ | ⟨b', cap', r', k, h1, h2, h3, h4, h5, rfl⟩
 ·cases h
 ·cases h1
  obtain rfl := h3.uniq hr
  exact .inr ⟨b, cap, Ev.put r o ws, n, rfl, h2, hr', by rw [put_length]; exact h4, h5, (put_take' _ _ _ _).symm⟩
/-- a cell of it is written. -/
theorem Sl.stored {b n cap o : Nat} {r : List Value} {w : Value} (h : Sl X m (.slice (some ⟨b, 0, none⟩) n cap) e sz l) (hr : Row m b r e 0) (hr' : Row m' b (r.set o w) e 0) (ho : o < l.length) : Sl X m' (.slice (some ⟨b, 0, none⟩) n cap) e sz (l.set o w) := by
 rcases h with ⟨h, _⟩ | ⟨b', cap', r', k, h1, h2, h3, h4, h5, rfl⟩
 ·cases h
 ·cases h1
  obtain ⟨_, c, g1, g2⟩ := h3
  obtain ⟨_, c', g3, g4⟩ := hr
  rw [g1] at g3
  simp only [Option.some.injEq, AObj.cells.injEq, and_true, true_and] at g3
  obtain ⟨hl, rfl⟩ := g3
  have : r' = r := by
   apply List.ext_getElem? 
   intro i
   by_cases hi : i < r'.length
   ·rw [← g2 i hi, g4 i (by omega)]
   ·rw [List.getElem?_eq_none (by omega), List.getElem?_eq_none (by omega)]
  subst this
  exact .inr ⟨b, cap, r'.set o w, n, rfl, h2, hr', by rw [List.length_set]; exact h4, h5, (List.take_set).symm⟩
/-- more of it. -/
theorem Sl.app (h : Sl X m v e sz l) (hX : ∀ b, X b → b < m.next) {k bytes : Nat} {new : List Value} (hsz : 0 < sz) (hk0 : 0 < k) (hk : new.length = k * sz) (h1 : new.all oneCell = true)
  (hb : (l.length + k) * bytes ≤ 1000000000) (hb2 : l.length + k ≤ 1000000000) (hb3 : (l.length + k) * sz ≤ 1000000000) :
  ∃ v' m', effect.append m e sz bytes v k new = some (v', m') ∧ Sl X m' v' e sz (l ++ new) ∧ Keep X [e] m m' ∧
   (∀ b, b < m.next → (∀ n c, v ≠ .slice (some ⟨b, 0, none⟩) n c) → m'.get b = m.get b) ∧ (∀ b n c, v' = .slice (some ⟨b, 0, none⟩) n c → (∃ n' c', v = .slice (some ⟨b, 0, none⟩) n' c') ∨ b = m.next) ∧ (∃ b n c, v' = .slice (some ⟨b, 0, none⟩) n c ∧ b < m'.next) := by
 rcases h with ⟨rfl, rfl⟩ | ⟨b, cap, r, n, rfl, h2, h3, h4, h5, rfl⟩
 ·simp only [List.length_nil, Nat.zero_add] at hb hb2 hb3
  refine ⟨_, _, append_nil hk0 (by omega) hb hb2, .inr ⟨m.next, k, new, k, rfl, fun h => Nat.lt_irrefl _ (hX _ h), row_new _ _ _ _, hk, Nat.le_refl _, ?_⟩, Keep.new _, fun b hb _ => mget_new' _ _ hb, fun b n c hv => ?_, m.next, k, k, rfl, Nat.lt_succ_self _⟩
  ·rw [List.take_of_length_le (by omega)]; rfl
  ·cases hv; exact .inr rfl
 ·have hle : n * sz ≤ cap * sz := Nat.mul_le_mul_right _ h5
  have hn : n ≤ n * sz := Nat.le_mul_of_pos_right _ hsz
  rw [List.length_take, Nat.min_eq_left (by omega)] at hb hb2 hb3
  have c1 : (n + k) * bytes ≤ (n * sz + k) * bytes := Nat.mul_le_mul_right _ (by omega)
  have c3 : (n + k) * sz ≤ (n * sz + k) * sz := Nat.mul_le_mul_right _ (by omega)
  obtain ⟨wb', cap', m', r', e1, e2, e3, e4, e5, e6, e7, e8⟩ := append_row (bytes := bytes) h3 h4 h5 hk h1 (by omega) (by omega) (by omega)
  refine ⟨_, m', e1, .inr ⟨wb', cap', r', n + k, rfl, ?_, e2, e3, e4, e5.symm⟩, Keep.app h3 h2 List.mem_cons_self e6 e7, fun b' hb' hne => e6 b' (fun hh => hne n cap (by rw [hh])) hb', fun b' n' c' hv => ?_, wb', n + k, cap', rfl, e2.1⟩
  ·rcases e8 with rfl | rfl
   ·exact h2
   ·exact fun h => Nat.lt_irrefl _ (hX _ h)
  ·cases hv
   rcases e8 with rfl | rfl
   ·exact .inl ⟨_, _, rfl⟩
   ·exact .inr rfl
end

theorem g_finN {rs : List ResultVar} {Q : Value → Mem → Prop} {a : Act} {vs : List Value} (hr : Rs a rs vs) (hd : a.defers = []) (h : Q (one vs) a.m) : ret E [] .normal a (fin E rs Q) := eret_nil (fin_normal hd hr.h h)

/-- a function that answers nothing and defers nothing: called, and deferred. -/
theorem g_finD {rs : List ResultVar} {Q : Mem → Prop} {a : Act} {vs : List Value} (hr : Rs a rs vs) (hd : a.defers = []) (h : Q a.m) : ret E [] .normal a (finD E rs Q) := ⟨trivial, hd, ⟨vs, hr.h⟩, h⟩
theorem runsD_both {f : Nat} {fn : Func} {c : Code} {args : List Value} {m : Mem} {Q : Mem → Prop} (hk : knownOf E.known f args = none) (hf : E.funcs.get f = some fn) (hb : fn.body = some c)
  (hn : (Nat.ble args.length fn.ntmps && Nat.ble fn.ntmps 1000000000) = true) (h : wp E c [] (Act.start args fn.ntmps m) (finD E fn.results.toList Q)) : RunsD E f args m Q ∧ Runs E f args m fun _ m' => Q m' := by
 refine ⟨runsD_of hf hb hn (by unfold Act.start at h; exact h), runs_start hk hf hb hn ?_⟩
 refine wpC_mono h fun ex a ha => ?_
 obtain ⟨tm, n, ds, mm⟩ := a
 obtain ⟨h1, h2, ⟨vs, h3⟩, h4⟩ := ha
 cases h2
 exact ⟨h1, vs, h3, h4⟩

/-- a piece of code, apart from all that comes behind it. -/
theorem ewp_cut {x : Code} {k : List Kont} {a : Act} {Q : Ex → Act → Prop} (P : Act → Prop) (h : wp E x [] a fun ex a' => ex = .normal ∧ P a') (h2 : ∀ a', P a' → ret E k .normal a' Q) : wp E x k a Q :=
 wpC_mono h fun ex a' h => by obtain ⟨rfl, hp⟩ := h; exact h2 a' hp
theorem ewpO_cut0 {all l : List Oper} {k : List Kont} {a : Act} {Q : Ex → Act → Prop} (P : Act → Prop) (h : wpO E all l [] a fun ex a' => ex = .normal ∧ P a') (h2 : ∀ a', P a' → ret E k .normal a' Q) : wpO E all l k a Q := by
 obtain ⟨n, a', h1, h3⟩ := h
 exact ⟨n, a', h1, h2 a' h3.2⟩
/-- a test, apart from all that comes behind it. -/
theorem sel_cut {b : Bool} {x y : Code} {k : List Kont} {a : Act} {Q : Ex → Act → Prop} (P : Act → Prop) (h : Sel b (wp E x [] a fun ex a' => ex = .normal ∧ P a') (wp E y [] a fun ex a' => ex = .normal ∧ P a')) (h2 : ∀ a', P a' → ret E k .normal a' Q) : Sel b (wp E x k a Q) (wp E y k a Q) := by
 cases b
 ·exact .F (wpC_mono h.f fun ex a' h => by obtain ⟨rfl, hp⟩ := h; exact h2 a' hp)
 ·exact .T (wpC_mono h.t fun ex a' h => by obtain ⟨rfl, hp⟩ := h; exact h2 a' hp)

/-- a pointer against nil. -/
theorem n_ptrEq {m : Mem} {t e : Nat} {x : Option Addr} {r : Bool} (hu : Rf (E.under t) (some (.pointer e))) (hr : Rf x.isNone r) : Bn E m .eql t (.pointer x) (.pointer none) (.bool r) := by
 have hr := hr.h
 subst hr
 refine .mk ?_
 cases x <;> simp [binOp, isTok, binOp0, eqAny, eqPtr, hu.h]
theorem n_ptrNe {m : Mem} {t e : Nat} {x : Option Addr} {r : Bool} (hu : Rf (E.under t) (some (.pointer e))) (hr : Rf x.isSome r) : Bn E m .neq t (.pointer x) (.pointer none) (.bool r) := by
 have hr := hr.h
 subst hr
 refine .mk ?_
 cases x <;> simp [binOp, isTok, binOp0, eqAny, eqPtr, hu.h]

/-! Operations on rows and maps that are known. -/
section
variable {all l : List Oper} {k : List Kont} {a : Act} {Q : Ex → Act → Prop} {d : Nat} {t : TypeId} {pos : String} {af : Array Edge} {gd : Option (Nat × Bool)} {v : Value}
/-- a store into a row. -/
theorem g_stR {ts : TypeId} {x y : Operand} {b o e kd sz : Nat} {r rs : List Value} (hrow : Hy (Row a.m b r e kd)) (hx : Ev a x (.pointer (some ⟨b, o, none⟩))) (hy : Ev a y v) (hk : Rf (Nat.beq kd 1) false) (hs : Rf (E.size ts) (some sz)) (hr : Rf (cellsOf v) rs) (hl : Rf rs.length sz) (ho : Om (o + sz ≤ r.length)) (ha : Rf (rs.all oneCell) true)
  (h : Cn (∀ m', Row m' b (put r o rs) e kd → (∀ x, x ≠ b → m'.get x = a.m.get x) → m'.next = a.m.next → wpO E all l k (a.mem m') Q)) : wpO E all (⟨none, .store ts x y, t, pos, af, none⟩ :: l) k a Q := by
 obtain ⟨m', h1, h2, h3, h4⟩ := hrow.h.store (E := E) (t := ts) (o := o) (k := sz) (v := v) (by intro h; subst h; cases hk.h) hs.h hr.h hl.h ho.h ha.h
 exact ewpO_store rfl hx.h hy.h h1 (h.h m' h2 h3 h4)
/-- a part of a slice is made longer. -/
theorem g_app {X : Nat → Prop} {t1 t2 e : TypeId} {x y : Operand} {vx vy : Value} {i : TypeInfo} {z : Value} {du : TypeDesc} {kk : Nat} {l0 new : List Value}
  (hu : Rf (E.under t1) (some (.slice e))) (hu2 : Rf (E.under t2) (some du)) (hdu : Rf (rowD du) true) (hi : Rf (E.ti e) (some i)) (hz : Rf i.zero (some z)) (hzl : Rf (Nat.beq (cellsOf z).length i.size) true)
  (hx : Ev a x vx) (hy : Ev a y vy) (hd : Dn a d) (hin : Hy (effect.cellsIn a.m i.size vy = some (kk, new))) (hsl : Hy (Sl X a.m vx e i.size l0)) (hX : Hy (∀ b, X b → b < a.m.next)) (hsz : Rf (Nat.blt 0 i.size) true) (hk0 : Rf (Nat.blt 0 kk) true) (hk : Rf new.length (kk * i.size)) (h1 : Rf (new.all oneCell) true)
  (hb : Om (l0.length + kk ≤ 10000000)) (hb2 : Rf (Nat.ble i.bytes 100) true) (hb3 : Rf (Nat.ble i.size 100) true)
  (h : Cn (∀ v' m', Sl X m' v' e i.size (l0 ++ new) → Keep X [e] a.m m' → (∀ b, b < a.m.next → (∀ n c, vx ≠ .slice (some ⟨b, 0, none⟩) n c) → m'.get b = a.m.get b) → (∀ b n c, v' = .slice (some ⟨b, 0, none⟩) n c → (∃ n' c', vx = .slice (some ⟨b, 0, none⟩) n' c') ∨ b = a.m.next) → (∃ b n c, v' = .slice (some ⟨b, 0, none⟩) n c ∧ b < m'.next) →
   wpO E all l k ((a.mem m').upd d v') Q)) : wpO E all (⟨some d, .call ⟨.builtin .append, #[x, y], #[t1, t2]⟩, t, pos, af, none⟩ :: l) k a Q := by
 obtain ⟨v', m', e1, e2, e3, e4, e5, e6⟩ := hsl.h.app hX.h (bytes := i.bytes) (by simpa [Nat.blt_eq] using hsz.h) (by simpa [Nat.blt_eq] using hk0.h) hk.h h1.h (Nat.mul_le_mul hb.h (Nat.le_of_ble_eq_true hb2.h)) (Nat.le_trans hb.h (by decide)) (Nat.mul_le_mul hb.h (Nat.le_of_ble_eq_true hb3.h))
 exact ewpO_append rfl rfl rfl rfl hu.h hu2.h hdu.h hi.h hz.h hzl.h hx.h hy.h hin.h e1 hd.h (h.h v' m' e2 e3 e4 e5 e6)
/-- a look into a map. -/
theorem g_lookup {ts kt et : TypeId} {x y : Operand} {ok : Bool} {r : Nat} {es : List (Value × Value)} {key z w : Value} {f : Option Value} (hu : Rf (E.under ts) (some (.map kt et))) (hx : Ev a x (.map (some r))) (hy : Ev a y key) (hm : Hy (a.m.get r = some (.map es))) (hz : Rf (E.zero et) (some z)) (hf : Hy (quiet.find E a.m kt key es = some f))
  (hw : Rf (match f with | some v => (bif ok then .tuple ⟨[v, .bool true]⟩ else v) | none => (bif ok then .tuple ⟨[z, .bool false]⟩ else z)) w) (hd : Dn a d) (h : wpO E all l k (a.upd d w) Q) : wpO E all (⟨some d, .lookup ts x y ok, t, pos, af, none⟩ :: l) k a Q := by
 refine ewpO_quiet (v := w) rfl ?_ hd.h h
 have hw := hw.h
 subst hw
 simp only [quiet, hu.h, hx.h, hm.h, hz.h, hy.h, hf.h]
 cases f <;> rfl
/-- an element of an array that is a value. -/
theorem g_indexV {ts e len j : Nat} {x y : Operand} {vs : List Value} {kd : IntKind} {du : TypeDesc} (hu : Rf (E.under ts) (some (.array len e))) (hx : Ev a x (.agg ⟨vs⟩)) (hi : Ev a y (.int kd (Int.ofNat j))) (hj : Om (j < len)) (hs : Rf (E.size e) (some 1)) (hdu : Rf (E.under e) (some du)) (hag : Rf (isAggD du) false) (hv : Hy (vs[j]? = some v)) (hd : Dn a d)
  (h : wpO E all l k (a.upd d v) Q) : wpO E all (⟨some d, .index ts x y, t, pos, af, none⟩ :: l) k a Q := by
 refine ewpO_quiet rfl ?_ hd.h h
 have nthg : ∀ (l : List Value) (i : Nat), nth l i = l[i]? := by
  intro l
  induction l with
  | nil => intro i; cases i <;> rfl
  | cons x l ih => intro i; cases i with
   | zero => rfl
   | succ i => simpa [nth] using ih i
 simp only [quiet, hu.h, hx.h, hi.h, show Nat.blt j len = true by simpa [Nat.blt_eq] using hj.h, cond_true, hs.h, hdu.h, hag.h, cond_false, nthg, hv.h]
/-- a function value. -/
theorem g_makeFunc {f : Go.Fn} {first captured : Array Operand} {vs ws : List Value} (h1 : Evl a first.toList vs) (h2 : Evl a captured.toList ws) (hd : Dn a d) (h : Cn (wpO E all l k (a.upd d (.func f ⟨vs⟩ ⟨ws⟩)) Q)) : wpO E all (⟨some d, .makeFunc f first captured, t, pos, af, none⟩ :: l) k a Q := by
 refine ewpO_quiet rfl ?_ hd.h h.h
 simp only [quiet, h1.h.map, h2.h.map]
/-- an entry of a map is laid. -/
theorem g_update {ts kt et : TypeId} {x y w : Operand} {r : Nat} {es es' : List (Value × Value)} {key z : Value} (hu : Rf (E.under ts) (some (.map kt et))) (hx : Ev a x (.map (some r))) (hy : Ev a y key) (hz : Ev a w z) (hm : Hy (Mp a.m r es)) (hf : Hy (effect.upd E a.m kt key z es = some es'))
  (h : Cn (∀ m', Mp m' r es' → (∀ x, x ≠ r → m'.get x = a.m.get x) → m'.next = a.m.next → wpO E all l k (a.mem m') Q)) : wpO E all (⟨none, .mapUpdate ts x y w, t, pos, af, none⟩ :: l) k a Q := by
 refine ewpO_effect0 (v := undef) (m' := a.m.put r (.map es')) rfl rfl rfl ?_ (h.h _ (mp_put hm.h es') (fun x hx => mget_put' _ _ _ hx) rfl)
 simp only [effect, hu.h, hx.h, hm.h.2, hy.h, hz.h, hf.h]
end
end Go.Ev

namespace Go.Ev
set_option linter.unusedSimpArgs false
set_option linter.unusedVariables false
variable {E : Env}

/-! Regions that draw their order, with operations to be asked again. -/
def planIs (E : Env) (ops : List Oper) (idx : List Nat) (needs : List (Nat × Nat)) : Bool := match plan E ops with
 | some (l, n) => decide ((l.map fun e => e.i) = idx) && decide (n = needs)
 | none => false

theorem nth_is {α : Type} : ∀ (l : List α) (i : Nat), nth l i = l[i]?
 | [], i => by cases i <;> rfl
 | x :: l, 0 => rfl
 | x :: l, i + 1 => by simpa [nth] using nth_is l i
theorem filterMap_ents {ops : List Oper} : ∀ {l : List Ent}, (∀ e ∈ l, nth ops e.i = some e.o) → (l.map fun e => e.i).filterMap (nth ops) = l.map fun e => e.o
 | [], _ => rfl
 | e :: l, h => by
  rw [List.map_cons, List.filterMap_cons, h e List.mem_cons_self, filterMap_ents fun x hx => h x (List.mem_cons_of_mem _ hx)]; rfl
theorem plan_ops {ops : List Oper} {l : List Ent} {needs : List (Nat × Nat)} (hp : plan E ops = some (l, needs)) : (l.map fun e => e.i).filterMap (nth ops) = l.map fun e => e.o := by
 letI : Sym := ⟨fun _ => none⟩
 obtain ⟨hpl, _⟩ := plan_some hp
 exact filterMap_ents fun e he => by rw [nth_is]; exact (hpl.at_ e he).1

/-- an operation at a stage's memory: is it what it was? -/
def againO (E : Env) (all : List Oper) (o : Oper) (a a' : Act) (m : Mem) : Bool :=
 bif wanted a all o then
  bif isAl o.op then sameObj (a'.m.get a.m.next) (m.get a.m.next)
  else match quiet E m a.eval o.op, o.dst with
   | some _, none => true
   | some v, some d => sameV v (a'.tmp d)
   | none, _ => false
 else true
inductive Need1 (E : Env) (all : List Oper) : Option Oper → Option Act → Option Act → Option Act → Prop where
 | mk {o : Oper} {a a' b : Act} (h : againO E all o a a' b.m = true) : Need1 E all (some o) (some a) (some a') (some b)
def NeedsP (E : Env) (all lops : List Oper) (tr : List Act) : List (Nat × Nat) → Prop
 | [] => True
 | q :: r => Need1 E all (nth lops q.1) (nth tr q.1) (nth tr (q.1 + 1)) (nth tr q.2) ∧ NeedsP E all lops tr r

/-- one by one, the states kept. -/
def wpN (E : Env) (all : List Oper) : List Oper → List Act → List Kont → Act → (Ex → Act → Prop) → (List Act → Prop) → Prop
 | [], tr, k, a, Q, N => N (tr.reverse ++ [a]) ∧ ret E k .normal a Q
 | o :: l, tr, k, a, Q, N => wpO E all [o] [] a fun ex a' => ex = .normal ∧ wpN E all l (a :: tr) k a' Q N

section
variable {all : List Oper} {k : List Kont} {Q : Ex → Act → Prop} {N : List Act → Prop}
theorem wpN_trace : ∀ (l : List Ent) (tr : List Act) (a : Act), wpN E all (l.map fun e => e.o) tr k a Q N → ∃ n tr' a', trace E (call E n) all l a = some tr' ∧ last tr' = some a' ∧ N (tr.reverse ++ tr') ∧ ret E k .normal a' Q
 | [], tr, a, h => ⟨0, [a], a, rfl, rfl, h.1, h.2⟩
 | e :: l, tr, a, h => by
  obtain ⟨n, a1, h1, h2⟩ := h
  obtain ⟨-, h3⟩ := h2
  obtain ⟨n2, tr', a2, e1, e2, e3, e4⟩ := wpN_trace l (a :: tr) a1 h3
  simp only [opers] at h1
  split at h1
  ·cases h1
  ·rename_i kk a1' hs
   cases h1
   refine ⟨max n n2, a :: tr', a2, ?_, ?_, ?_, e4⟩
   ·simp only [trace, stepOp_mono (cle (Nat.le_max_left n n2)) hs, kind_ok hs, cond_true, trace_mono (cle (Nat.le_max_right n n2)) e1]
   ·cases tr' with
    | nil => cases e2
    | cons x xs => exact e2
   ·simpa using e3

theorem needs_all {l : List Ent} {tr : List Act} : ∀ (needs : List (Nat × Nat)), NeedsP E all (l.map fun e => e.o) tr needs →
  needs.all (fun q => match nth l q.1, nth tr q.1, nth tr (q.1 + 1), nth tr q.2 with | some e, some a, some a', some b => again E all e a a' b.m | _, _, _, _ => false) = true
 | [], _ => rfl
 | q :: r, ⟨h1, h2⟩ => by
  rw [List.all_cons, needs_all r h2, Bool.and_true]
  generalize hx : nth (l.map fun e => e.o) q.1 = x at h1
  generalize hy : nth tr q.1 = y at h1
  generalize hz : nth tr (q.1 + 1) = z at h1
  generalize hw : nth tr q.2 = w at h1
  cases h1 with
  | mk h =>
   rw [nth_is, List.getElem?_map, Option.map_eq_some_iff] at hx
   obtain ⟨e, he, rfl⟩ := hx
   rw [nth_is l, he]
   exact h

/-- a region that draws. -/
theorem g_regionN {i : Nat} {ops : Array Oper} {a : Act} (idx : List Nat) (needs : List (Nat × Nat)) {lops : List Oper} (hp : Kr (planIs E ops.toList idx needs = true)) (hl : Rf (idx.filterMap (nth ops.toList)) lops) (h : wpN E ops.toList lops [] k a Q fun tr => NeedsP E ops.toList lops tr needs) : wp E (.region i ops true) k a Q := by
 have hp := hp.h
 unfold planIs at hp
 split at hp
 ·rename_i l n hpl
  simp only [Bool.and_eq_true] at hp
  obtain ⟨hi, hn⟩ := hp
  have hi := of_decide_eq_true hi
  have hn := of_decide_eq_true hn
  subst hi
  subst hn
  have hl := hl.h
  subst hl
  rw [plan_ops hpl] at h
  obtain ⟨m, tr, a', h1, h2, h3, h4⟩ := wpN_trace l [] a h
  refine ⟨m + 1, .normal, a', ?_, h4⟩
  simp only [code]
  unfold drawn
  rw [hpl]
  simp only [h1]
  have := needs_all (E := E) (all := ops.toList) (l := l) (tr := tr) n (by simpa using h3)
  simp only [h2]
  have key : ∀ b, b = true → (match (bif b then some a' else none : Option Act) with | none => none | some a' => some (Ex.normal, a')) = some (Ex.normal, a') := by rintro _ rfl; rfl
  exact key _ this
 ·cases hp

theorem wpN_cons {a : Act} {o : Oper} {l : List Oper} {tr : List Act} (h : wpO E all [o] [] a fun ex a' => ex = .normal ∧ wpN E all l (a :: tr) k a' Q N) : wpN E all (o :: l) tr k a Q N := h
theorem g_next {a : Act} {l : List Oper} {tr : List Act} (h : wpN E all l tr k a Q N) : ret E [] .normal a fun ex a' => ex = .normal ∧ wpN E all l tr k a' Q N := ⟨rfl, h⟩
theorem g_last {a : Act} {tr : List Act} (hN : Cn (N (tr.reverse ++ [a]))) (h : ret E k .normal a Q) : wpN E all [] tr k a Q N := ⟨hN.h, h⟩
theorem g_wpN {a : Act} {l : List Oper} {tr : List Act} (h : wpN E all l tr k a Q N) : wpN E all l tr k a Q N := h
end

theorem eval_mem (a : Act) (m : Mem) : (a.mem m).eval = a.eval := by
 funext x
 cases x with
 | tmp t => exact tmp_mem a m t
 | const v => rfl
 | global g => rfl
 | func f => rfl
theorem wanted_mem (a : Act) (m : Mem) (all : List Oper) (o : Oper) : wanted (a.mem m) all o = wanted a all o := by
 unfold wanted
 simp only [tmp_mem]

theorem still {op : Op} (h : (!(isEff E op) && !(isAl op)) = true) (m : Mem) (ρ : Rho) : allocs E m ρ op = none ∧ effect E m ρ op = none := by
 simp only [Bool.and_eq_true, Bool.not_eq_true'] at h
 obtain ⟨h1, h2⟩ := h
 cases op <;> first | (simp [isAl] at h2; done) | (simp [isEff] at h1; done) | exact ⟨rfl, rfl⟩ | skip
 case convert s d x =>
  refine ⟨rfl, ?_⟩
  simp only [isEff] at h1
  simp only [effect]
  split at h1
  ·cases h1
  ·rename_i hno
   split
   ·split
    ·rename_i h3 h4; exact absurd h4 (hno _)
    ·rfl
   ·split
    ·rename_i h3 h4; exact absurd h4 (hno _)
    ·rfl
   ·rfl
 case call c =>
  refine ⟨rfl, ?_⟩
  simp only [isEff] at h1
  simp only [effect]
  split at h1
  ·rename_i hc; rw [hc]
  ·rename_i hc; rw [hc]
  ·rename_i hc; rw [hc]
  ·cases h1

/-- may a value be told to be itself? -/
def plain0 : Value → Bool
 | .bool _ | .int .. | .string _ | .pointer none | .pointer (some ⟨_, _, none⟩) | .slice none _ _ | .slice (some ⟨_, _, none⟩) _ _ | .map _ => true
 | _ => false
def plain1 : Value → Bool
 | .agg ⟨l⟩ => l.all plain0
 | v => plain0 v
theorem bytes_self (s : List UInt8) : bytesEq s s = true := by rw [beqb]; exact decide_eq_true rfl
theorem same1_self {v : Value} (h : plain0 v = true) : sameCell1 v v = true := by
 cases v with
 | bool b => simp [sameCell1, sameCell]
 | int k n => simp [sameCell1, sameCell]
 | string s => obtain ⟨⟨s⟩⟩ := s; simp [sameCell1, sameCell, bytes_self]
 | map r => cases r <;> simp [sameCell1, sameCell]
 | pointer a =>
  cases a with
  | none => rfl
  | some a =>
   obtain ⟨b, o, sp⟩ := a
   cases sp with
   | none => simp [sameCell1, sameCell]
   | some s => cases h
 | slice a n c =>
  cases a with
  | none => simp [sameCell1, sameCell]
  | some a =>
   obtain ⟨b, o, sp⟩ := a
   cases sp with
   | none => simp [sameCell1, sameCell]
   | some s => cases h
 | _ => cases h
theorem sames1_self : ∀ {l : List Value}, l.all plain0 = true → sameCells1 l l = true
 | [], _ => rfl
 | a :: l, h => by
  rw [List.all_cons, Bool.and_eq_true] at h
  rw [sameCells1, same1_self h.1, sames1_self h.2]; rfl
theorem sameV_self {v : Value} (h : plain1 v = true) : sameV v v = true := by
 cases v with
 | agg l => obtain ⟨l⟩ := l; exact sames1_self h
 | bool b => exact same1_self (v := .bool b) h
 | int k n => exact same1_self (v := .int k n) h
 | string s => exact same1_self (v := .string s) h
 | map r => exact same1_self (v := .map r) h
 | pointer a => exact same1_self (v := .pointer a) h
 | slice a n c => exact same1_self (v := .slice a n c) h
 | _ => cases h

theorem again_of {all : List Oper} {o : Oper} {a a' : Act} {m : Mem} {d : Nat} {v : Value} (hq : Rf (!(isEff E o.op) && !(isAl o.op)) true) (hd : Rf o.dst (some d)) (hv : Ev a' (.tmp d) v) (hs : Rf (plain1 v) true)
  (h : wpO E all [o] [] (a.mem m) fun ex a2 => a2.tmp d = v) : againO E all o a a' m = true := by
 obtain ⟨n, a2, h1, h2⟩ := h
 have h2 : a2.tmp d = v := h2
 have hv : a'.tmp d = v := hv.h
 have hd := hd.h
 obtain ⟨n1, n2⟩ := still hq.h m a.eval
 have hal : isAl o.op = false := by
  have := hq.h
  simp only [Bool.and_eq_true, Bool.not_eq_true'] at this
  exact this.2
 have hef : isEff E o.op = false := by
  have := hq.h
  simp only [Bool.and_eq_true, Bool.not_eq_true'] at this
  exact this.1
 unfold againO
 cases hw : wanted a all o with
 | false => rfl
 | true =>
  simp only [cond_true, hal, cond_false]
  simp only [opers] at h1
  split at h1
  ·cases h1
  ·rename_i kk a1 hst
   cases h1
   unfold stepOp at hst
   rw [wanted_mem, hw, cond_true] at hst
   unfold oper plainOp at hst
   have e1 : (a.mem m).m = m := m_mem a m
   rw [eval_mem, e1] at hst
   cases hqq : quiet E m a.eval o.op with
   | none =>
    simp only [hqq, n1, n2] at hst
    split at hst
    ·rename_i c hop
     rw [hop] at hef
     split at hst
     ·cases hst
     ·rename_i g args ht
      unfold target at ht
      simp only [isEff] at hef
      split at ht
      ·rename_i hc; rw [hc] at hef; cases hef
      ·cases ht
    ·rename_i c hop
     rw [hop] at hef
     cases hef
    ·cases hst
   | some w =>
    simp only [hqq, hd] at hst ⊢
    have hput : a2.tmp d = w := by
     unfold Act.put at hst
     split at hst
     ·cases hst
     ·rename_i a3 h3
      simp only [Option.some.injEq, Prod.mk.injEq] at hst
      obtain ⟨-, rfl⟩ := hst
      cases hb : Nat.blt d (a.mem m).n with
      | false => simp only [hb, cond_false] at h3; cases h3
      | true =>
       simp only [hb, cond_true, Option.some.injEq] at h3
       subst h3
       unfold Act.tmp
       simp only
       rw [Tree.get_set_same _ _ _ _ Nat.lt_two_pow_self]
    rw [hv, ← h2, hput]
    rw [← hput, h2]
    exact sameV_self hs.h
attribute [irreducible] wpN
end Go.Ev

namespace Go.Ev
set_option linter.unusedSimpArgs false
set_option linter.unusedVariables false
open Go
section
variable {E : Env} {m m' : Mem} {X X' : Nat → Prop} {T T' : List Nat} {v : Value} {e sz bytes : Nat} {l : List Value}
theorem Keep.all (k : Keep (fun c => c < m.next) T m m') : Keep X' T' m m' := ⟨k.1, fun b o hb ho _ => k.2 b o hb ho (.inl hb)⟩
theorem Sl.cells (h : Sl X m v e sz l) (hsz : 0 < sz) {n : Nat} (hl : l.length = n * sz) : effect.cellsIn m sz v = some (n, l) := by
 rcases h with ⟨rfl, rfl⟩ | ⟨b, cap, r, k, rfl, h2, h3, h4, h5, rfl⟩
 ·have : n = 0 := by
   rcases Nat.eq_zero_or_pos n with h | h
   ·exact h
   ·have := Nat.mul_pos h hsz
    simp at hl; omega
  subst this; rfl
 ·have hle : k * sz ≤ cap * sz := Nat.mul_le_mul_right _ h5
  rw [List.length_take, Nat.min_eq_left (by omega)] at hl
  obtain rfl : k = n := Nat.eq_of_mul_eq_mul_right hsz hl
  exact cellsIn_row h3 (by omega) rfl
/-- nothing more of it. -/
theorem Sl.app0 (h : Sl X m v e sz l) : ∃ m', effect.append m e sz bytes v 0 [] = some (v, m') ∧ (∀ c, m'.get c = m.get c) ∧ m'.next = m.next := by
 rcases h with ⟨rfl, rfl⟩ | ⟨b, cap, r, n, rfl, h2, ⟨h3, c, h4, h5⟩, h6, h7, rfl⟩
 ·refine ⟨m, ?_, fun _ => rfl, rfl⟩
  simp only [effect.append, Nat.zero_mul]; rfl
 ·refine ⟨m.put b (.cells r.length c e 0), ?_, fun c' => ?_, rfl⟩
  ·simp only [effect.append, h4, show Nat.beq 0 1 = false from rfl, cond_false, Nat.add_zero, Nat.ble_eq_true_of_le h7, cond_true, storeFrom]
  ·by_cases hc : c' = b
   ·subst hc; rw [mget_put, h4]
   ·exact mget_put' _ _ _ hc
end
section
variable {E : Env} {all l : List Oper} {k : List Kont} {a : Act} {Q : Ex → Act → Prop} {d : Nat} {t : TypeId} {pos : String} {af : Array Edge}
/-- a slice is made longer by nothing. -/
theorem g_app0 {X : Nat → Prop} {t1 t2 e : TypeId} {x y : Operand} {vx vy : Value} {i : TypeInfo} {z : Value} {du : TypeDesc} {l0 : List Value}
  (hu : Rf (E.under t1) (some (.slice e))) (hu2 : Rf (E.under t2) (some du)) (hdu : Rf (rowD du) true) (hi : Rf (E.ti e) (some i)) (hz : Rf i.zero (some z)) (hzl : Rf (Nat.beq (cellsOf z).length i.size) true)
  (hx : Ev a x vx) (hy : Ev a y vy) (hd : Dn a d) (hin : Hy (effect.cellsIn a.m i.size vy = some (0, []))) (hsl : Hy (Sl X a.m vx e i.size l0))
  (h : Cn (∀ m', (∀ c, m'.get c = a.m.get c) → m'.next = a.m.next → wpO E all l k ((a.mem m').upd d vx) Q)) : wpO E all (⟨some d, .call ⟨.builtin .append, #[x, y], #[t1, t2]⟩, t, pos, af, none⟩ :: l) k a Q := by
 obtain ⟨m', e1, e2, e3⟩ := hsl.h.app0 (bytes := i.bytes)
 exact ewpO_append rfl rfl rfl rfl hu.h hu2.h hdu.h hi.h hz.h hzl.h hx.h hy.h hin.h e1 hd.h (h.h m' e2 e3)
/-- an operation that was not wanted, asked again. -/
theorem again_skip {a' : Act} {m : Mem} {v : Value} {op : Op} {dst : Option Nat} {j dj : Nat} {b' : Bool} (h1 : Rf (gdst all j) (some dj)) (h2 : Ev a (.tmp dj) v) (h3 : Rf (isB v b') false) : againO E all ⟨dst, op, t, pos, af, some (j, b')⟩ a a' m = true := by
 have hw := wanted_isB (dst := dst) (op := op) (t := t) (pos := pos) (af := af) h1.h h2.h h3.h
 unfold againO
 rw [hw]; rfl
/-- a string as bytes. -/
theorem g_strBytes {s ty e : TypeId} {x : Operand} {du : TypeDesc} {r : List UInt8} {L : List Value} (hs : Rf (E.under s) (some du)) (ht : Rf (E.under ty) (some (.slice e))) (hu : Rf (E.under e) (some (.int .u8))) (h1 : Rf (size1 E e) true) (hx : Ev a x (.string ⟨⟨r⟩⟩)) (hL : Hy (cellsOfBytes r = L)) (hl : Om (L.length ≤ 1000000000)) (hd : Dn a d)
  (h : Cn (wpO E all l k ((a.mem (a.m.new (.cells L.length (ofListFrom .leaf 0 L) e 2))).upd d (.slice (some ⟨a.m.next, 0, none⟩) r.length r.length)) Q)) : wpO E all (⟨some d, .convert s ty x, t, pos, af, none⟩ :: l) k a Q := by
 have hL := hL.h
 subst hL
 refine ewpO_effect rfl ?_ ?_ ?_ hd.h h.h
 ·have hx := hx.h
  have hs := hs.h
  have ht := ht.h
  cases du <;> simp only [quiet, hs, ht, hx]
 ·simp only [allocs]
 ·simp only [effect, hs.h, ht.h, hx.h, hu.h, h1.h, cond_true, newCells, Nat.ble_eq_true_of_le hl.h, withAddr]
end
end Go.Ev

namespace Go.Ev
set_option linter.unusedSimpArgs false
open Go.RowKit
set_option linter.unusedVariables false

/-- a memory that holds the cells of one argument, and nothing else; G variables of packages stand ahead of it, unlooked at. -/
def argMem (G off : Nat) (l : List Value) (e : TypeId) : Mem := { t := (Tree.leaf : Tree AObj).set (G + 1) G (.cells (off + l.length) (ofListFrom .leaf off l) e 1), next := G + 1 }

def argPhi (G b' : Nat) : Phi := ⟨fun b => if b < G then some b else if b = G then some b' else none, fun _ => 0⟩

theorem argMem_get (G off : Nat) (l : List Value) (e : TypeId) : (argMem G off l e).get G = some (.cells (off + l.length) (ofListFrom .leaf off l) e 1) := Tree.get_set_same _ _ _ _ Nat.lt_two_pow_self
theorem argMem_other (G off : Nat) (l : List Value) (e : TypeId) {b : Nat} (h : b ≠ G) : (argMem G off l e).get b = none := by
 show (Tree.set (G + 1) .leaf G _).get b = none
 rw [Tree.get_set_other _ _ _ _ _ (fun h' => h h'.symm), Tree.get_leaf]

theorem argMem_rel [Sym] {P : Program} {G off b' : Nat} {l : List Value} {e : TypeId} {w : World} {c : Array Value} {fr : Nat × Nat} (hG : G ≤ w.heap.size) (hw : w.heap[b']? = some (.cells c e fr)) (hsz : off + l.length ≤ c.size)
  (hc : ∀ i, i < l.length → c[off + i]? = l[i]?) (hp : l.all plainCell = true) : Rel P G w (argPhi G b') (argMem G off l e) w where
 glob := fun g hg => if_pos hg
 lt := fun b x h => by
  have h' : (if b < G then some b else if b = G then some b' else none) = some x := h
  split at h'
  ·cases h'; exact ⟨Nat.lt_succ_of_lt (by assumption), by omega⟩
  ·split at h'
   ·cases h'
    rename_i hb
    subst hb
    exact ⟨Nat.lt_succ_self _, (Array.getElem?_eq_some_iff.1 hw).1⟩
   ·cases h'
 obj := fun b o x ho h => by
  by_cases hb : b = G
  ·subst hb
   rw [argMem_get] at ho
   cases ho
   have h' : (if b < b then some b else if b = b then some b' else none) = some x := h
   rw [if_neg (Nat.lt_irrefl _), if_pos rfl] at h'
   cases h'
   refine ⟨c, fr, ⟨_, hw, fun _ => rfl⟩, hsz, fun i hi hs => ?_, fun h => absurd h (by decide), fun h => absurd rfl h⟩
   have hs' := hs rfl
   rw [get_ofList] at hs' ⊢
   by_cases hio : off ≤ i ∧ i < off + l.length
   ·rw [if_pos hio]
    have hlt : i - off < l.length := by omega
    have e1 : l[i - off]? = some l[i - off] := List.getElem?_eq_getElem hlt
    have := hc (i - off) hlt
    rw [show off + (i - off) = i by omega, e1] at this
    exact ⟨_, _, e1, this, VR.plainCell _ (List.all_eq_true.1 hp _ (List.getElem_mem hlt))⟩
   ·rw [if_neg hio, Tree.get_leaf] at hs'
    cases hs'
  ·rw [argMem_other _ _ _ _ hb] at ho; cases ho
 inj := fun b₁ b₂ o₁ o₂ x h1 h2 _ _ _ _ => by
  have : ∀ b o, (argMem G off l e).get b = some o → b = G := fun b o h => by
   by_cases hb : b = G
   ·exact hb
   ·rw [argMem_other _ _ _ _ hb] at h; cases h
  rw [this _ _ h1, this _ _ h2]
 own := fun b o x ho hr _ => by
  by_cases hb : b = G
  ·subst hb; rw [argMem_get] at ho; cases ho; cases hr
  ·rw [argMem_other _ _ _ _ hb] at ho; cases ho
 fresh := fun b o ho => by
  by_cases hb : b = G
  ·subst hb; exact Nat.lt_succ_self _
  ·rw [argMem_other _ _ _ _ hb] at ho; cases ho
 below := Below.refl _ _

/-- a symbolic run over one argument's cells, in the model. -/
theorem runs_calls {E : Env} {G : Nat} (hE : ∀ [Sym], EnvOk E G) (hk : E.known = []) {off b' : Nat} {l : List Value} {e : TypeId} {w : World} {c : Array Value} {fr : Nat × Nat} (hG : G ≤ w.heap.size) (hw : w.heap[b']? = some (.cells c e fr)) (hsz : off + l.length ≤ c.size)
  (hc : ∀ i, i < l.length → c[off + i]? = l[i]?) (hp : l.all plainCell = true) {f : Nat} {args args' : List Value} {v : Value} (hv : plainV v = true) (hr : Runs E f args (argMem G off l e) fun u _ => u = v)
  (ha : ∀ [Sym], VRs (argPhi G b') args args') : Calls E.P f ⟨args'⟩ w fun x w' => x = .returned v ∧ Below w.heap.size w w' := by
 letI : Sym := ⟨fun _ => none⟩
 obtain ⟨n, u, m', h1, rfl⟩ := hr
 obtain ⟨_, hcalls⟩ := (ev_sound (w0 := w) hE (known_none hk w) n).2.2.1 f args args' _ m' _ _ w h1 ha (argMem_rel hG hw hsz hc hp)
 refine hcalls.mono fun x w' hx => ?_
 obtain ⟨φ', v', rfl, _, hv', hrel⟩ := hx
 rw [hv'.plain_eq hv]
 exact ⟨rfl, hrel.below⟩

/-- a symbolic run that looks at no memory ahead. -/
theorem runs_calls0 {E : Env} {G : Nat} (hE : ∀ [Sym], EnvOk E G) (hk : E.known = []) {w : World} (hG : G ≤ w.heap.size) {f : Nat} {args args' : List Value} {v : Value} (hv : plainV v = true) (hr : ∀ m, Runs E f args m fun u _ => u = v)
  (ha : ∀ [Sym], VRs ⟨fun b => if b < G then some b else none, fun _ => 0⟩ args args') : Calls E.P f ⟨args'⟩ w fun x w' => x = .returned v ∧ Below w.heap.size w w' := by
 letI : Sym := ⟨fun _ => none⟩
 have hrel : Rel E.P G w ⟨fun b => if b < G then some b else none, fun _ => 0⟩ { t := .leaf, next := G } w := by
  have none' : ∀ b, (({ t := .leaf, next := G } : Mem)).get b = none := fun b => Tree.get_leaf b
  refine ⟨fun g hg => if_pos hg, fun b x h => ?_, fun b o x ho => ?_, fun b₁ b₂ o₁ o₂ x h1 => ?_, fun b o x ho => ?_, fun b o ho => ?_, Below.refl _ _⟩
  ·have h' : (if b < G then some b else none) = some x := h
   split at h'
   ·cases h'; exact ⟨by assumption, by omega⟩
   ·cases h'
  ·rw [none'] at ho; cases ho
  ·rw [none'] at h1; cases h1
  ·rw [none'] at ho; cases ho
  ·rw [none'] at ho; cases ho
 obtain ⟨n, u, m', h1, rfl⟩ := hr { t := .leaf, next := G }
 obtain ⟨_, hcalls⟩ := (ev_sound (w0 := w) hE (known_none hk w) n).2.2.1 f args args' _ m' _ _ w h1 ha hrel
 refine hcalls.mono fun x w' hx => ?_
 obtain ⟨φ', v', rfl, _, hv', hrel'⟩ := hx
 rw [hv'.plain_eq hv]
 exact ⟨rfl, hrel'.below⟩
end Go.Ev

namespace Go.Ev
set_option linter.unusedSimpArgs false
open Go.RowKit
set_option linter.unusedVariables false

/-- objects that are kept, by their numbers. -/
def keepMem (n : Nat) : List (Nat × AObj) → Mem
 | [] => { t := .leaf, next := n }
 | (b, o) :: l => (keepMem n l).put b o

theorem keepMem_next (n : Nat) : ∀ l, (keepMem n l).next = n
 | [] => rfl
 | (b, o) :: l => keepMem_next n l
theorem keepMem_get (n : Nat) : ∀ (l : List (Nat × AObj)) (b : Nat) (o : AObj), (keepMem n l).get b = some o → (b, o) ∈ l
 | [], b, o, h => by
  have : (keepMem n []).get b = none := Tree.get_leaf b
  rw [this] at h; cases h
 | (x, p) :: l, b, o, h => by
  by_cases hb : b = x
  ·subst hb
   have : (keepMem n ((b, p) :: l)).get b = some p := mget_put _ _ _
   rw [this] at h; cases h
   exact List.mem_cons_self
  ·have : (keepMem n ((x, p) :: l)).get b = (keepMem n l).get b := mget_put' _ _ _ hb
   rw [this] at h
   exact List.mem_cons_of_mem _ (keepMem_get n l b o h)

/-- an object with fewer cells, or the same. -/
def ObjLe : AObj → AObj → Prop
 | .cells n c e k, .cells n' c' e' k' => n = n' ∧ k = k' ∧ (k ≠ 1 → e = e') ∧ ∀ i, i < n → c.get i = c'.get i
 | .map es, .map es' => es = es'
 | .dead, _ => True
 | _, _ => False

theorem ObjLe.rel [Sym] {P : Program} {φ : Phi} {κ : Nat} {o o' : AObj} {ob : Option Obj} (h : ObjLe o o') (hr : ObjR P φ κ o' ob) : ObjR P φ κ o ob := by
 cases o with
 | dead => trivial
 | map es => cases o' <;> simp only [ObjLe] at h; subst h; exact hr
 | cells n c e k =>
  cases o' with
  | cells n' c' e' k' =>
   obtain ⟨rfl, rfl, he, h4⟩ := h
   obtain ⟨w, fr, ⟨e2, g1, g1'⟩, g2, g3, g4, g5⟩ := hr
   exact ⟨w, fr, ⟨e2, g1, fun hk => (g1' hk).trans (he hk).symm⟩, g2, fun i hi hs => by rw [h4 i hi] at hs ⊢; exact g3 i hi hs, g4, fun hk => by rw [he hk]; exact g5 hk⟩
  | _ => cases h
theorem ObjLe.rw {o o' : AObj} (h : ObjLe o o') (hr : o.rw = true) : o'.rw = true ∧ o'.alive = true := by
 cases o with
 | dead => cases hr
 | map es => cases o' <;> simp only [ObjLe] at h; exact ⟨rfl, rfl⟩
 | cells n c e k =>
  cases o' with
  | cells n' c' e' k' =>
   obtain ⟨rfl, rfl, _, h4⟩ := h
   by_cases hk : k = 1
   ·subst hk; cases hr
   ·refine ⟨?_, rfl⟩
    unfold AObj.rw
    split <;> first | rfl | (rename_i heq; cases heq; exact absurd rfl hk) | (rename_i heq; cases heq)
  | _ => cases h
theorem ObjLe.alive {o o' : AObj} (h : ObjLe o o') (ha : o.alive = true) : o'.alive = true := by
 cases o <;> cases o' <;> first | rfl | (cases ha; done) | (simp [ObjLe] at h; done)

/-- fewer objects do. -/
theorem Rel.drop [Sym] {P : Program} {G : Nat} {w0 w : World} {φ : Phi} {m m2 : Mem} (h : Rel P G w0 φ m w) (hn : m2.next = m.next) (hg : ∀ b o, m2.get b = some o → ∃ o', m.get b = some o' ∧ ObjLe o o') : Rel P G w0 φ m2 w where
 glob := h.glob
 lt := fun b b' e => by rw [hn]; exact h.lt b b' e
 obj := fun b o b' ho e => let ⟨o', h1, h2⟩ := hg b o ho; h2.rel (h.obj b o' b' h1 e)
 inj := fun b₁ b₂ o₁ o₂ b' h1 h2 a1 a2 e1 e2 => by
  obtain ⟨p1, q1, r1⟩ := hg _ _ h1
  obtain ⟨p2, q2, r2⟩ := hg _ _ h2
  exact h.inj b₁ b₂ p1 p2 b' q1 q2 (r1.alive a1) (r2.alive a2) e1 e2
 own := fun b o b' ho hr e => let ⟨o', h1, h2⟩ := hg b o ho; h.own b o' b' h1 (h2.rw hr).1 e
 fresh := fun b o ho => let ⟨o', h1, h2⟩ := hg b o ho; by rw [hn]; exact h.fresh b o' h1
 below := h.below

/-- the same cells, as far as they go. -/
def objSame : AObj → Option AObj → Bool
 | .cells n c e k, some (.cells n' c' e' k') => Nat.beq n n' && (Nat.beq k 1 || Nat.beq e e') && Nat.beq k k' && (match cellsFrom c 0 n, cellsFrom c' 0 n with | some l, some l' => sameCells1 l l' | _, _ => false)
 | .map [], some (.map []) => true
 | _, _ => false
theorem objSame_le {o : AObj} {o' : Option AObj} (h : objSame o o' = true) : ∃ p, o' = some p ∧ ObjLe o p := by
 letI : Sym := ⟨fun _ => none⟩
 unfold objSame at h
 split at h
 ·rename_i n c e k n' c' e' k'
  simp only [Bool.and_eq_true] at h
  obtain ⟨⟨⟨h1, h2⟩, h3⟩, h4⟩ := h
  obtain rfl := Nat.eq_of_beq_eq_true h1
  obtain rfl := Nat.eq_of_beq_eq_true h3
  have he : k ≠ 1 → e = e' := fun hk => by
   rcases Bool.or_eq_true_iff.1 h2 with h | h
   ·exact absurd (Nat.eq_of_beq_eq_true h) hk
   ·exact Nat.eq_of_beq_eq_true h
  split at h4
  ·rename_i l l' hl hl'
   obtain rfl := sameCells1_eq h4
   refine ⟨_, rfl, rfl, rfl, he, fun i hi => ?_⟩
   have e1 := cellsFrom_get hl i hi
   have e2 := cellsFrom_get hl' i hi
   rw [Nat.zero_add] at e1 e2
   rw [e1, e2]
  ·cases h4
 ·exact ⟨_, rfl, rfl⟩
 ·cases h

/-- a run's answer, and what is kept of its memory. -/
def stepOk (r : Option (Value × Mem)) (vs : List Value) (n : Nat) (keep : List (Nat × AObj)) : Bool :=
 match r with
 | some (.tuple ⟨us⟩, m) => sameCellsV us vs && Nat.beq m.next n && keep.all fun q => objSame q.2 (m.get q.1)
 | _ => false
where
 sameCellsV : List Value → List Value → Bool
  | [], [] => true
  | a :: l, b :: r => sameV a b && sameCellsV l r
  | _, _ => false
end Go.Ev

namespace Go.Ev
set_option linter.unusedSimpArgs false
open Go.RowKit
set_option linter.unusedVariables false

def sameVs : List Value → List Value → Bool
 | [], [] => true
 | a :: l, b :: r => sameV a b && sameVs l r
 | _, _ => false
def sameX : Value → Value → Bool
 | .tuple ⟨a⟩, .tuple ⟨b⟩ => sameVs a b
 | a, b => sameV a b
theorem sameVs_eq : ∀ {a b : List Value}, sameVs a b = true → a = b
 | [], [], _ => rfl
 | a :: l, b :: r, h => by
  letI : Sym := ⟨fun _ => none⟩
  simp only [sameVs, Bool.and_eq_true] at h
  rw [sameV_eq h.1, sameVs_eq h.2]
 | [], _ :: _, h => by simp [sameVs] at h
 | _ :: _, [], h => by simp [sameVs] at h
theorem sameX_eq {a b : Value} (h : sameX a b = true) : a = b := by
 letI : Sym := ⟨fun _ => none⟩
 unfold sameX at h
 split at h
 ·rw [sameVs_eq h]
 ·exact sameV_eq h

/-- the temporaries, from one on. -/
def tmpsSame (a : Act) : Nat → List Value → Bool
 | _, [] => true
 | t, v :: l => sameX (a.tmp t) v && tmpsSame a (t + 1) l
theorem tmpsSame_get {a : Act} : ∀ {l : List Value} {t : Nat}, tmpsSame a t l = true → ∀ i v, l[i]? = some v → a.tmp (t + i) = v
 | [], t, h, i, v, hv => by simp at hv
 | x :: l, t, h, 0, v, hv => by
  simp only [tmpsSame, Bool.and_eq_true] at h
  simp at hv
  rw [Nat.add_zero, sameX_eq h.1, hv]
 | x :: l, t, h, i + 1, v, hv => by
  simp only [tmpsSame, Bool.and_eq_true] at h
  have := tmpsSame_get h.2 i v (by simpa using hv)
  rw [show t + (i + 1) = t + 1 + i by omega]; exact this

/-- a piece came to its end, and left what is told. -/
def pieceOk (r : Option (Ex × Act)) (nt : Nat) (vals : List Value) (nx : Nat) (keep : List (Nat × AObj)) : Bool :=
 match r with
 | some (.normal, b) => b.defers.isEmpty && Nat.beq b.n nt && Nat.beq b.m.next nx && tmpsSame b 0 vals && keep.all fun q => objSame q.2 (b.m.get q.1)
 | _ => false

theorem piece [Sym] {E : Env} {G n : Nat} {w0 : World} (hC : CodeOk E G w0 n) {c : Code} (hc : codeOk G c = true) {vals vals' : List Value} {keep keep' : List (Nat × AObj)} {nx nx' nt : Nat}
  (h : pieceOk (code E n c (Act.start vals nt (keepMem nx keep))) nt vals' nx' keep' = true) (hl : vals'.length = nt) {φ : Phi} {ac : Go.Act} {w : World} {Q : Exit → Go.Act → World → Prop}
  (hA : ActR φ (Act.start vals nt (keepMem nx keep)) ac) (hR : Rel E.P G w0 φ (keepMem nx keep) w)
  (K : ∀ φ' ac' w', ActR φ' (Act.start vals' nt (keepMem nx' keep')) ac' → Rel E.P G w0 φ' (keepMem nx' keep') w' → Q .normal ac' w') : c.wp E.P Q ac w := by
 unfold pieceOk at h
 split at h
 ·rename_i b hb
  simp only [Bool.and_eq_true, List.all_eq_true] at h
  obtain ⟨⟨⟨⟨h1, h2⟩, h3⟩, h4⟩, h5⟩ := h
  have hn := Nat.eq_of_beq_eq_true h2
  have hnx := Nat.eq_of_beq_eq_true h3
  refine hC c _ b .normal ac φ w Q hc hb hA (by rw [m_start]; exact hR) fun φ' ac' w' x _ hA' hR' hx => ?_
  cases hx
  refine K φ' ac' w' ⟨by rw [n_start, ← hn]; exact hA'.size, by rw [n_start, ← hn]; exact hA'.bound, fun t => ?_, ?_⟩ (hR'.drop (by rw [keepMem_next, hnx]) fun b' o ho => ?_)
  ·rw [tmp_start]
   by_cases ht : t < vals'.length
   ·have e1 : vals'[t]? = some vals'[t] := List.getElem?_eq_getElem ht
    have := tmpsSame_get h4 t _ e1
    rw [Nat.zero_add] at this
    rw [List.getD, e1, Option.getD_some, ← this]
    exact hA'.tmps t
   ·have hs := hA'.size
    rw [List.getD, List.getElem?_eq_none (by omega), Option.getD_none]
    have : ac'.tmps.getD t undef = undef := by rw [Array.getD_eq_getD_getElem?, Array.getElem?_eq_none (by omega)]; rfl
    rw [this]
    exact VR.undef
  ·rw [d_start]
   have := hA'.defers
   rw [List.isEmpty_iff.1 h1] at this
   exact this
  ·have hm := keepMem_get nx' keep' b' o ho
   exact objSame_le (h5 (b', o) hm)
 ·cases h
end Go.Ev

namespace Go.Ev
set_option linter.unusedSimpArgs false
open Go.RowKit
set_option linter.unusedVariables false

/-- the memory at the start: package-level variables that are told, and behind them the cells of one argument. -/
def argMemG (gs : List (Option (Nat × TypeId × List Value))) (off : Nat) (l : List Value) (e : TypeId) : Mem := { t := (startMem gs).t.set (gs.length + 1) gs.length (.cells (off + l.length) (ofListFrom .leaf off l) e 1), next := gs.length + 1 }

theorem argMemG_get (gs : List (Option (Nat × TypeId × List Value))) (off : Nat) (l : List Value) (e : TypeId) : (argMemG gs off l e).get gs.length = some (.cells (off + l.length) (ofListFrom .leaf off l) e 1) := Tree.get_set_same _ _ _ _ Nat.lt_two_pow_self
theorem argMemG_other (gs : List (Option (Nat × TypeId × List Value))) (off : Nat) (l : List Value) (e : TypeId) {b : Nat} (h : b ≠ gs.length) : (argMemG gs off l e).get b = (startMem gs).get b := by
 show (Tree.set (gs.length + 1) (startMem gs).t gs.length _).get b = (startMem gs).t.get b
 rw [Tree.get_set_other _ _ _ _ _ (fun h' => h h'.symm)]

theorem argMemG_rel [Sym] {P : Program} {gs : List (Option (Nat × TypeId × List Value))} {off b' : Nat} {l : List Value} {e : TypeId} {w : World} {c : Array Value} {fr : Nat × Nat} (hgs : gs.length ≤ 1000000000) (hF : Fits gs w) (hw : w.heap[b']? = some (.cells c e fr)) (hb' : gs.length ≤ b') (hsz : off + l.length ≤ c.size)
  (hc : ∀ i, i < l.length → c[off + i]? = l[i]?) (hp : l.all plainCell = true) : Rel P gs.length w (argPhi gs.length b') (argMemG gs off l e) w := by
 have hS := startMem_rel (P := P) hgs hF
 have phiS : ∀ b x, b < gs.length → (argPhi gs.length b') b = some x → (⟨fun b => if b < gs.length then some b else none, fun _ => 0⟩ : Phi) b = some x := fun b x hb h => by
  have h' : (if b < gs.length then some b else if b = gs.length then some b' else none) = some x := h
  rw [if_pos hb] at h'
  show (if b < gs.length then some b else none) = some x
  rw [if_pos hb]; exact h'
 have hle : Phi.le ⟨fun b => if b < gs.length then some b else none, fun _ => 0⟩ (argPhi gs.length b') := fun b x h => by
  have h' : (if b < gs.length then some b else none) = some x := h
  split at h'
  ·refine ⟨?_, rfl⟩
   show (if b < gs.length then some b else if b = gs.length then some b' else none) = some x
   rw [if_pos (by assumption)]; exact h'
  ·cases h'
 have cases3 : ∀ b x, (argPhi gs.length b') b = some x → (b < gs.length ∧ x = b) ∨ (b = gs.length ∧ x = b') := fun b x h => by
  have h' : (if b < gs.length then some b else if b = gs.length then some b' else none) = some x := h
  split at h'
  ·cases h'; exact .inl ⟨by assumption, rfl⟩
  ·split at h'
   ·cases h'; exact .inr ⟨by assumption, rfl⟩
   ·cases h'
 refine ⟨fun g hg => if_pos hg, fun b x h => ?_, fun b o x ho h => ?_, fun b₁ b₂ o₁ o₂ x h1 h2 a1 a2 p1 p2 => ?_, fun b o x ho hr h => ?_, fun b o ho => ?_, Below.refl _ _⟩
 ·rcases cases3 b x h with ⟨h1, rfl⟩ | ⟨h1, rfl⟩
  ·exact ⟨Nat.lt_succ_of_lt h1, Nat.lt_of_lt_of_le h1 hF.1⟩
  ·exact ⟨by rw [h1]; exact Nat.lt_succ_self _, (Array.getElem?_eq_some_iff.1 hw).1⟩
 ·rcases cases3 b x h with ⟨h1, rfl⟩ | ⟨h1, rfl⟩
  ·rw [argMemG_other _ _ _ _ (Nat.ne_of_lt h1)] at ho
   exact ObjR.mono hle (hS.obj _ o _ ho (phiS _ _ h1 h))
  ·subst h1
   rw [argMemG_get] at ho
   cases ho
   refine ⟨c, fr, ⟨_, hw, fun _ => rfl⟩, hsz, fun i hi hs => ?_, fun h => absurd h (by decide), fun h => absurd rfl h⟩
   have hs' := hs rfl
   rw [get_ofList] at hs' ⊢
   by_cases hio : off ≤ i ∧ i < off + l.length
   ·rw [if_pos hio]
    have hlt : i - off < l.length := by omega
    have e1 : l[i - off]? = some l[i - off] := List.getElem?_eq_getElem hlt
    have := hc (i - off) hlt
    rw [show off + (i - off) = i by omega, e1] at this
    exact ⟨_, _, e1, this, VR.plainCell _ (List.all_eq_true.1 hp _ (List.getElem_mem hlt))⟩
   ·rw [if_neg hio, Tree.get_leaf] at hs'
    cases hs'
 ·rcases cases3 b₁ x p1 with ⟨q1, e1⟩ | ⟨q1, e1⟩ <;> rcases cases3 b₂ x p2 with ⟨q2, e2⟩ | ⟨q2, e2⟩ <;> omega
 ·rcases cases3 b x h with ⟨h1, rfl⟩ | ⟨h1, rfl⟩
  ·rw [argMemG_other _ _ _ _ (Nat.ne_of_lt h1)] at ho
   exact hS.own _ o _ ho hr (phiS _ _ h1 h)
  ·subst h1; rw [argMemG_get] at ho; cases ho; cases hr
 ·by_cases hb : b = gs.length
  ·rw [hb]; exact Nat.lt_succ_self _
  ·rw [argMemG_other _ _ _ _ hb] at ho
   exact Nat.lt_succ_of_lt (hS.fresh b o ho)

/-- a symbolic run over one argument's cells, the told variables laid, in the model. -/
theorem runs_callsG {E : Env} {gs : List (Option (Nat × TypeId × List Value))} (hE : ∀ [Sym], EnvOk E gs.length) {w : World} (hK : ∀ [Sym], KnownOk E w) (hgs : gs.length ≤ 1000000000) (hF : Fits gs w) {off b' : Nat} {l : List Value} {e : TypeId} {c : Array Value} {fr : Nat × Nat} (hw : w.heap[b']? = some (.cells c e fr)) (hb' : gs.length ≤ b') (hsz : off + l.length ≤ c.size)
  (hc : ∀ i, i < l.length → c[off + i]? = l[i]?) (hp : l.all plainCell = true) {f : Nat} {args args' : List Value} {v : Value} (hv : plainV v = true) (hr : Runs E f args (argMemG gs off l e) fun u _ => u = v)
  (ha : ∀ [Sym], VRs (argPhi gs.length b') args args') : Calls E.P f ⟨args'⟩ w fun x w' => x = .returned v ∧ Below w.heap.size w w' := by
 letI : Sym := ⟨fun _ => none⟩
 obtain ⟨n, u, m', h1, rfl⟩ := hr
 obtain ⟨_, hcalls⟩ := (ev_sound (w0 := w) hE hK n).2.2.1 f args args' _ m' _ _ w h1 ha (argMemG_rel hgs hF hw hb' hsz hc hp)
 refine hcalls.mono fun x w' hx => ?_
 obtain ⟨φ', v', rfl, _, hv', hrel⟩ := hx
 rw [hv'.plain_eq hv]
 exact ⟨rfl, hrel.below⟩
/-- a symbolic run where the told variables are laid, in the model. -/
theorem runs_callsG0 {E : Env} {gs : List (Option (Nat × TypeId × List Value))} (hE : ∀ [Sym], EnvOk E gs.length) {w : World} (hK : ∀ [Sym], KnownOk E w) (hgs : gs.length ≤ 1000000000) (hF : Fits gs w) {f : Nat} {args args' : List Value} {v : Value} (hv : plainV v = true) (hr : Runs E f args (startMem gs) fun u _ => u = v)
  (ha : ∀ [Sym], VRs ⟨fun b => if b < gs.length then some b else none, fun _ => 0⟩ args args') : Calls E.P f ⟨args'⟩ w fun x w' => x = .returned v ∧ Below w.heap.size w w' := by
 letI : Sym := ⟨fun _ => none⟩
 obtain ⟨n, u, m', h1, rfl⟩ := hr
 obtain ⟨_, hcalls⟩ := (ev_sound (w0 := w) hE hK n).2.2.1 f args args' _ m' _ _ w h1 ha (startMem_rel hgs hF)
 refine hcalls.mono fun x w' hx => ?_
 obtain ⟨φ', v', rfl, _, hv', hrel⟩ := hx
 rw [hv'.plain_eq hv]
 exact ⟨rfl, hrel.below⟩
end Go.Ev
