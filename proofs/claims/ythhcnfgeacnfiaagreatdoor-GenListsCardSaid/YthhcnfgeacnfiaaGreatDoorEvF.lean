/- Part of a verified evaluator of the model's programs and of runs by it: EvRow EvApp EvCut EvGo EvLx. -/
import Derived.Test.YthhcnfgeacnfiaaGreatDoorEvE
namespace Go.Ev
set_option linter.unusedSimpArgs false
set_option linter.unusedVariables false
variable {E : Env}

theorem beqb (a b : List UInt8) : bytesEq a b = decide (a = b) := by
 letI : Sym := ⟨fun _ => none⟩
 rw [bytesEq_eq]
 by_cases h : a = b <;> simp [h]

def rowObj (l : List Value) (e kd : Nat) : AObj := .cells l.length (ofListFrom .leaf 0 l) e kd

/-- a block holds just these cells. -/
def Row (m : Mem) (b : Nat) (l : List Value) (e kd : Nat) : Prop := b < m.next ∧ ∃ c, m.get b = some (.cells l.length c e kd) ∧ ∀ i, i < l.length → c.get i = l[i]?

theorem mget_new (m : Mem) (o : AObj) : (m.new o).get m.next = some o := Tree.get_set_same _ _ _ _ Nat.lt_two_pow_self
theorem mget_new' (m : Mem) (o : AObj) {b : Nat} (h : b < m.next) : (m.new o).get b = m.get b := Tree.get_set_other _ _ _ _ _ (by omega)
theorem mget_put (m : Mem) (b : Nat) (o : AObj) : (m.put b o).get b = some o := Tree.get_set_same _ _ _ _ Nat.lt_two_pow_self
theorem mget_put' (m : Mem) (b : Nat) (o : AObj) {x : Nat} (h : x ≠ b) : (m.put b o).get x = m.get x := Tree.get_set_other _ _ _ _ _ (by omega)
theorem next_new (m : Mem) (o : AObj) : (m.new o).next = m.next + 1 := rfl
theorem next_put (m : Mem) (b : Nat) (o : AObj) : (m.put b o).next = m.next := rfl

section
variable {m m' : Mem} {b e kd : Nat} {l : List Value}
theorem row_new (m : Mem) (l : List Value) (e kd : Nat) : Row (m.new (rowObj l e kd)) m.next l e kd := by
 refine ⟨Nat.lt_succ_self _, _, mget_new _ _, fun i hi => ?_⟩
 rw [get_ofList, if_pos (by omega), Nat.sub_zero]
theorem Row.keep_new (h : Row m b l e kd) (o : AObj) : Row (m.new o) b l e kd := by
 obtain ⟨h1, c, h2, h3⟩ := h
 exact ⟨Nat.lt_succ_of_lt h1, c, by rw [mget_new' _ _ h1]; exact h2, h3⟩
theorem Row.keep (h : Row m b l e kd) (hn : m.next ≤ m'.next) (hg : m'.get b = m.get b) : Row m' b l e kd := by
 obtain ⟨h1, c, h2, h3⟩ := h
 exact ⟨by omega, c, by rw [hg]; exact h2, h3⟩
theorem Row.load1 (h : Row m b l e kd) {t o : Nat} {d : TypeDesc} {v : Value} (hu : E.under t = some d) (ha : isAggD d = false) (hv : l[o]? = some v) : loadAt E m t b o = some v := by
 obtain ⟨h1, c, h2, h3⟩ := h
 have : o < l.length := (List.getElem?_eq_some_iff.1 hv).1
 exact load_cell hu ha h2 this (by rw [h3 o this, hv])
theorem cellsFrom_list {c : Tree Value} : ∀ (k o : Nat) (l : List Value), (∀ i, i < l.length → c.get i = l[i]?) → o + k ≤ l.length → cellsFrom c o k = some ((l.drop o).take k)
 | 0, o, l, h, hk => by simp [cellsFrom]
 | k + 1, o, l, h, hk => by
  have ho : o < l.length := by omega
  simp only [cellsFrom, h o ho, List.getElem?_eq_getElem ho]
  rw [cellsFrom_list k (o + 1) l h (by omega)]
  simp only [Option.some.injEq]
  rw [List.drop_eq_getElem_cons ho, List.take_succ_cons]
theorem Row.loadA (h : Row m b l e kd) {t o k : Nat} {d : TypeDesc} {l' : List Value} (hu : E.under t = some d) (ha : isAggD d = true) (hs : E.size t = some k) (ho : o + k ≤ l.length) (hv : (l.drop o).take k = l') : loadAt E m t b o = some (.agg ⟨l'⟩) := by
 obtain ⟨h1, c, h2, h3⟩ := h
 subst hv
 exact load_agg hu ha hs h2 ho (cellsFrom_list k o l h3 ho)

/-- cells put over others. -/
def put (l : List Value) (o : Nat) : List Value → List Value
 | [] => l
 | v :: r => put (l.set o v) (o + 1) r
theorem put_length : ∀ (r l : List Value) (o : Nat), (put l o r).length = l.length
 | [], l, o => rfl
 | v :: r, l, o => by rw [put, put_length r]; simp
theorem storeFrom_put : ∀ (r : List Value) (l : List Value) (c : Tree Value) (o : Nat), (∀ i, i < l.length → c.get i = l[i]?) → o + r.length ≤ l.length → r.all oneCell = true →
  ∃ c', storeFrom c o l.length r = some c' ∧ ∀ i, i < l.length → c'.get i = (put l o r)[i]?
 | [], l, c, o, h, hk, ha => ⟨c, rfl, h⟩
 | v :: r, l, c, o, h, hk, ha => by
  simp only [List.length_cons] at hk
  simp only [List.all_cons, Bool.and_eq_true] at ha
  have h2 : ∀ i, i < (l.set o v).length → (c.set (o + 1) o v).get i = (l.set o v)[i]? := by
   intro i hi
   simp only [List.length_set] at hi
   by_cases hio : o = i
   ·subst hio
    rw [Tree.get_set_same _ _ _ _ Nat.lt_two_pow_self, List.getElem?_set_self hi]
   ·rw [Tree.get_set_other _ _ _ _ _ hio, List.getElem?_set_ne hio, h i hi]
  obtain ⟨c', h3, h4⟩ := storeFrom_put r (l.set o v) (c.set (o + 1) o v) (o + 1) h2 (by simp; omega) ha.2
  simp only [List.length_set] at h3 h4
  refine ⟨c', ?_, fun i hi => by rw [h4 i hi]; rfl⟩
  simp only [storeFrom, show Nat.blt o l.length = true by simp [Nat.blt_eq]; omega, ha.1, Bool.and_self, cond_true]
  exact h3
/-- a store. -/
theorem Row.store (h : Row m b l e kd) (hk : kd ≠ 1) {t o k : Nat} {v : Value} {r : List Value} (hs : E.size t = some k) (hr : cellsOf v = r) (hrl : r.length = k) (ho : o + k ≤ l.length) (ha : r.all oneCell = true) :
  ∃ m', storeAt E m t b o v = some m' ∧ Row m' b (put l o r) e kd ∧ (∀ x, x ≠ b → m'.get x = m.get x) ∧ m'.next = m.next := by
 obtain ⟨h1, c, h2, h3⟩ := h
 subst hr
 obtain ⟨c', h4, h5⟩ := storeFrom_put (cellsOf v) l c o h3 (by omega) ha
 refine ⟨m.put b (.cells l.length c' e kd), ?_, ⟨h1, c', by rw [mget_put, put_length], fun i hi => h5 i (by rw [put_length] at hi; exact hi)⟩, fun x hx => mget_put' _ _ _ hx, rfl⟩
 simp only [storeAt, hs, h2, hrl, Nat.beq_refl, show Nat.beq kd 1 = false from Tree.beq_false hk, Bool.not_false, Bool.and_self, cond_true, h4]
end

theorem put_take : ∀ (r l : List Value) (o : Nat), o + r.length = l.length → put l o r = l.take o ++ r
 | [], l, o, h => by simp only [List.length_nil, Nat.add_zero] at h; simp [put, h]
 | v :: r, l, o, h => by
  simp only [List.length_cons] at h
  rw [put, put_take r (l.set o v) (o + 1) (by simp; omega), List.take_succ_eq_append_getElem (by simp; omega)]
  simp [List.take_set_of_le]
/-- a store over all of a block. -/
theorem Row.fill {m : Mem} {b e kd : Nat} {l : List Value} (h : Row m b l e kd) (hk : kd ≠ 1) {t k : Nat} {v : Value} {r : List Value} (hs : E.size t = some k) (hr : cellsOf v = r) (hrl : r.length = k) (hl : l.length = k) (ha : r.all oneCell = true) :
  ∃ m', storeAt E m t b 0 v = some m' ∧ Row m' b r e kd ∧ (∀ x, x ≠ b → m'.get x = m.get x) ∧ m'.next = m.next := by
 obtain ⟨m', h1, h2, h3, h4⟩ := h.store hk (o := 0) hs hr hrl (by omega) ha
 rw [put_take r l 0 (by omega), List.take_zero, List.nil_append] at h2
 exact ⟨m', h1, h2, h3, h4⟩

/-- nothing that was there has changed. -/
def Grow (m m' : Mem) : Prop := m.next ≤ m'.next ∧ ∀ b, b < m.next → m'.get b = m.get b
theorem Grow.refl (m : Mem) : Grow m m := ⟨Nat.le_refl _, fun _ _ => rfl⟩
theorem Grow.trans {m m' m2 : Mem} (h : Grow m m') (k : Grow m' m2) : Grow m m2 := ⟨Nat.le_trans h.1 k.1, fun b hb => (k.2 b (Nat.lt_of_lt_of_le hb h.1)).trans (h.2 b hb)⟩
theorem Grow.new {m m' : Mem} (h : Grow m m') (o : AObj) : Grow m (m'.new o) := ⟨Nat.le_trans h.1 (Nat.le_succ _), fun b hb => (mget_new' _ _ (Nat.lt_of_lt_of_le hb h.1)).trans (h.2 b hb)⟩
theorem Grow.wrote {m m' m2 : Mem} {b : Nat} (h : Grow m m') (hb : m.next ≤ b) (ho : ∀ x, x ≠ b → m2.get x = m'.get x) (hn : m2.next = m'.next) : Grow m m2 :=
 ⟨by rw [hn]; exact h.1, fun x hx => (ho x (by omega)).trans (h.2 x hx)⟩
theorem Row.grow {m m' : Mem} {b e kd : Nat} {l : List Value} (h : Row m b l e kd) (g : Grow m m') : Row m' b l e kd := h.keep g.1 (g.2 b h.1)

/-! Operations that make memory. -/
section
variable {all l : List Oper} {k : List Kont} {a : Act} {Q : Ex → Act → Prop} {d : Nat} {t : TypeId} {pos : String} {af : Array Edge} {gd : Option (Nat × Bool)} {v : Value}
theorem ewpO_box {e : TypeId} {x : Operand} {r : List Value} (hw : wanted a all ⟨some d, .box e x, t, pos, af, gd⟩ = true) (hx : a.eval x = v) (hl : cellsOf v = r) (hn : Nat.ble r.length 1000000000 = true) (hd : Nat.blt d a.n = true)
  (h : wpO E all l k ((a.mem (a.m.new (rowObj r e 0))).upd d (.pointer (some ⟨a.m.next, 0, none⟩))) Q) : wpO E all (⟨some d, .box e x, t, pos, af, gd⟩ :: l) k a Q := by
 refine ewpO_alloc hw rfl ?_ hd h
 simp only [allocs, hx, hl, newCells, hn, cond_true, withAddr]
 rfl
theorem ewpO_new {e : TypeId} {z : Value} {r : List Value} (hw : wanted a all ⟨some d, .alloc e, t, pos, af, gd⟩ = true) (hz : E.zero e = some z) (hl : cellsOf z = r) (hn : Nat.ble r.length 1000000000 = true) (hd : Nat.blt d a.n = true)
  (h : wpO E all l k ((a.mem (a.m.new (rowObj r e 0))).upd d (.pointer (some ⟨a.m.next, 0, none⟩))) Q) : wpO E all (⟨some d, .alloc e, t, pos, af, gd⟩ :: l) k a Q := by
 refine ewpO_alloc hw rfl ?_ hd h
 simp only [allocs, hz, hl, newCells, hn, cond_true, withAddr]
 rfl
inductive EvalP (ρ : Rho) : List (Nat × Operand) → List (Nat × Value) → Prop where
 | nil : EvalP ρ [] []
 | cons {i : Nat} {x : Operand} {v : Value} {l : List (Nat × Operand)} {r : List (Nat × Value)} (h : ρ x = v) (hl : EvalP ρ l r) : EvalP ρ ((i, x) :: l) ((i, v) :: r)
theorem EvalP.map {ρ : Rho} : ∀ {l : List (Nat × Operand)} {r : List (Nat × Value)}, EvalP ρ l r → (l.map fun p => (p.1, ρ p.2)) = r
 | _, _, .nil => rfl
 | _, _, .cons h hl => by rw [List.map_cons, h, EvalP.map hl]
theorem ewpO_buildSlice {ts : TypeId} {len e sz : Nat} {z : Value} {parts : Array (Nat × Operand)} {ps : List (Nat × Value)} {r : List Value} (hw : wanted a all ⟨some d, .buildSlice ts len parts, t, pos, af, gd⟩ = true)
  (hu : E.under ts = some (.slice e)) (hs : E.size e = some sz) (hz : E.zero e = some z) (hb : (Nat.ble (len * sz) 10000000 && Nat.beq (cellsOf z).length sz) = true) (hp : EvalP a.eval parts.toList ps)
  (hf : fill (fun i => some (i * sz, sz)) (repeatList (cellsOf z) len) ps = some r) (hn : Nat.ble r.length 1000000000 = true) (hd : Nat.blt d a.n = true)
  (h : wpO E all l k ((a.mem (a.m.new (rowObj r e 0))).upd d (.slice (some ⟨a.m.next, 0, none⟩) len len)) Q) : wpO E all (⟨some d, .buildSlice ts len parts, t, pos, af, gd⟩ :: l) k a Q := by
 refine ewpO_alloc hw rfl ?_ hd h
 simp only [allocs, hu, hs, hz, hb, cond_true, hp.map, hf, newCells, hn, withAddr]
 rfl
theorem ewpO_makeMap {ty : TypeId} (hw : wanted a all ⟨some d, .makeMap ty none, t, pos, af, gd⟩ = true) (hd : Nat.blt d a.n = true)
  (h : wpO E all l k ((a.mem (a.m.new (.map []))).upd d (.map (some a.m.next))) Q) : wpO E all (⟨some d, .makeMap ty none, t, pos, af, gd⟩ :: l) k a Q :=
 ewpO_alloc hw rfl rfl hd h
theorem ewpO_store {ts : TypeId} {x y : Operand} {b o : Nat} {m' : Mem} (hw : wanted a all ⟨none, .store ts x y, t, pos, af, gd⟩ = true) (hx : a.eval x = .pointer (some ⟨b, o, none⟩)) (hy : a.eval y = v) (hs : storeAt E a.m ts b o v = some m')
  (h : wpO E all l k (a.mem m') Q) : wpO E all (⟨none, .store ts x y, t, pos, af, gd⟩ :: l) k a Q := by
 refine ewpO_effect0 (v := undef) hw rfl rfl ?_ h
 simp only [effect, hx, hy, hs]
end

section
variable {m : Mem} {ρ : Rho} {v : Value} {x y : Operand} {t : TypeId}
theorem sq_build {fs : Array Field} {z : Value} {pl : List (Nat × Nat)} {parts : Array (Nat × Operand)} {ps : List (Nat × Value)} {r : List Value} (hz : E.zero t = some z) (hu : E.under t = some (.struct fs)) (hpl : places E fs.toList = some pl) (hp : EvalP ρ parts.toList ps) (hf : fill (nth pl) (cellsOf z) ps = some r) :
  quiet E m ρ (.build t parts) = some (.agg ⟨r⟩) := by simp only [quiet, hz, hu, hpl, hp.map, hf]
theorem sq_buildA {n e sz : Nat} {z : Value} {parts : Array (Nat × Operand)} {ps : List (Nat × Value)} {r : List Value} (hz : E.zero t = some z) (hu : E.under t = some (.array n e)) (hs : E.size e = some sz) (hp : EvalP ρ parts.toList ps) (hf : fill (fun i => some (i * sz, sz)) (cellsOf z) ps = some r) :
  quiet E m ρ (.build t parts) = some (.agg ⟨r⟩) := by simp only [quiet, hz, hu, hs, hp.map, hf]
theorem sq_sliceHi {e b o len cap h sz : Nat} {kd : IntKind} (hu : E.under t = some (.slice e)) (hx : ρ x = .slice (some ⟨b, o, none⟩) len cap) (hy : ρ y = .int kd (Int.ofNat h)) (hh : h ≤ cap) (hs : E.size e = some sz) :
  quiet E m ρ (.slice t x none (some y) none) = some (.slice (some ⟨b, o, none⟩) h cap) := by
 simp only [quiet, hu, hx, bound, hy, Nat.ble_eq_true_of_le (Nat.zero_le h), Nat.ble_eq_true_of_le hh, Bool.and_self, cond_true, Nat.beq_refl, Bool.true_or, hs, Nat.zero_mul, Nat.add_zero, Nat.sub_zero]
theorem b_pne0 {ts : TypeId} {e : Nat} {n c : Nat} (hu : E.under ts = some (.slice e)) : binOp E m .neq ts (.slice none n c) (.slice none 0 0) = some (.bool false) := by
 simp [binOp, isTok, binOp0, eqAny, eqPtr, hu]
theorem b_pne1 {ts : TypeId} {e : Nat} {p : Addr} {n c : Nat} (hu : E.under ts = some (.slice e)) : binOp E m .neq ts (.slice (some p) n c) (.slice none 0 0) = some (.bool true) := by
 simp [binOp, isTok, binOp0, eqAny, eqPtr, hu]
theorem b_peq0 {ts : TypeId} {e : Nat} {n c : Nat} (hu : E.under ts = some (.slice e)) : binOp E m .eql ts (.slice none n c) (.slice none 0 0) = some (.bool true) := by
 simp [binOp, isTok, binOp0, eqAny, eqPtr, hu]
theorem b_peq1 {ts : TypeId} {e : Nat} {p : Addr} {n c : Nat} (hu : E.under ts = some (.slice e)) : binOp E m .eql ts (.slice (some p) n c) (.slice none 0 0) = some (.bool false) := by
 simp [binOp, isTok, binOp0, eqAny, eqPtr, hu]
theorem b_peqNil {ts : TypeId} {e : Nat} {s : Option Addr} {n c : Nat} {r : Bool} (hu : E.under ts = some (.slice e)) (hr : s.isNone = r) : binOp E m .eql ts (.slice s n c) (.slice none 0 0) = some (.bool r) := by
 subst hr
 cases s <;> simp [binOp, isTok, binOp0, eqAny, eqPtr, hu]
theorem b_pneNil {ts : TypeId} {e : Nat} {s : Option Addr} {n c : Nat} {r : Bool} (hu : E.under ts = some (.slice e)) (hr : s.isSome = r) : binOp E m .neq ts (.slice s n c) (.slice none 0 0) = some (.bool r) := by
 subst hr
 cases s <;> simp [binOp, isTok, binOp0, eqAny, eqPtr, hu]
end
section
variable {all l : List Oper} {k : List Kont} {a : Act} {Q : Ex → Act → Prop} {d : Nat} {t : TypeId} {pos : String} {af : Array Edge} {gd : Option (Nat × Bool)} {v : Value}
theorem ewpO_lss {x y : Operand} {kd : IntKind} {p q : Int} {ts ty : TypeId} (hw : wanted a all ⟨some d, .binOp .lss ts x y ty, t, pos, af, gd⟩ = true) (hx : a.eval x = .int kd p) (hy : a.eval y = .int kd q) (hd : Nat.blt d a.n = true)
  (h1 : p < q → wpO E all l k (a.upd d (.bool true)) Q) (h2 : ¬ (p < q) → wpO E all l k (a.upd d (.bool false)) Q) : wpO E all (⟨some d, .binOp .lss ts x y ty, t, pos, af, gd⟩ :: l) k a Q := by
 by_cases h : p < q
 ·exact ewpO_quiet hw (sq_bin hx hy (b_lss (decide_eq_true h))) hd (h1 h)
 ·exact ewpO_quiet hw (sq_bin hx hy (b_lss (decide_eq_false h))) hd (h2 h)
theorem ewpO_geq {x y : Operand} {kd : IntKind} {p q : Int} {ts ty : TypeId} (hw : wanted a all ⟨some d, .binOp .geq ts x y ty, t, pos, af, gd⟩ = true) (hx : a.eval x = .int kd p) (hy : a.eval y = .int kd q) (hd : Nat.blt d a.n = true)
  (h1 : q ≤ p → wpO E all l k (a.upd d (.bool true)) Q) (h2 : ¬ (q ≤ p) → wpO E all l k (a.upd d (.bool false)) Q) : wpO E all (⟨some d, .binOp .geq ts x y ty, t, pos, af, gd⟩ :: l) k a Q := by
 by_cases h : q ≤ p
 ·exact ewpO_quiet hw (sq_bin hx hy (b_geq (decide_eq_true h))) hd (h1 h)
 ·exact ewpO_quiet hw (sq_bin hx hy (b_geq (decide_eq_false h))) hd (h2 h)
theorem ewpO_gtr {x y : Operand} {kd : IntKind} {p q : Int} {ts ty : TypeId} (hw : wanted a all ⟨some d, .binOp .gtr ts x y ty, t, pos, af, gd⟩ = true) (hx : a.eval x = .int kd p) (hy : a.eval y = .int kd q) (hd : Nat.blt d a.n = true)
  (h1 : q < p → wpO E all l k (a.upd d (.bool true)) Q) (h2 : ¬ (q < p) → wpO E all l k (a.upd d (.bool false)) Q) : wpO E all (⟨some d, .binOp .gtr ts x y ty, t, pos, af, gd⟩ :: l) k a Q := by
 by_cases h : q < p
 ·exact ewpO_quiet hw (sq_bin hx hy (b_gtr (decide_eq_true h))) hd (h1 h)
 ·exact ewpO_quiet hw (sq_bin hx hy (b_gtr (decide_eq_false h))) hd (h2 h)
theorem ewpO_leq {x y : Operand} {kd : IntKind} {p q : Int} {ts ty : TypeId} (hw : wanted a all ⟨some d, .binOp .leq ts x y ty, t, pos, af, gd⟩ = true) (hx : a.eval x = .int kd p) (hy : a.eval y = .int kd q) (hd : Nat.blt d a.n = true)
  (h1 : p ≤ q → wpO E all l k (a.upd d (.bool true)) Q) (h2 : ¬ (p ≤ q) → wpO E all l k (a.upd d (.bool false)) Q) : wpO E all (⟨some d, .binOp .leq ts x y ty, t, pos, af, gd⟩ :: l) k a Q := by
 by_cases h : p ≤ q
 ·exact ewpO_quiet hw (sq_bin hx hy (b_leq (decide_eq_true h))) hd (h1 h)
 ·exact ewpO_quiet hw (sq_bin hx hy (b_leq (decide_eq_false h))) hd (h2 h)
theorem ewpO_eql {x y : Operand} {kd : IntKind} {p q : Int} {ts ty : TypeId} (hw : wanted a all ⟨some d, .binOp .eql ts x y ty, t, pos, af, gd⟩ = true) (hx : a.eval x = .int kd p) (hy : a.eval y = .int kd q) (hd : Nat.blt d a.n = true)
  (h1 : p = q → wpO E all l k (a.upd d (.bool true)) Q) (h2 : ¬ (p = q) → wpO E all l k (a.upd d (.bool false)) Q) : wpO E all (⟨some d, .binOp .eql ts x y ty, t, pos, af, gd⟩ :: l) k a Q := by
 by_cases h : p = q
 ·exact ewpO_quiet hw (sq_bin hx hy (b_eql (decide_eq_true h))) hd (h1 h)
 ·exact ewpO_quiet hw (sq_bin hx hy (b_eql (decide_eq_false h))) hd (h2 h)
theorem ewpO_neq {x y : Operand} {kd : IntKind} {p q : Int} {ts ty : TypeId} (hw : wanted a all ⟨some d, .binOp .neq ts x y ty, t, pos, af, gd⟩ = true) (hx : a.eval x = .int kd p) (hy : a.eval y = .int kd q) (hd : Nat.blt d a.n = true)
  (h1 : p ≠ q → wpO E all l k (a.upd d (.bool true)) Q) (h2 : ¬ (p ≠ q) → wpO E all l k (a.upd d (.bool false)) Q) : wpO E all (⟨some d, .binOp .neq ts x y ty, t, pos, af, gd⟩ :: l) k a Q := by
 by_cases h : p ≠ q
 ·exact ewpO_quiet hw (sq_bin hx hy (b_neq (neq_true h))) hd (h1 h)
 ·exact ewpO_quiet hw (sq_bin hx hy (b_neq (neq_false (Decidable.not_not.1 h)))) hd (h2 h)
theorem ewpO_seql {x y : Operand} {p q : List UInt8} {ts ty : TypeId} (hw : wanted a all ⟨some d, .binOp .eql ts x y ty, t, pos, af, gd⟩ = true) (hx : a.eval x = .string ⟨⟨p⟩⟩) (hy : a.eval y = .string ⟨⟨q⟩⟩) (hd : Nat.blt d a.n = true)
  (h1 : p = q → wpO E all l k (a.upd d (.bool true)) Q) (h2 : p ≠ q → wpO E all l k (a.upd d (.bool false)) Q) : wpO E all (⟨some d, .binOp .eql ts x y ty, t, pos, af, gd⟩ :: l) k a Q := by
 by_cases h : p = q
 ·exact ewpO_quiet hw (sq_bin hx hy (b_seql (by rw [beqb, h]; simp))) hd (h1 h)
 ·exact ewpO_quiet hw (sq_bin hx hy (b_seql (by rw [beqb]; simp [h]))) hd (h2 h)
theorem ewpO_sneq {x y : Operand} {p q : List UInt8} {ts ty : TypeId} (hw : wanted a all ⟨some d, .binOp .neq ts x y ty, t, pos, af, gd⟩ = true) (hx : a.eval x = .string ⟨⟨p⟩⟩) (hy : a.eval y = .string ⟨⟨q⟩⟩) (hd : Nat.blt d a.n = true)
  (h1 : p = q → wpO E all l k (a.upd d (.bool false)) Q) (h2 : p ≠ q → wpO E all l k (a.upd d (.bool true)) Q) : wpO E all (⟨some d, .binOp .neq ts x y ty, t, pos, af, gd⟩ :: l) k a Q := by
 by_cases h : p = q
 ·exact ewpO_quiet hw (sq_bin hx hy (b_sneq (by rw [beqb, h]; simp))) hd (h1 h)
 ·exact ewpO_quiet hw (sq_bin hx hy (b_sneq (by rw [beqb]; simp [h]))) hd (h2 h)
end
/-- all that is known of temporaries, memory and marks of a function's state. -/
theorem evs : (∀ (a : Act) (t : Nat), a.eval (.tmp t) = a.tmp t) ∧ (∀ (a : Act) (v : Value), a.eval (.const v) = v) ∧ (∀ (a : Act) (g : Nat), a.eval (.global g) = .pointer (some ⟨g, 0, none⟩)) ∧ (∀ (a : Act) (f : Nat), a.eval (.func f) = .func (.func f) #[] #[]) ∧
  (∀ (a : Act) (d j : Nat) (v : Value), (a.upd d v).tmp j = if d = j then v else a.tmp j) ∧ (∀ (a : Act) (m : Mem) (j : Nat), (a.mem m).tmp j = a.tmp j) ∧ (∀ (a : Act) (q : Nat × List Value) (j : Nat), (a.push q).tmp j = a.tmp j) ∧
  (∀ (args : List Value) (n : Nat) (m : Mem) (j : Nat), (Act.start args n m).tmp j = args.getD j undef) ∧ (∀ (x d : Value) (l : List Value), (x :: l).getD 0 d = x) ∧ (∀ (x d : Value) (l : List Value) (i : Nat), (x :: l).getD (i + 1) d = l.getD i d) ∧
  (∀ (a : Act) (d : Nat) (v : Value), (a.upd d v).m = a.m) ∧ (∀ (a : Act) (m : Mem), (a.mem m).m = m) ∧ (∀ (a : Act) (q : Nat × List Value), (a.push q).m = a.m) ∧ (∀ (args : List Value) (n : Nat) (m : Mem), (Act.start args n m).m = m) ∧
  (∀ (a : Act) (d : Nat) (v : Value), (a.upd d v).n = a.n) ∧ (∀ (a : Act) (m : Mem), (a.mem m).n = a.n) ∧ (∀ (a : Act) (q : Nat × List Value), (a.push q).n = a.n) ∧ (∀ (args : List Value) (n : Nat) (m : Mem), (Act.start args n m).n = n) ∧
  (∀ (a : Act) (d : Nat) (v : Value), (a.upd d v).defers = a.defers) ∧ (∀ (a : Act) (m : Mem), (a.mem m).defers = a.defers) ∧ (∀ (a : Act) (q : Nat × List Value), (a.push q).defers = q :: a.defers) ∧ (∀ (args : List Value) (n : Nat) (m : Mem), (Act.start args n m).defers = []) ∧
  ((!true) = false) ∧ ((!false) = true) ∧ (∀ (m : Mem) (o : AObj), (m.new o).next = m.next + 1) ∧ (∀ (m : Mem) (b : Nat) (o : AObj), (m.put b o).next = m.next) :=
 ⟨ev_tmp, ev_const, ev_global, ev_func, tmp_upd, tmp_mem, tmp_push, tmp_start, fun _ _ _ => rfl, fun _ _ _ _ => rfl, m_upd, m_mem, m_push, m_start, n_upd, n_mem, n_push, n_start, d_upd, d_mem, d_push, d_start, rfl, rfl, next_new, next_put⟩
end Go.Ev

namespace Go.Ev
set_option linter.unusedSimpArgs false
set_option linter.unusedVariables false
variable {E : Env}

theorem Row.ne {m : Mem} {b b' e e' kd kd' : Nat} {l l' : List Value} (h : Row m b l e kd) (h' : Row m b' l' e' kd') (he : e ≠ e') : b ≠ b' := by
 obtain ⟨_, c, h2, _⟩ := h
 obtain ⟨_, c', h2', _⟩ := h'
 rintro rfl
 rw [h2] at h2'
 simp only [Option.some.injEq, AObj.cells.injEq] at h2'
 exact he h2'.2.2.1

theorem put_take2 : ∀ (r l : List Value) (o : Nat), o + r.length ≤ l.length → (put l o r).take (o + r.length) = l.take o ++ r
 | [], l, o, h => by simp [put]
 | v :: r, l, o, h => by
  simp only [List.length_cons] at h
  rw [put, List.length_cons, show o + (r.length + 1) = o + 1 + r.length by omega, put_take2 r (l.set o v) (o + 1) (by simp; omega), List.take_succ_eq_append_getElem (by simp; omega)]
  simp [List.take_set_of_le]

theorem append_row {m : Mem} {e sz bytes wb n cap k : Nat} {r new : List Value} (hr : Row m wb r e 0) (hc : r.length = cap * sz) (hn : n ≤ cap) (hk : new.length = k * sz) (h1 : new.all oneCell = true)
  (hb : (n + k) * bytes ≤ 1000000000) (hb2 : n + k ≤ 1000000000) (hb3 : (n + k) * sz ≤ 1000000000) :
  ∃ wb' cap' m' r', effect.append m e sz bytes (.slice (some ⟨wb, 0, none⟩) n cap) k new = some (.slice (some ⟨wb', 0, none⟩) (n + k) cap', m') ∧ Row m' wb' r' e 0 ∧ r'.length = cap' * sz ∧ n + k ≤ cap' ∧
   r'.take ((n + k) * sz) = r.take (n * sz) ++ new ∧ (∀ x, x ≠ wb → x < m.next → m'.get x = m.get x) ∧ m.next ≤ m'.next ∧ (wb' = wb ∨ wb' = m.next) := by
 obtain ⟨h2, c, h3, h4⟩ := hr
 have hnk : (n + k) * sz = n * sz + k * sz := Nat.add_mul _ _ _
 by_cases hroom : n + k ≤ cap
 ·have hle : (n + k) * sz ≤ cap * sz := Nat.mul_le_mul_right _ hroom
  obtain ⟨c', h5, h6⟩ := storeFrom_put new r c (n * sz) h4 (by omega) h1
  refine ⟨wb, cap, m.put wb (.cells r.length c' e 0), put r (n * sz) new, ?_, ⟨h2, c', by rw [mget_put, put_length], fun i hi => h6 i (by rw [put_length] at hi; exact hi)⟩, by rw [put_length, hc], hroom, ?_, fun x hx _ => mget_put' _ _ _ hx, Nat.le_refl _, .inl rfl⟩
  ·simp only [effect.append, h3, show Nat.beq 0 1 = false from rfl, cond_false, Nat.ble_eq_true_of_le hroom, cond_true, Nat.zero_add, h5]
  ·rw [hnk, ← hk]
   exact put_take2 new r (n * sz) (by omega)
 ·have hle : n * sz ≤ cap * sz := Nat.mul_le_mul_right _ hn
  have hnb : Nat.ble (n + k) cap = false := by
   cases h : Nat.ble (n + k) cap with
   | false => rfl
   | true => exact absurd (Nat.le_of_ble_eq_true h) hroom
  have hlen : (r.take (n * sz) ++ new).length = (n + k) * sz := by rw [List.length_append, List.length_take, hnk]; omega
  refine ⟨m.next, n + k, (m.put wb .dead).new (.cells ((n + k) * sz) (ofListFrom c (n * sz) new) e 0), r.take (n * sz) ++ new, ?_, ⟨Nat.lt_succ_self _, ofListFrom c (n * sz) new, ?_, fun i hi => ?_⟩, hlen, Nat.le_refl _, ?_, fun x hx hlt => ?_, Nat.le_succ _, .inr rfl⟩
  ·simp only [effect.append, h3, show Nat.beq 0 1 = false from rfl, cond_false, hnb, Nat.ble_eq_true_of_le hn, Nat.ble_eq_true_of_le (show cap * sz ≤ r.length by omega), Tree.beq_true (rfl : e = e), Nat.beq_refl, Nat.ble_eq_true_of_le hb, Nat.ble_eq_true_of_le hb2, Nat.ble_eq_true_of_le hb3, h1, Bool.and_self, cond_true]
  ·have := mget_new (m.put wb .dead) (.cells ((n + k) * sz) (ofListFrom c (n * sz) new) e 0)
   rw [hlen]; exact this
  ·rw [get_ofList]
   rw [hlen] at hi
   by_cases hin : n * sz ≤ i
   ·rw [if_pos ⟨hin, by omega⟩, List.getElem?_append_right (by rw [List.length_take]; omega), List.length_take, Nat.min_eq_left (by omega)]
   ·rw [if_neg (by omega), List.getElem?_append_left (by rw [List.length_take]; omega), List.getElem?_take_of_lt (by omega)]
    exact h4 i (by omega)
  ·rw [List.take_of_length_le (by rw [hlen]; exact Nat.le_refl _)]
  ·have := mget_new' (m.put wb .dead) (.cells ((n + k) * sz) (ofListFrom c (n * sz) new) e 0) (b := x) hlt
   rw [this, mget_put' _ _ _ hx]

theorem append_nil {m : Mem} {e sz bytes k : Nat} {new : List Value} (hk0 : 0 < k) (hlen : new.length ≤ 1000000000) (hb : k * bytes ≤ 1000000000) (hb2 : k ≤ 1000000000) :
  effect.append m e sz bytes (.slice none 0 0) k new = some (.slice (some ⟨m.next, 0, none⟩) k k, m.new (rowObj new e 0)) := by
 have h0 : Nat.beq k 0 = false := Tree.beq_false (by omega)
 simp only [effect.append, Nat.beq_refl, Nat.ble_eq_true_of_le hb, Nat.ble_eq_true_of_le hb2, Bool.and_self, cond_true, h0, cond_false, newCells, Nat.ble_eq_true_of_le hlen, withAddr]
 rfl

theorem cellsIn_row {m : Mem} {yb k kc sz e kd : Nat} {yl new : List Value} (hy : Row m yb yl e kd) (hl : k * sz ≤ yl.length) (hn : yl.take (k * sz) = new) : effect.cellsIn m sz (.slice (some ⟨yb, 0, none⟩) k kc) = some (k, new) := by
 obtain ⟨h2, c, h3, h4⟩ := hy
 simp only [effect.cellsIn, h3, Nat.zero_add, Nat.ble_eq_true_of_le hl, cond_true, cellsFrom_list (k * sz) 0 yl h4 (by omega), List.drop_zero, hn]

section
variable {all l : List Oper} {k : List Kont} {a : Act} {Q : Ex → Act → Prop} {d : Nat} {t : TypeId} {pos : String} {af : Array Edge} {gd : Option (Nat × Bool)} {v : Value}
theorem ewpO_append {c : Go.Call} {t1 t2 e : TypeId} {x y : Operand} {vx vy v : Value} {i : TypeInfo} {z : Value} {du : TypeDesc} {kk : Nat} {new : List Value} {m' : Mem}
  (hw : wanted a all ⟨some d, .call c, t, pos, af, gd⟩ = true) (hc : c.callee = .builtin .append) (ht : c.argTypes.toList = [t1, t2]) (hx : c.args.toList = [x, y])
  (hu : E.under t1 = some (.slice e)) (hu2 : E.under t2 = some du) (hdu : rowD du = true) (hi : E.ti e = some i) (hz : i.zero = some z) (hzl : Nat.beq (cellsOf z).length i.size = true)
  (hvx : a.eval x = vx) (hvy : a.eval y = vy) (hin : effect.cellsIn a.m i.size vy = some (kk, new)) (hap : effect.append a.m e i.size i.bytes vx kk new = some (v, m'))
  (hd : Nat.blt d a.n = true) (h : wpO E all l k ((a.mem m').upd d v) Q) : wpO E all (⟨some d, .call c, t, pos, af, gd⟩ :: l) k a Q := by
 refine ewpO_effect hw ?_ ?_ ?_ hd h
 ·simp only [quiet, hc]
 ·simp only [allocs]
 ·simp only [effect, hc, ht, hx, hu, hu2, hdu, Bool.not_true, cond_false, hi, hz, hzl, cond_true, hvx, hvy, hin, hap]
end
end Go.Ev

namespace Go.Ev
set_option linter.unusedSimpArgs false
set_option linter.unusedVariables false
variable {E : Env}

theorem wpC_mono {c : Code} {a : Act} {Q R : Ex → Act → Prop} (h : wpC E c a Q) (hR : ∀ ex a', Q ex a' → R ex a') : wpC E c a R :=
 let ⟨n, ex, a', h1, h2⟩ := h; ⟨n, ex, a', h1, hR ex a' h2⟩

theorem ret_append : ∀ (k1 k2 : List Kont) (ex : Ex) (a : Act) (Q : Ex → Act → Prop), ret E k1 ex a (fun ex a' => ret E k2 ex a' Q) → ret E (k1 ++ k2) ex a Q
 | [], k2, ex, a, Q, h => h
 | .seq y :: k1, k2, ex, a, Q, h => by
  cases ex with
  | normal => exact wpC_mono h fun ex a' h' => ret_append k1 k2 ex a' Q h'
  | exit i => exact ret_append k1 k2 _ a Q h
  | ret => exact ret_append k1 k2 _ a Q h
  | goto i => exact ret_append k1 k2 _ a Q h
 | .block i :: k1, k2, ex, a, Q, h => by
  cases ex with
  | normal => exact ret_append k1 k2 _ a Q h
  | exit j =>
   simp only [ret, List.cons_append] at h ⊢
   split
   ·rename_i hj; rw [if_pos hj] at h; exact ret_append k1 k2 _ a Q h
   ·rename_i hj; rw [if_neg hj] at h; exact ret_append k1 k2 _ a Q h
  | ret => exact ret_append k1 k2 _ a Q h
  | goto i => exact ret_append k1 k2 _ a Q h
 | .loop x :: k1, k2, ex, a, Q, h => by
  cases ex with
  | normal => exact wpC_mono h fun ex a' h' => ret_append k1 k2 ex a' Q h'
  | exit i => exact ret_append k1 k2 _ a Q h
  | ret => exact ret_append k1 k2 _ a Q h
  | goto i => exact ret_append k1 k2 _ a Q h

/-- the rest of a region and what stands first behind it, apart from all that comes then. -/
theorem ewpO_cut {all l : List Oper} {K : Kont} {k : List Kont} {a : Act} {Q : Ex → Act → Prop} (P : Act → Prop) (h : wpO E all l [K] a fun ex a' => ex = .normal ∧ P a') (h2 : ∀ a', P a' → ret E k .normal a' Q) : wpO E all l (K :: k) a Q := by
 obtain ⟨n, a', h1, h3⟩ := h
 refine ⟨n, a', h1, ret_append [K] k .normal a' Q ?_⟩
 have mono : ∀ (ks : List Kont) (ex : Ex) (a : Act) (R S : Ex → Act → Prop), (∀ ex a, R ex a → S ex a) → ret E ks ex a R → ret E ks ex a S := by
  intro ks
  induction ks with
  | nil => intro ex a R S hRS h; exact hRS ex a h
  | cons K ks ih =>
   intro ex a R S hRS h
   cases K with
   | seq y =>
    cases ex with
    | normal => exact wpC_mono h fun ex a' h' => ih ex a' R S hRS h'
    | exit i => exact ih _ _ R S hRS h
    | ret => exact ih _ _ R S hRS h
    | goto i => exact ih _ _ R S hRS h
   | block i =>
    cases ex with
    | normal => exact ih _ _ R S hRS h
    | exit j =>
     simp only [ret] at h ⊢
     split
     ·rename_i hj; rw [if_pos hj] at h; exact ih _ _ R S hRS h
     ·rename_i hj; rw [if_neg hj] at h; exact ih _ _ R S hRS h
    | ret => exact ih _ _ R S hRS h
    | goto i => exact ih _ _ R S hRS h
   | loop x =>
    cases ex with
    | normal => exact wpC_mono h fun ex a' h' => ih ex a' R S hRS h'
    | exit i => exact ih _ _ R S hRS h
    | ret => exact ih _ _ R S hRS h
    | goto i => exact ih _ _ R S hRS h
 exact mono [K] .normal a' _ _ (fun ex a'' h => by obtain ⟨rfl, hP⟩ := h; exact h2 a'' hP) h3
end Go.Ev

namespace Go.Ev
set_option linter.unusedSimpArgs false
set_option linter.unusedVariables false
variable {E : Env}

/-! One step of a symbolic run: a lemma for each kind of operation; the side goals bear marks, so that one solver fits all. -/
inductive Rf {α : Type} : α → α → Prop where
 | mk {x : α} : Rf x x
theorem Rf.h {α : Type} {x y : α} (h : Rf x y) : x = y := by cases h; rfl
inductive Ev (a : Act) (x : Operand) (v : Value) : Prop where
 | mk (h : a.eval x = v)
theorem Ev.h {a : Act} {x : Operand} {v : Value} : Ev a x v → a.eval x = v | .mk h => h
inductive Dn (a : Act) (d : Nat) : Prop where
 | mk (h : Nat.blt d a.n = true)
theorem Dn.h {a : Act} {d : Nat} : Dn a d → Nat.blt d a.n = true | .mk h => h
inductive Bn (E : Env) (m : Mem) (op : BinOp) (t : TypeId) (p q v : Value) : Prop where
 | mk (h : binOp E m op t p q = some v)
theorem Bn.h {m : Mem} {op : BinOp} {t : TypeId} {p q v : Value} : Bn E m op t p q v → binOp E m op t p q = some v | .mk h => h
inductive Ld (E : Env) (m : Mem) (t : TypeId) (b o : Nat) (v : Value) : Prop where
 | mk (h : loadAt E m t b o = some v)
theorem Ld.h {m : Mem} {t : TypeId} {b o : Nat} {v : Value} : Ld E m t b o v → loadAt E m t b o = some v | .mk h => h
inductive Om (p : Prop) : Prop where
 | mk (h : p)
theorem Om.h {p : Prop} : Om p → p | .mk h => h
inductive Hy (p : Prop) : Prop where
 | mk (h : p)
theorem Hy.h {p : Prop} : Hy p → p | .mk h => h
inductive Kr (p : Prop) : Prop where
 | mk (h : p)
theorem Kr.h {p : Prop} : Kr p → p | .mk h => h
inductive Evp (a : Act) : List (Nat × Operand) → List (Nat × Value) → Prop where
 | nil : Evp a [] []
 | cons {i : Nat} {x : Operand} {v : Value} {l : List (Nat × Operand)} {r : List (Nat × Value)} (h : Ev a x v) (hl : Evp a l r) : Evp a ((i, x) :: l) ((i, v) :: r)
theorem Evp.h {a : Act} : ∀ {l : List (Nat × Operand)} {r : List (Nat × Value)}, Evp a l r → EvalP a.eval l r
 | _, _, .nil => .nil
 | _, _, .cons h hl => .cons h.h hl.h
inductive Evl (a : Act) : List Operand → List Value → Prop where
 | nil : Evl a [] []
 | cons {x : Operand} {v : Value} {l : List Operand} {r : List Value} (h : Ev a x v) (hl : Evl a l r) : Evl a (x :: l) (v :: r)
theorem Evl.h {a : Act} : ∀ {l : List Operand} {r : List Value}, Evl a l r → EvalL a.eval l r
 | _, _, .nil => .nil
 | _, _, .cons h hl => .cons h.h hl.h
inductive Rn (E : Env) (g : Nat) (args : List Value) (m : Mem) (R : Value → Mem → Prop) : Prop where
 | mk (h : Runs E g args m R)
theorem Rn.h {g : Nat} {args : List Value} {m : Mem} {R : Value → Mem → Prop} : Rn E g args m R → Runs E g args m R | .mk h => h
inductive Cn (p : Prop) : Prop where
 | mk (h : p)
theorem Cn.h {p : Prop} : Cn p → p | .mk h => h
/-- one of two. -/
inductive Sel : Bool → Prop → Prop → Prop where
 | T {x y : Prop} (h : x) : Sel true x y
 | F {x y : Prop} (h : y) : Sel false x y
theorem Sel.t {x y : Prop} : Sel true x y → x | .T h => h
theorem Sel.f {x y : Prop} : Sel false x y → y | .F h => h

section
variable {k : List Kont} {a : Act} {Q : Ex → Act → Prop} {x y : Code}
theorem g_T {p q : Prop} (h : p) : Sel true p q := .T h
theorem g_F {p q : Prop} (h : q) : Sel false p q := .F h
theorem g_cond {c : Operand} {b : Bool} (hc : Ev a c (.bool b)) (h : Sel b (wp E x k a Q) (wp E y k a Q)) : wp E (.cond c x y) k a Q := by
 cases b
 ·exact ewp_condF hc.h h.f
 ·exact ewp_condT hc.h h.t
theorem g_block {i j : Nat} {b : Bool} (hb : Rf (Nat.beq j i) b) (h : Sel b (ret E k .normal a Q) (ret E k (.exit j) a Q)) : ret E (.block i :: k) (.exit j) a Q := by
 cases b
 ·exact eret_block_other hb.h h.f
 ·have : j = i := Nat.eq_of_beq_eq_true hb.h
  subst this
  exact eret_block_same h.t
theorem g_regionD {i : Nat} {ops : Array Oper} (hp : Kr (planText E ops.toList = true)) (h : wpO E ops.toList ops.toList k a Q) : wp E (.region i ops true) k a Q := ewp_regionD hp.h h
/- the main goal, as it is. -/
theorem g_wp {c : Code} (h : wp E c k a Q) : wp E c k a Q := h
theorem g_ret {ex : Ex} (h : ret E k ex a Q) : ret E k ex a Q := h
theorem g_wpO {all l : List Oper} (h : wpO E all l k a Q) : wpO E all l k a Q := h
theorem g_sel {b : Bool} {p q : Prop} (h : Sel b p q) : Sel b p q := h
end

/-- what a guard says of a value. -/
def isB : Value → Bool → Bool
 | .bool b, want => b == want
 | _, _ => false
def gdst (all : List Oper) (j : Nat) : Option Tmp := match nth all j with
 | some o => o.dst
 | none => none

section
variable {all l : List Oper} {k : List Kont} {a : Act} {Q : Ex → Act → Prop} {d : Nat} {op : Op} {t : TypeId} {pos : String} {af : Array Edge} {v : Value}
theorem wanted_isB {dst : Option Tmp} {j dj : Nat} {b' r : Bool} (h1 : gdst all j = some dj) (h2 : a.tmp dj = v) (h3 : isB v b' = r) : wanted a all ⟨dst, op, t, pos, af, some (j, b')⟩ = r := by
 unfold gdst at h1
 unfold wanted
 split at h1
 ·rename_i o ho
  simp only [ho, h1, h2]
  rw [← h3]
  unfold isB
  cases v <;> rfl
 ·cases h1
theorem opers_guard {dst : Option Tmp} {j : Nat} {b' : Bool} (h1 : wanted a all ⟨dst, op, t, pos, af, some (j, b')⟩ = true) (h : wpO E all (⟨dst, op, t, pos, af, none⟩ :: l) k a Q) : wpO E all (⟨dst, op, t, pos, af, some (j, b')⟩ :: l) k a Q := by
 obtain ⟨n, a', h3, h4⟩ := h
 refine ⟨n, a', ?_, h4⟩
 rw [← h3]
 simp only [opers, stepOp, h1, show wanted a all ⟨dst, op, t, pos, af, none⟩ = true from rfl, cond_true]
 rfl
/-- a guarded operation. -/
theorem g_guard {j dj : Nat} {b' r : Bool} (h1 : Rf (gdst all j) (some dj)) (h2 : Ev a (.tmp dj) v) (h3 : Rf (isB v b') r) (hd : Dn a d)
  (h : Sel r (wpO E all (⟨some d, op, t, pos, af, none⟩ :: l) k a Q) (wpO E all l k (a.upd d undef) Q)) : wpO E all (⟨some d, op, t, pos, af, some (j, b')⟩ :: l) k a Q := by
 have hw := wanted_isB (dst := some d) (op := op) (t := t) (pos := pos) (af := af) h1.h h2.h h3.h
 cases r
 ·exact ewpO_skip hw hd.h h.f
 ·exact opers_guard hw h.t
theorem g_guard0 {j dj : Nat} {b' r : Bool} (h1 : Rf (gdst all j) (some dj)) (h2 : Ev a (.tmp dj) v) (h3 : Rf (isB v b') r)
  (h : Sel r (wpO E all (⟨none, op, t, pos, af, none⟩ :: l) k a Q) (wpO E all l k a Q)) : wpO E all (⟨none, op, t, pos, af, some (j, b')⟩ :: l) k a Q := by
 have hw := wanted_isB (dst := none) (op := op) (t := t) (pos := pos) (af := af) h1.h h2.h h3.h
 cases r
 ·exact ewpO_skip0 hw h.f
 ·exact opers_guard hw h.t
theorem g_move {x : Operand} (hx : Ev a x v) (hd : Dn a d) (h : wpO E all l k (a.upd d v) Q) : wpO E all (⟨some d, .move x, t, pos, af, none⟩ :: l) k a Q := ewpO_quiet rfl (sq_move hx.h) hd.h h
theorem g_assign {x : Operand} (hx : Ev a x v) (hd : Dn a d) (h : wpO E all l k (a.upd d v) Q) : wpO E all (⟨some d, .assign x, t, pos, af, none⟩ :: l) k a Q := ewpO_quiet rfl (sq_assign hx.h) hd.h h
theorem g_pick {c x y : Operand} {b : Bool} {vx vy : Value} (hc : Ev a c (.bool b)) (hx : Ev a x vx) (hy : Ev a y vy) (hd : Dn a d) (h : Sel b (wpO E all l k (a.upd d vx) Q) (wpO E all l k (a.upd d vy) Q)) : wpO E all (⟨some d, .pick c x y, t, pos, af, none⟩ :: l) k a Q := by
 cases b
 ·exact ewpO_quiet rfl (sq_pickF hc.h hy.h) hd.h h.f
 ·exact ewpO_quiet rfl (sq_pickT hc.h hx.h) hd.h h.t
theorem g_load {x : Operand} {ty b o : Nat} (hx : Ev a x (.pointer (some ⟨b, o, none⟩))) (hl : Ld E a.m ty b o v) (hd : Dn a d) (h : wpO E all l k (a.upd d v) Q) : wpO E all (⟨some d, .load ty x, t, pos, af, none⟩ :: l) k a Q := ewpO_quiet rfl (sq_load hx.h hl.h) hd.h h
theorem g_nil {x : Operand} {p : Addr} (hx : Ev a x (.pointer (some p))) (hd : Dn a d) (h : wpO E all l k (a.upd d (.pointer (some p))) Q) : wpO E all (⟨some d, .nilCheck x, t, pos, af, none⟩ :: l) k a Q := ewpO_quiet rfl (sq_nil hx.h) hd.h h
theorem g_nil0 {x : Operand} {p : Addr} (hx : Ev a x (.pointer (some p))) (h : wpO E all l k a Q) : wpO E all (⟨none, .nilCheck x, t, pos, af, none⟩ :: l) k a Q := ewpO_quiet0 rfl (sq_nil hx.h) h
theorem g_bin {x y : Operand} {bop : BinOp} {p q : Value} {ts ty : TypeId} (hx : Ev a x p) (hy : Ev a y q) (hb : Bn E a.m bop ts p q v) (hd : Dn a d) (h : wpO E all l k (a.upd d v) Q) : wpO E all (⟨some d, .binOp bop ts x y ty, t, pos, af, none⟩ :: l) k a Q := ewpO_quiet rfl (sq_bin hx.h hy.h hb.h) hd.h h
theorem g_un {x : Operand} {uop : UnOp} {p : Value} {ts : TypeId} (hx : Ev a x p) (hb : Rf (unOp uop p) (some v)) (hd : Dn a d) (h : wpO E all l k (a.upd d v) Q) : wpO E all (⟨some d, .unOp uop ts x, t, pos, af, none⟩ :: l) k a Q := ewpO_quiet rfl (sq_un hx.h hb.h) hd.h h
theorem g_extract {x : Operand} {i : Nat} {vs : List Value} (hx : Ev a x (.tuple ⟨vs⟩)) (hv : Rf (nth vs i) (some v)) (hd : Dn a d) (h : wpO E all l k (a.upd d v) Q) : wpO E all (⟨some d, .extract x i, t, pos, af, none⟩ :: l) k a Q := ewpO_quiet rfl (sq_extract hx.h hv.h) hd.h h
theorem g_fieldAddr {ts : TypeId} {x : Operand} {f b o sz : Nat} {fs : Array Field} {fd : Field} (hu : Rf (E.under ts) (some (.struct fs))) (hx : Ev a x (.pointer (some ⟨b, o, none⟩))) (hf : Rf (nth fs.toList f) (some fd)) (hs : Rf (E.size fd.type) (some (sz + 1))) (hd : Dn a d)
  (h : wpO E all l k (a.upd d (.pointer (some ⟨b, o + fd.offset, none⟩))) Q) : wpO E all (⟨some d, .fieldAddr ts x f, t, pos, af, none⟩ :: l) k a Q := ewpO_quiet rfl (sq_fieldAddr hu.h hx.h hf.h hs.h) hd.h h
/-- a row that is looked into: its elements' type, place, length. -/
def rowOf (d : Option TypeDesc) (v : Value) : Option (Nat × Nat × Nat × Nat) := match d, v with
 | some (.slice e), .slice (some ⟨b, o, none⟩) len _ => some (e, b, o, len)
 | some (.array len e), .pointer (some ⟨b, o, none⟩) => some (e, b, o, len)
 | _, _ => none
theorem g_indexAddr {ts : TypeId} {x y : Operand} {e b o len j sz : Nat} {kd : IntKind} (hx : Ev a x v) (hu : Rf (rowOf (E.under ts) v) (some (e, b, o, len))) (hi : Ev a y (.int kd (Int.ofNat j))) (hj : Om (j < len)) (hs : Rf (E.size e) (some sz)) (hd : Dn a d)
  (h : wpO E all l k (a.upd d (.pointer (some ⟨b, o + j * sz, none⟩))) Q) : wpO E all (⟨some d, .indexAddr ts x y, t, pos, af, none⟩ :: l) k a Q := by
 replace hu := hu.h
 unfold rowOf at hu
 split at hu
 ·rename_i e' b' o' len' cap' hu'
  cases hu
  exact ewpO_quiet rfl (sq_indexAddr hu' hx.h hi.h hj.h hs.h) hd.h h
 ·rename_i len' e' b' o' hu'
  cases hu
  exact ewpO_quiet rfl (sq_indexAddrA hu' hx.h hi.h hj.h hs.h) hd.h h
 ·cases hu
theorem g_indexS {ts : TypeId} {x y : Operand} {s : List UInt8} {j : Nat} {kd : IntKind} {c : UInt8} (hu : Rf (E.under ts) (some .string)) (hx : Ev a x (.string ⟨⟨s⟩⟩)) (hi : Ev a y (.int kd (Int.ofNat j))) (hc : Hy (nth s j = some c)) (hd : Dn a d)
  (h : wpO E all l k (a.upd d (.int .u8 c.toNat)) Q) : wpO E all (⟨some d, .index ts x y, t, pos, af, none⟩ :: l) k a Q := ewpO_quiet rfl (sq_indexS hu.h hx.h hi.h hc.h) hd.h h
/-- a field's value. -/
def fldV (agg : Bool) (l : List Value) (o k : Nat) : Option Value := bif agg then some (.agg ⟨(l.drop o).take k⟩) else nth l o
theorem g_field {ts : TypeId} {x : Operand} {f sz : Nat} {fs : Array Field} {fd : Field} {vs : List Value} {du : TypeDesc} {ag : Bool} (hu : Rf (E.under ts) (some (.struct fs))) (hx : Ev a x (.agg ⟨vs⟩)) (hf : Rf (nth fs.toList f) (some fd)) (hs : Rf (E.size fd.type) (some sz)) (hdu : Rf (E.under fd.type) (some du)) (ha : Rf (isAggD du) ag)
  (hv : Rf (fldV ag vs fd.offset sz) (some v)) (hd : Dn a d) (h : wpO E all l k (a.upd d v) Q) : wpO E all (⟨some d, .field ts x f, t, pos, af, none⟩ :: l) k a Q := by
 cases ag
 ·exact ewpO_quiet rfl (sq_field1 hu.h hx.h hf.h hs.h hdu.h ha.h hv.h) hd.h h
 ·cases (Option.some.inj hv.h : Value.agg ⟨(vs.drop fd.offset).take sz⟩ = v)
  exact ewpO_quiet rfl (sq_fieldA hu.h hx.h hf.h hs.h hdu.h ha.h rfl) hd.h h
/-- a length. -/
def lenV (d : Option TypeDesc) (v : Value) : Option Nat := match d, v with
 | some (.slice _), .slice _ n _ => some n
 | some .string, .string ⟨⟨s⟩⟩ => some s.length
 | _, _ => none
theorem g_len {ts : TypeId} {x : Operand} {n : Nat} (hv : Ev a x v) (hn : Rf (lenV (E.under ts) v) (some n)) (hd : Dn a d)
  (h : wpO E all l k (a.upd d (.int .i64 n)) Q) : wpO E all (⟨some d, .call ⟨.builtin .len, #[x], #[ts]⟩, t, pos, af, none⟩ :: l) k a Q := by
 refine ewpO_quiet rfl ?_ hd.h h
 replace hn := hn.h
 unfold lenV at hn
 split at hn
 ·rename_i e a n' c' hu
  cases hn
  exact sq_len rfl rfl rfl hu hv.h
 ·rename_i s hu
  cases hn
  exact sq_lenS rfl rfl rfl hu hv.h
 ·cases hn
theorem g_max {at_ : Array TypeId} {x y : Operand} {kd kd' : IntKind} {p q r : Int} (h1 : Ev a x (.int kd p)) (h2 : Ev a y (.int kd' q)) (hr : Rf (max p q) r) (hd : Dn a d)
  (h : wpO E all l k (a.upd d (.int kd r)) Q) : wpO E all (⟨some d, .call ⟨.builtin .max, #[x, y], at_⟩, t, pos, af, none⟩ :: l) k a Q := ewpO_quiet rfl (sq_max rfl rfl h1.h h2.h hr.h) hd.h h
theorem g_min {at_ : Array TypeId} {x y : Operand} {kd kd' : IntKind} {p q r : Int} (h1 : Ev a x (.int kd p)) (h2 : Ev a y (.int kd' q)) (hr : Rf (min p q) r) (hd : Dn a d)
  (h : wpO E all l k (a.upd d (.int kd r)) Q) : wpO E all (⟨some d, .call ⟨.builtin .min, #[x, y], at_⟩, t, pos, af, none⟩ :: l) k a Q := ewpO_quiet rfl (sq_min rfl rfl h1.h h2.h hr.h) hd.h h
theorem g_sliceHi {ts : TypeId} {x y : Operand} {e b o len cap n sz : Nat} {kd : IntKind} (hu : Rf (E.under ts) (some (.slice e))) (hx : Ev a x (.slice (some ⟨b, o, none⟩) len cap)) (hy : Ev a y (.int kd (Int.ofNat n))) (hh : Om (n ≤ cap)) (hs : Rf (E.size e) (some sz)) (hd : Dn a d)
  (h : wpO E all l k (a.upd d (.slice (some ⟨b, o, none⟩) n cap)) Q) : wpO E all (⟨some d, .slice ts x none (some y) none, t, pos, af, none⟩ :: l) k a Q := ewpO_quiet rfl (sq_sliceHi hu.h hx.h hy.h hh.h hs.h) hd.h h
/-- the parts of a struct or an array. -/
def partsV (E : Env) (ts : TypeId) (z : Value) (ps : List (Nat × Value)) : Option (List Value) := match E.under ts with
 | some (.struct fs) => match places E fs.toList with
  | some pl => fill (nth pl) (cellsOf z) ps
  | none => none
 | some (.array _ e) => match E.size e with
  | some sz => fill (fun i => some (i * sz, sz)) (cellsOf z) ps
  | none => none
 | _ => none
theorem g_build {ts : TypeId} {z : Value} {parts : Array (Nat × Operand)} {ps : List (Nat × Value)} {r : List Value} (hz : Rf (E.zero ts) (some z)) (hp : Evp a parts.toList ps) (hf : Rf (partsV E ts z ps) (some r)) (hd : Dn a d)
  (h : wpO E all l k (a.upd d (.agg ⟨r⟩)) Q) : wpO E all (⟨some d, .build ts parts, t, pos, af, none⟩ :: l) k a Q := by
 refine ewpO_quiet rfl ?_ hd.h h
 replace hf := hf.h
 unfold partsV at hf
 split at hf
 ·rename_i fs hu
  split at hf
  ·rename_i pl hpl; exact sq_build hz.h hu hpl hp.h hf
  ·cases hf
 ·rename_i n e hu
  split at hf
  ·rename_i sz hs; exact sq_buildA hz.h hu hs hp.h hf
  ·cases hf
 ·cases hf
theorem g_box {e : TypeId} {x : Operand} {r : List Value} (hx : Ev a x v) (hl : Rf (cellsOf v) r) (hn : Rf (Nat.ble r.length 1000000000) true) (hd : Dn a d)
  (h : wpO E all l k ((a.mem (a.m.new (rowObj r e 0))).upd d (.pointer (some ⟨a.m.next, 0, none⟩))) Q) : wpO E all (⟨some d, .box e x, t, pos, af, none⟩ :: l) k a Q := ewpO_box rfl hx.h hl.h hn.h hd.h h
theorem g_new {e : TypeId} {z : Value} {r : List Value} (hz : Rf (E.zero e) (some z)) (hl : Rf (cellsOf z) r) (hn : Rf (Nat.ble r.length 1000000000) true) (hd : Dn a d)
  (h : wpO E all l k ((a.mem (a.m.new (rowObj r e 0))).upd d (.pointer (some ⟨a.m.next, 0, none⟩))) Q) : wpO E all (⟨some d, .alloc e, t, pos, af, none⟩ :: l) k a Q := ewpO_new rfl hz.h hl.h hn.h hd.h h
theorem g_buildSlice {ts : TypeId} {len e sz : Nat} {z : Value} {parts : Array (Nat × Operand)} {ps : List (Nat × Value)} {r : List Value} (hu : Rf (E.under ts) (some (.slice e))) (hs : Rf (E.size e) (some sz)) (hz : Rf (E.zero e) (some z)) (hb : Rf (Nat.ble (len * sz) 10000000 && Nat.beq (cellsOf z).length sz) true) (hp : Evp a parts.toList ps)
  (hf : Rf (fill (fun i => some (i * sz, sz)) (repeatList (cellsOf z) len) ps) (some r)) (hn : Rf (Nat.ble r.length 1000000000) true) (hd : Dn a d)
  (h : wpO E all l k ((a.mem (a.m.new (rowObj r e 0))).upd d (.slice (some ⟨a.m.next, 0, none⟩) len len)) Q) : wpO E all (⟨some d, .buildSlice ts len parts, t, pos, af, none⟩ :: l) k a Q := ewpO_buildSlice rfl hu.h hs.h hz.h hb.h hp.h hf.h hn.h hd.h h
theorem g_makeMap {ty : TypeId} (hd : Dn a d) (h : wpO E all l k ((a.mem (a.m.new (.map []))).upd d (.map (some a.m.next))) Q) : wpO E all (⟨some d, .makeMap ty none, t, pos, af, none⟩ :: l) k a Q := ewpO_makeMap rfl hd.h h
theorem g_run {as : Array Operand} {at_ : Array TypeId} {f : Operand} {g : Nat} {first cap vs : List Value} {R : Value → Mem → Prop} (hf : Ev a f (.func (.func g) ⟨first⟩ ⟨cap⟩)) (ha : Evl a as.toList vs) (hr : Rn E g (first ++ vs ++ cap) a.m R) (hd : Dn a d)
  (h : Cn (∀ v m', R v m' → wpO E all l k ((a.mem m').upd d v) Q)) : wpO E all (⟨some d, .call ⟨.value f, as, at_⟩, t, pos, af, none⟩ :: l) k a Q := ewpO_run rfl rfl (target_of rfl hf.h ha.h) hr.h hd.h h.h
theorem g_run0 {as : Array Operand} {at_ : Array TypeId} {f : Operand} {g : Nat} {first cap vs : List Value} {R : Value → Mem → Prop} (hf : Ev a f (.func (.func g) ⟨first⟩ ⟨cap⟩)) (ha : Evl a as.toList vs) (hr : Rn E g (first ++ vs ++ cap) a.m R)
  (h : Cn (∀ v m', R v m' → wpO E all l k (a.mem m') Q)) : wpO E all (⟨none, .call ⟨.value f, as, at_⟩, t, pos, af, none⟩ :: l) k a Q := ewpO_run0 rfl rfl (target_of rfl hf.h ha.h) hr.h h.h
/-- what a comparison asks. -/
inductive Cp : BinOp → Value → Value → Prop → Prop where
 | lss {kd : IntKind} {p q : Int} : Cp .lss (.int kd p) (.int kd q) (p < q)
 | leq {kd : IntKind} {p q : Int} : Cp .leq (.int kd p) (.int kd q) (p ≤ q)
 | gtr {kd : IntKind} {p q : Int} : Cp .gtr (.int kd p) (.int kd q) (q < p)
 | geq {kd : IntKind} {p q : Int} : Cp .geq (.int kd p) (.int kd q) (q ≤ p)
 | eql {kd : IntKind} {p q : Int} : Cp .eql (.int kd p) (.int kd q) (p = q)
 | neq {kd : IntKind} {p q : Int} : Cp .neq (.int kd p) (.int kd q) (p ≠ q)
 | seql {p q : List UInt8} : Cp .eql (.string ⟨⟨p⟩⟩) (.string ⟨⟨q⟩⟩) (p = q)
 | sneq {p q : List UInt8} : Cp .neq (.string ⟨⟨p⟩⟩) (.string ⟨⟨q⟩⟩) (p ≠ q)
inductive Dc : Prop → Bool → Prop where
 | t {P : Prop} (h : P) : Dc P true
 | f {P : Prop} (h : ¬ P) : Dc P false
theorem Dc.r {α : Type} {x : α} : Dc (x = x) true := .t rfl
theorem Dc.s {α : Type} {x : α} : Dc (x ≠ x) false := .f fun h => h rfl
theorem Cp.bin {m : Mem} {ts : TypeId} {bop : BinOp} {p q : Value} {P : Prop} {r : Bool} (hc : Cp bop p q P) (hr : Dc P r) : Bn E m bop ts p q (.bool r) := by
 cases hc <;> cases hr
 ·exact .mk (b_lss (decide_eq_true ‹_›))
 ·exact .mk (b_lss (decide_eq_false ‹_›))
 ·exact .mk (b_leq (decide_eq_true ‹_›))
 ·exact .mk (b_leq (decide_eq_false ‹_›))
 ·exact .mk (b_gtr (decide_eq_true ‹_›))
 ·exact .mk (b_gtr (decide_eq_false ‹_›))
 ·exact .mk (b_geq (decide_eq_true ‹_›))
 ·exact .mk (b_geq (decide_eq_false ‹_›))
 ·exact .mk (b_eql (decide_eq_true ‹_›))
 ·exact .mk (b_eql (decide_eq_false ‹_›))
 ·exact .mk (b_neq (neq_true ‹_›))
 ·exact .mk (b_neq (neq_false (Decidable.not_not.1 ‹_›)))
 ·exact .mk (b_seql (by rw [beqb]; exact decide_eq_true ‹_›))
 ·exact .mk (b_seql (by rw [beqb]; exact decide_eq_false ‹_›))
 ·exact .mk (b_sneq (by rw [beqb, decide_eq_false ‹_›]; rfl))
 ·exact .mk (b_sneq (by rw [beqb, decide_eq_true (Decidable.not_not.1 ‹_›)]; rfl))
/-- both answers. -/
theorem g_split {x y : Operand} {bop : BinOp} {p q : Value} {ts ty : TypeId} {P : Prop} (hx : Ev a x p) (hy : Ev a y q) (hc : Cp bop p q P) (hd : Dn a d)
  (h1 : P → wpO E all l k (a.upd d (.bool true)) Q) (h2 : ¬ P → wpO E all l k (a.upd d (.bool false)) Q) : wpO E all (⟨some d, .binOp bop ts x y ty, t, pos, af, none⟩ :: l) k a Q := by
 by_cases h : P
 ·exact g_bin hx hy (hc.bin (.t h)) hd (h1 h)
 ·exact g_bin hx hy (hc.bin (.f h)) hd (h2 h)
end

section
variable {m : Mem} {t : TypeId} {a b : Int}
theorem n_add {s : Int} (hr : a + b = s) (h : -9223372036854775808 ≤ s ∧ s ≤ 9223372036854775807) : Bn E m .add t (.int .i64 a) (.int .i64 b) (.int .i64 s) := .mk (b_add hr h)
theorem n_sub {s : Int} (hr : a - b = s) (h : -9223372036854775808 ≤ s ∧ s ≤ 9223372036854775807) : Bn E m .sub t (.int .i64 a) (.int .i64 b) (.int .i64 s) := .mk (b_sub hr h)
/-- a slice against nil. -/
theorem n_peq {e : Nat} {s : Option Addr} {n c : Nat} {r : Bool} (hu : Rf (E.under t) (some (.slice e))) (hr : Rf s.isNone r) : Bn E m .eql t (.slice s n c) (.slice none 0 0) (.bool r) := .mk (b_peqNil hu.h hr.h)
theorem n_pne {e : Nat} {s : Option Addr} {n c : Nat} {r : Bool} (hu : Rf (E.under t) (some (.slice e))) (hr : Rf s.isSome r) : Bn E m .neq t (.slice s n c) (.slice none 0 0) (.bool r) := .mk (b_pneNil hu.h hr.h)
end

/-! The end of a function. -/
inductive Rs (a : Act) : List ResultVar → List Value → Prop where
 | nil : Rs a [] []
 | cons {t : Nat} {l : List ResultVar} {r : List Value} {v : Value} (hv : Ev a (.tmp t) v) (h : Rs a l r) : Rs a (.tmp t :: l) (v :: r)
theorem Rs.h {a : Act} : ∀ {l : List ResultVar} {r : List Value}, Rs a l r → results E a l = some r
 | _, _, .nil => rfl
 | _, _, .cons hv h => res_tmp hv.h h.h
theorem g_fin {rs : List ResultVar} {Q : Value → Mem → Prop} {a : Act} {vs : List Value} (hr : Rs a rs vs) (hd : a.defers = []) (h : Q (one vs) a.m) : ret E [] .ret a (fin E rs Q) := eret_nil (fin_ret hd hr.h h)
/-- a store. -/
def Ld0 (x y : Option Mem) : Prop := x = y
theorem g_store {all l : List Oper} {k : List Kont} {a : Act} {Q : Ex → Act → Prop} {t : TypeId} {pos : String} {af : Array Edge} {v : Value} {ts : TypeId} {x y : Operand} {b o : Nat} {m' : Mem} (hx : Ev a x (.pointer (some ⟨b, o, none⟩))) (hy : Ev a y v) (hs : Ld0 (storeAt E a.m ts b o v) (some m'))
  (h : wpO E all l k (a.mem m') Q) : wpO E all (⟨none, .store ts x y, t, pos, af, none⟩ :: l) k a Q := ewpO_store rfl hx.h hy.h hs h
/-- one step of any kind. -/
inductive G : Prop → Prop where
 | wseq {E : Env} {k : List Kont} {a : Act} {Q : Ex → Act → Prop} {x : Code} {y : Code} (h : wp E x (.seq y :: k) a Q) : G (wp E (.seq x y) k a Q)
 | rseq {E : Env} {k : List Kont} {a : Act} {Q : Ex → Act → Prop} {y : Code} (h : wp E y k a Q) : G (ret E (.seq y :: k) .normal a Q)
 | wskip {E : Env} {k : List Kont} {a : Act} {Q : Ex → Act → Prop} (h : ret E k .normal a Q) : G (wp E .skip k a Q)
 | wregion {E : Env} {k : List Kont} {a : Act} {Q : Ex → Act → Prop} {i : Nat} {ops : Array Oper} (h : wpO E ops.toList ops.toList k a Q) : G (wp E (.region i ops false) k a Q)
 | onil {E : Env} {k : List Kont} {a : Act} {Q : Ex → Act → Prop} {all : List Oper} (h : ret E k .normal a Q) : G (wpO E all [] k a Q)
 | wblock {E : Env} {k : List Kont} {a : Act} {Q : Ex → Act → Prop} {x : Code} {i : Nat} (h : wp E x (.block i :: k) a Q) : G (wp E (.block i x) k a Q)
 | rblock {E : Env} {k : List Kont} {a : Act} {Q : Ex → Act → Prop} {i : Nat} (h : ret E k .normal a Q) : G (ret E (.block i :: k) .normal a Q)
 | wexit {E : Env} {k : List Kont} {a : Act} {Q : Ex → Act → Prop} {i : Nat} (h : ret E k (.exit i) a Q) : G (wp E (.exit i) k a Q)
 | rseq_exit {E : Env} {k : List Kont} {a : Act} {Q : Ex → Act → Prop} {y : Code} {i : Nat} (h : ret E k (.exit i) a Q) : G (ret E (.seq y :: k) (.exit i) a Q)
 | rloop_exit {E : Env} {k : List Kont} {a : Act} {Q : Ex → Act → Prop} {x : Code} {i : Nat} (h : ret E k (.exit i) a Q) : G (ret E (.loop x :: k) (.exit i) a Q)
 | wret {E : Env} {k : List Kont} {a : Act} {Q : Ex → Act → Prop} (h : ret E k .ret a Q) : G (wp E .ret k a Q)
 | rseq_ret {E : Env} {k : List Kont} {a : Act} {Q : Ex → Act → Prop} {y : Code} (h : ret E k .ret a Q) : G (ret E (.seq y :: k) .ret a Q)
 | rblock_ret {E : Env} {k : List Kont} {a : Act} {Q : Ex → Act → Prop} {i : Nat} (h : ret E k .ret a Q) : G (ret E (.block i :: k) .ret a Q)
 | rloop_ret {E : Env} {k : List Kont} {a : Act} {Q : Ex → Act → Prop} {x : Code} (h : ret E k .ret a Q) : G (ret E (.loop x :: k) .ret a Q)
 | wlabel {E : Env} {k : List Kont} {a : Act} {Q : Ex → Act → Prop} {l : Nat} (h : ret E k .normal a Q) : G (wp E (.label l) k a Q)
 | sT  {p q : Prop} (h : p) : G (Sel true p q)
 | sF  {p q : Prop} (h : q) : G (Sel false p q)
 | cond {E : Env} {k : List Kont} {a : Act} {Q : Ex → Act → Prop} {x : Code} {y : Code} {c : Operand} {b : Bool} (hc : Ev a c (.bool b)) (h : Sel b (wp E x k a Q) (wp E y k a Q)) : G (wp E (.cond c x y) k a Q)
 | block {E : Env} {k : List Kont} {a : Act} {Q : Ex → Act → Prop} {i j : Nat} {b : Bool} (hb : Rf (Nat.beq j i) b) (h : Sel b (ret E k .normal a Q) (ret E k (.exit j) a Q)) : G (ret E (.block i :: k) (.exit j) a Q)
 | regionD {E : Env} {k : List Kont} {a : Act} {Q : Ex → Act → Prop} {i : Nat} {ops : Array Oper} (hp : Kr (planText E ops.toList = true)) (h : wpO E ops.toList ops.toList k a Q) : G (wp E (.region i ops true) k a Q)
 | guard {E : Env} {all : List Oper} {l : List Oper} {k : List Kont} {a : Act} {Q : Ex → Act → Prop} {d : Nat} {op : Op} {t : TypeId} {pos : String} {af : Array Edge} {v : Value} {j dj : Nat} {b' r : Bool} (h1 : Rf (gdst all j) (some dj)) (h2 : Ev a (.tmp dj) v) (h3 : Rf (isB v b') r) (hd : Dn a d) (h : Sel r (wpO E all (⟨some d, op, t, pos, af, none⟩ :: l) k a Q) (wpO E all l k (a.upd d undef) Q)) : G (wpO E all (⟨some d, op, t, pos, af, some (j, b')⟩ :: l) k a Q)
 | guard0 {E : Env} {all : List Oper} {l : List Oper} {k : List Kont} {a : Act} {Q : Ex → Act → Prop} {op : Op} {t : TypeId} {pos : String} {af : Array Edge} {v : Value} {j dj : Nat} {b' r : Bool} (h1 : Rf (gdst all j) (some dj)) (h2 : Ev a (.tmp dj) v) (h3 : Rf (isB v b') r) (h : Sel r (wpO E all (⟨none, op, t, pos, af, none⟩ :: l) k a Q) (wpO E all l k a Q)) : G (wpO E all (⟨none, op, t, pos, af, some (j, b')⟩ :: l) k a Q)
 | move {E : Env} {all : List Oper} {l : List Oper} {k : List Kont} {a : Act} {Q : Ex → Act → Prop} {d : Nat} {t : TypeId} {pos : String} {af : Array Edge} {v : Value} {x : Operand} (hx : Ev a x v) (hd : Dn a d) (h : wpO E all l k (a.upd d v) Q) : G (wpO E all (⟨some d, .move x, t, pos, af, none⟩ :: l) k a Q)
 | assign {E : Env} {all : List Oper} {l : List Oper} {k : List Kont} {a : Act} {Q : Ex → Act → Prop} {d : Nat} {t : TypeId} {pos : String} {af : Array Edge} {v : Value} {x : Operand} (hx : Ev a x v) (hd : Dn a d) (h : wpO E all l k (a.upd d v) Q) : G (wpO E all (⟨some d, .assign x, t, pos, af, none⟩ :: l) k a Q)
 | load {E : Env} {all : List Oper} {l : List Oper} {k : List Kont} {a : Act} {Q : Ex → Act → Prop} {d : Nat} {t : TypeId} {pos : String} {af : Array Edge} {v : Value} {x : Operand} {ty b o : Nat} (hx : Ev a x (.pointer (some ⟨b, o, none⟩))) (hl : Ld E a.m ty b o v) (hd : Dn a d) (h : wpO E all l k (a.upd d v) Q) : G (wpO E all (⟨some d, .load ty x, t, pos, af, none⟩ :: l) k a Q)
 | bin {E : Env} {all : List Oper} {l : List Oper} {k : List Kont} {a : Act} {Q : Ex → Act → Prop} {d : Nat} {t : TypeId} {pos : String} {af : Array Edge} {v : Value} {x y : Operand} {bop : BinOp} {p q : Value} {ts ty : TypeId} (hx : Ev a x p) (hy : Ev a y q) (hb : Bn E a.m bop ts p q v) (hd : Dn a d) (h : wpO E all l k (a.upd d v) Q) : G (wpO E all (⟨some d, .binOp bop ts x y ty, t, pos, af, none⟩ :: l) k a Q)
 | un {E : Env} {all : List Oper} {l : List Oper} {k : List Kont} {a : Act} {Q : Ex → Act → Prop} {d : Nat} {t : TypeId} {pos : String} {af : Array Edge} {v : Value} {x : Operand} {uop : UnOp} {p : Value} {ts : TypeId} (hx : Ev a x p) (hb : Rf (unOp uop p) (some v)) (hd : Dn a d) (h : wpO E all l k (a.upd d v) Q) : G (wpO E all (⟨some d, .unOp uop ts x, t, pos, af, none⟩ :: l) k a Q)
 | pick {E : Env} {all : List Oper} {l : List Oper} {k : List Kont} {a : Act} {Q : Ex → Act → Prop} {d : Nat} {t : TypeId} {pos : String} {af : Array Edge} {c x y : Operand} {b : Bool} {vx vy : Value} (hc : Ev a c (.bool b)) (hx : Ev a x vx) (hy : Ev a y vy) (hd : Dn a d) (h : Sel b (wpO E all l k (a.upd d vx) Q) (wpO E all l k (a.upd d vy) Q)) : G (wpO E all (⟨some d, .pick c x y, t, pos, af, none⟩ :: l) k a Q)
 | nil {E : Env} {all : List Oper} {l : List Oper} {k : List Kont} {a : Act} {Q : Ex → Act → Prop} {d : Nat} {t : TypeId} {pos : String} {af : Array Edge} {x : Operand} {p : Addr} (hx : Ev a x (.pointer (some p))) (hd : Dn a d) (h : wpO E all l k (a.upd d (.pointer (some p))) Q) : G (wpO E all (⟨some d, .nilCheck x, t, pos, af, none⟩ :: l) k a Q)
 | nil0 {E : Env} {all : List Oper} {l : List Oper} {k : List Kont} {a : Act} {Q : Ex → Act → Prop} {t : TypeId} {pos : String} {af : Array Edge} {x : Operand} {p : Addr} (hx : Ev a x (.pointer (some p))) (h : wpO E all l k a Q) : G (wpO E all (⟨none, .nilCheck x, t, pos, af, none⟩ :: l) k a Q)
 | fieldAddr {E : Env} {all : List Oper} {l : List Oper} {k : List Kont} {a : Act} {Q : Ex → Act → Prop} {d : Nat} {t : TypeId} {pos : String} {af : Array Edge} {ts : TypeId} {x : Operand} {f b o sz : Nat} {fs : Array Field} {fd : Field} (hu : Rf (E.under ts) (some (.struct fs))) (hx : Ev a x (.pointer (some ⟨b, o, none⟩))) (hf : Rf (nth fs.toList f) (some fd)) (hs : Rf (E.size fd.type) (some (sz + 1))) (hd : Dn a d) (h : wpO E all l k (a.upd d (.pointer (some ⟨b, o + fd.offset, none⟩))) Q) : G (wpO E all (⟨some d, .fieldAddr ts x f, t, pos, af, none⟩ :: l) k a Q)
 | indexAddr {E : Env} {all : List Oper} {l : List Oper} {k : List Kont} {a : Act} {Q : Ex → Act → Prop} {d : Nat} {t : TypeId} {pos : String} {af : Array Edge} {v : Value} {ts : TypeId} {x y : Operand} {e b o len j sz : Nat} {kd : IntKind} (hx : Ev a x v) (hu : Rf (rowOf (E.under ts) v) (some (e, b, o, len))) (hi : Ev a y (.int kd (Int.ofNat j))) (hj : Om (j < len)) (hs : Rf (E.size e) (some sz)) (hd : Dn a d) (h : wpO E all l k (a.upd d (.pointer (some ⟨b, o + j * sz, none⟩))) Q) : G (wpO E all (⟨some d, .indexAddr ts x y, t, pos, af, none⟩ :: l) k a Q)
 | indexS {E : Env} {all : List Oper} {l : List Oper} {k : List Kont} {a : Act} {Q : Ex → Act → Prop} {d : Nat} {t : TypeId} {pos : String} {af : Array Edge} {ts : TypeId} {x y : Operand} {s : List UInt8} {j : Nat} {kd : IntKind} {c : UInt8} (hu : Rf (E.under ts) (some .string)) (hx : Ev a x (.string ⟨⟨s⟩⟩)) (hi : Ev a y (.int kd (Int.ofNat j))) (hc : Hy (nth s j = some c)) (hd : Dn a d) (h : wpO E all l k (a.upd d (.int .u8 c.toNat)) Q) : G (wpO E all (⟨some d, .index ts x y, t, pos, af, none⟩ :: l) k a Q)
 | field {E : Env} {all : List Oper} {l : List Oper} {k : List Kont} {a : Act} {Q : Ex → Act → Prop} {d : Nat} {t : TypeId} {pos : String} {af : Array Edge} {v : Value} {ts : TypeId} {x : Operand} {f sz : Nat} {fs : Array Field} {fd : Field} {vs : List Value} {du : TypeDesc} {ag : Bool} (hu : Rf (E.under ts) (some (.struct fs))) (hx : Ev a x (.agg ⟨vs⟩)) (hf : Rf (nth fs.toList f) (some fd)) (hs : Rf (E.size fd.type) (some sz)) (hdu : Rf (E.under fd.type) (some du)) (ha : Rf (isAggD du) ag) (hv : Rf (fldV ag vs fd.offset sz) (some v)) (hd : Dn a d) (h : wpO E all l k (a.upd d v) Q) : G (wpO E all (⟨some d, .field ts x f, t, pos, af, none⟩ :: l) k a Q)
 | len {E : Env} {all : List Oper} {l : List Oper} {k : List Kont} {a : Act} {Q : Ex → Act → Prop} {d : Nat} {t : TypeId} {pos : String} {af : Array Edge} {v : Value} {ts : TypeId} {x : Operand} {n : Nat} (hv : Ev a x v) (hn : Rf (lenV (E.under ts) v) (some n)) (hd : Dn a d) (h : wpO E all l k (a.upd d (.int .i64 n)) Q) : G (wpO E all (⟨some d, .call ⟨.builtin .len, #[x], #[ts]⟩, t, pos, af, none⟩ :: l) k a Q)
 | max {E : Env} {all : List Oper} {l : List Oper} {k : List Kont} {a : Act} {Q : Ex → Act → Prop} {d : Nat} {t : TypeId} {pos : String} {af : Array Edge} {at_ : Array TypeId} {x y : Operand} {kd kd' : IntKind} {p q r : Int} (h1 : Ev a x (.int kd p)) (h2 : Ev a y (.int kd' q)) (hr : Rf (max p q) r) (hd : Dn a d) (h : wpO E all l k (a.upd d (.int kd r)) Q) : G (wpO E all (⟨some d, .call ⟨.builtin .max, #[x, y], at_⟩, t, pos, af, none⟩ :: l) k a Q)
 | min {E : Env} {all : List Oper} {l : List Oper} {k : List Kont} {a : Act} {Q : Ex → Act → Prop} {d : Nat} {t : TypeId} {pos : String} {af : Array Edge} {at_ : Array TypeId} {x y : Operand} {kd kd' : IntKind} {p q r : Int} (h1 : Ev a x (.int kd p)) (h2 : Ev a y (.int kd' q)) (hr : Rf (min p q) r) (hd : Dn a d) (h : wpO E all l k (a.upd d (.int kd r)) Q) : G (wpO E all (⟨some d, .call ⟨.builtin .min, #[x, y], at_⟩, t, pos, af, none⟩ :: l) k a Q)
 | extract {E : Env} {all : List Oper} {l : List Oper} {k : List Kont} {a : Act} {Q : Ex → Act → Prop} {d : Nat} {t : TypeId} {pos : String} {af : Array Edge} {v : Value} {x : Operand} {i : Nat} {vs : List Value} (hx : Ev a x (.tuple ⟨vs⟩)) (hv : Rf (nth vs i) (some v)) (hd : Dn a d) (h : wpO E all l k (a.upd d v) Q) : G (wpO E all (⟨some d, .extract x i, t, pos, af, none⟩ :: l) k a Q)
 | sliceHi {E : Env} {all : List Oper} {l : List Oper} {k : List Kont} {a : Act} {Q : Ex → Act → Prop} {d : Nat} {t : TypeId} {pos : String} {af : Array Edge} {ts : TypeId} {x y : Operand} {e b o len cap n sz : Nat} {kd : IntKind} (hu : Rf (E.under ts) (some (.slice e))) (hx : Ev a x (.slice (some ⟨b, o, none⟩) len cap)) (hy : Ev a y (.int kd (Int.ofNat n))) (hh : Om (n ≤ cap)) (hs : Rf (E.size e) (some sz)) (hd : Dn a d) (h : wpO E all l k (a.upd d (.slice (some ⟨b, o, none⟩) n cap)) Q) : G (wpO E all (⟨some d, .slice ts x none (some y) none, t, pos, af, none⟩ :: l) k a Q)
 | build {E : Env} {all : List Oper} {l : List Oper} {k : List Kont} {a : Act} {Q : Ex → Act → Prop} {d : Nat} {t : TypeId} {pos : String} {af : Array Edge} {ts : TypeId} {z : Value} {parts : Array (Nat × Operand)} {ps : List (Nat × Value)} {r : List Value} (hz : Rf (E.zero ts) (some z)) (hp : Evp a parts.toList ps) (hf : Rf (partsV E ts z ps) (some r)) (hd : Dn a d) (h : wpO E all l k (a.upd d (.agg ⟨r⟩)) Q) : G (wpO E all (⟨some d, .build ts parts, t, pos, af, none⟩ :: l) k a Q)
 | box {E : Env} {all : List Oper} {l : List Oper} {k : List Kont} {a : Act} {Q : Ex → Act → Prop} {d : Nat} {t : TypeId} {pos : String} {af : Array Edge} {v : Value} {e : TypeId} {x : Operand} {r : List Value} (hx : Ev a x v) (hl : Rf (cellsOf v) r) (hn : Rf (Nat.ble r.length 1000000000) true) (hd : Dn a d) (h : wpO E all l k ((a.mem (a.m.new (rowObj r e 0))).upd d (.pointer (some ⟨a.m.next, 0, none⟩))) Q) : G (wpO E all (⟨some d, .box e x, t, pos, af, none⟩ :: l) k a Q)
 | new {E : Env} {all : List Oper} {l : List Oper} {k : List Kont} {a : Act} {Q : Ex → Act → Prop} {d : Nat} {t : TypeId} {pos : String} {af : Array Edge} {e : TypeId} {z : Value} {r : List Value} (hz : Rf (E.zero e) (some z)) (hl : Rf (cellsOf z) r) (hn : Rf (Nat.ble r.length 1000000000) true) (hd : Dn a d) (h : wpO E all l k ((a.mem (a.m.new (rowObj r e 0))).upd d (.pointer (some ⟨a.m.next, 0, none⟩))) Q) : G (wpO E all (⟨some d, .alloc e, t, pos, af, none⟩ :: l) k a Q)
 | buildSlice {E : Env} {all : List Oper} {l : List Oper} {k : List Kont} {a : Act} {Q : Ex → Act → Prop} {d : Nat} {t : TypeId} {pos : String} {af : Array Edge} {ts : TypeId} {len e sz : Nat} {z : Value} {parts : Array (Nat × Operand)} {ps : List (Nat × Value)} {r : List Value} (hu : Rf (E.under ts) (some (.slice e))) (hs : Rf (E.size e) (some sz)) (hz : Rf (E.zero e) (some z)) (hb : Rf (Nat.ble (len * sz) 10000000 && Nat.beq (cellsOf z).length sz) true) (hp : Evp a parts.toList ps) (hf : Rf (fill (fun i => some (i * sz, sz)) (repeatList (cellsOf z) len) ps) (some r)) (hn : Rf (Nat.ble r.length 1000000000) true) (hd : Dn a d) (h : wpO E all l k ((a.mem (a.m.new (rowObj r e 0))).upd d (.slice (some ⟨a.m.next, 0, none⟩) len len)) Q) : G (wpO E all (⟨some d, .buildSlice ts len parts, t, pos, af, none⟩ :: l) k a Q)
 | makeMap {E : Env} {all : List Oper} {l : List Oper} {k : List Kont} {a : Act} {Q : Ex → Act → Prop} {d : Nat} {t : TypeId} {pos : String} {af : Array Edge} {ty : TypeId} (hd : Dn a d) (h : wpO E all l k ((a.mem (a.m.new (.map []))).upd d (.map (some a.m.next))) Q) : G (wpO E all (⟨some d, .makeMap ty none, t, pos, af, none⟩ :: l) k a Q)
theorem G.h {P : Prop} (g : G P) : P := by
 cases g with
 | wseq h => exact ewp_seq h
 | rseq h => exact eret_seq h
 | wskip h => exact ewp_skip h
 | wregion h => exact ewp_region h
 | onil h => exact ewpO_nil h
 | wblock h => exact ewp_block h
 | rblock h => exact eret_block h
 | wexit h => exact ewp_exit h
 | rseq_exit h => exact eret_seq_exit h
 | rloop_exit h => exact eret_loop_exit h
 | wret h => exact ewp_ret h
 | rseq_ret h => exact eret_seq_ret h
 | rblock_ret h => exact eret_block_ret h
 | rloop_ret h => exact eret_loop_ret h
 | wlabel h => exact ewp_label h
 | sT h => exact g_T h
 | sF h => exact g_F h
 | cond hc h => exact g_cond hc h
 | block hb h => exact g_block hb h
 | regionD hp h => exact g_regionD hp h
 | guard h1 h2 h3 hd h => exact g_guard h1 h2 h3 hd h
 | guard0 h1 h2 h3 h => exact g_guard0 h1 h2 h3 h
 | move hx hd h => exact g_move hx hd h
 | assign hx hd h => exact g_assign hx hd h
 | load hx hl hd h => exact g_load hx hl hd h
 | bin hx hy hb hd h => exact g_bin hx hy hb hd h
 | un hx hb hd h => exact g_un hx hb hd h
 | pick hc hx hy hd h => exact g_pick hc hx hy hd h
 | nil hx hd h => exact g_nil hx hd h
 | nil0 hx h => exact g_nil0 hx h
 | fieldAddr hu hx hf hs hd h => exact g_fieldAddr hu hx hf hs hd h
 | indexAddr hx hu hi hj hs hd h => exact g_indexAddr hx hu hi hj hs hd h
 | indexS hu hx hi hc hd h => exact g_indexS hu hx hi hc hd h
 | field hu hx hf hs hdu ha hv hd h => exact g_field hu hx hf hs hdu ha hv hd h
 | len hv hn hd h => exact g_len hv hn hd h
 | max h1 h2 hr hd h => exact g_max h1 h2 hr hd h
 | min h1 h2 hr hd h => exact g_min h1 h2 hr hd h
 | extract hx hv hd h => exact g_extract hx hv hd h
 | sliceHi hu hx hy hh hs hd h => exact g_sliceHi hu hx hy hh hs hd h
 | build hz hp hf hd h => exact g_build hz hp hf hd h
 | box hx hl hn hd h => exact g_box hx hl hn hd h
 | new hz hl hn hd h => exact g_new hz hl hn hd h
 | buildSlice hu hs hz hb hp hf hn hd h => exact g_buildSlice hu hs hz hb hp hf hn hd h
 | makeMap hd h => exact g_makeMap hd h

/-- a comparison or a sum, by what is at hand. -/
inductive Bx (E : Env) (m : Mem) (op : BinOp) (t : TypeId) (p q v : Value) : Prop where
 | mk (h : Bn E m op t p q v)
theorem Bk {m : Mem} {op : BinOp} {t : TypeId} {p q v : Value} : Bx E m op t p q v → Bn E m op t p q v | .mk h => h
theorem BxS {m : Mem} {op : BinOp} {t : TypeId} {p q v : Value} (h : Bn E m op t p q v := by first | (apply Cp.bin; (focus constructor); first | with_reducible exact Dc.r | with_reducible exact Dc.s | (apply Dc.t; first | with_reducible assumption | omega | fail) | (apply Dc.f; first | with_reducible assumption | omega | fail) | fail) | (apply n_add; (focus (first | (with_reducible (first | exact nadd1 _ | exact nadd2 _ | exact nadd3 _ | exact nladd1 _ | exact nladd2 _ | exact nladd3 _ | exact nadd _ _ | fail)) | rfl | fail)); omega) | (apply n_sub; (focus (first | (with_reducible first | exact nsub1 _ (by omega) | exact nsub _ _ (by omega) | fail) | rfl | fail)); omega) | ((first | apply n_peq | apply n_pne | fail); exact Rf.mk; exact Rf.mk) | ((first | apply n_ptrEq | apply n_ptrNe | fail); exact Rf.mk; exact Rf.mk) | (exact n_useNe _ _) | (exact n_cat _ _ (by assumption)) | (exact n_capNe _ _)) : Bx E m op t p q v := .mk h
theorem Os {p : Prop} (h : p := by first | omega | exact Nat.le_of_ble_eq_true rfl) : Om p := .mk h
/-- what closes by itself. -/
theorem Zc {p : Prop} (h : p := by first | exact Rf.mk | (apply Bk; exact BxS) | (apply Om.mk; first | omega | assumption | exact Nat.le_of_ble_eq_true rfl) | (apply Hy.mk; assumption) | (apply Kr.mk; decide +kernel)) : p := h
/-- a goal that stays. -/
class Wt (p : Prop) : Prop where
 t : True
section
variable {E : Env} {k : List Kont} {a : Act} {Q : Ex → Act → Prop}
instance {c : Code} : Wt (wp E c k a Q) := ⟨trivial⟩
instance {ex : Ex} : Wt (ret E k ex a Q) := ⟨trivial⟩
instance {all l : List Oper} : Wt (wpO E all l k a Q) := ⟨trivial⟩
instance {b : Bool} {p q : Prop} : Wt (Sel b p q) := ⟨trivial⟩
theorem gI {p : Prop} [Wt p] (h : p) : p := h
theorem Y0 : Evp a [] [] := .nil
theorem Y1 {i : Nat} {x : Operand} {v : Value} {l : List (Nat × Operand)} {r : List (Nat × Value)} (h : Ev a x v) (hl : Evp a l r) : Evp a ((i, x) :: l) ((i, v) :: r) := .cons h hl
theorem Y2 : Evl a [] [] := .nil
theorem Y3 {x : Operand} {v : Value} {l : List Operand} {r : List Value} (h : Ev a x v) (hl : Evl a l r) : Evl a (x :: l) (v :: r) := .cons h hl
theorem Y4 {x : Operand} {v : Value} (h : a.eval x = v) : Ev a x v := .mk h
theorem Y5 {d : Nat} (h : Nat.blt d a.n = true) : Dn a d := .mk h
theorem Y6 {m : Mem} {t : TypeId} {b o : Nat} {v : Value} (h : loadAt E m t b o = some v) : Ld E m t b o v := .mk h
end
end Go.Ev

namespace Go.Ev
set_option linter.unusedSimpArgs false
set_option linter.unusedVariables false
open Go
section
variable {E : Env} {all l : List Oper} {k : List Kont} {a : Act} {Q : Ex → Act → Prop} {d : Nat} {t : TypeId} {pos : String} {af : Array Edge}
/-- a part of a slice. -/
theorem g_slice2 {ts : TypeId} {x ylo yhi : Operand} {e b o len cap lo hi sz : Nat} {kd kd' : IntKind} (hu : Rf (E.under ts) (some (.slice e))) (hx : Ev a x (.slice (some ⟨b, o, none⟩) len cap)) (hlo : Ev a ylo (.int kd (Int.ofNat lo))) (hhi : Ev a yhi (.int kd' (Int.ofNat hi))) (h1 : Om (lo ≤ hi)) (h2 : Om (hi ≤ cap)) (h3 : Om (lo < cap)) (hs : Rf (E.size e) (some sz)) (hd : Dn a d)
  (h : wpO E all l k (a.upd d (.slice (some ⟨b, o + lo * sz, none⟩) (hi - lo) (cap - lo))) Q) : wpO E all (⟨some d, .slice ts x (some ylo) (some yhi) none, t, pos, af, none⟩ :: l) k a Q := by
 refine ewpO_quiet rfl ?_ hd.h h
 have e1 := hlo.h
 have e2 := hhi.h
 have b1 : Nat.ble lo hi = true := Nat.ble_eq_true_of_le h1.h
 have b2 : Nat.ble hi cap = true := Nat.ble_eq_true_of_le h2.h
 have b3 : Nat.blt lo cap = true := by rw [Nat.blt_eq]; exact h3.h
 simp only [quiet, hu.h, hx.h, bound, e1, e2, b1, b2, b3, hs.h, Bool.or_true, Bool.and_true, cond_true]
/-- bytes as a string. -/
theorem g_bytesStr {s ty : TypeId} {x : Operand} {e b o len cap n : Nat} {c : Tree Value} {el kd : Nat} {L : List Value} {r : List UInt8} (hs : Rf (E.under s) (some (.slice e))) (ht : Rf (E.under ty) (some .string)) (hu : Rf (E.under e) (some (.int .u8))) (hx : Ev a x (.slice (some ⟨b, o, none⟩) len cap)) (hm : Hy (a.m.get b = some (.cells n c el kd))) (hl : Hy (Nat.ble (o + len) n = true)) (hc : Hy (cellsFrom c o len = some L)) (hr : Hy (bytesOfCells L = some r)) (hd : Dn a d)
  (h : wpO E all l k (a.upd d (.string ⟨⟨r⟩⟩)) Q) : wpO E all (⟨some d, .convert s ty x, t, pos, af, none⟩ :: l) k a Q := by
 refine ewpO_quiet rfl ?_ hd.h h
 simp only [quiet, hs.h, ht.h, hx.h, hu.h, hm.h, hl.h, hc.h, hr.h, cond_true]
/-- a number as one of another kind. -/
theorem g_convI {s ty : TypeId} {x : Operand} {du : TypeDesc} {kd kd' : IntKind} {n w : Int} (hs : Rf (E.under s) (some du)) (ht : Rf (E.under ty) (some (.int kd))) (hx : Ev a x (.int kd' n)) (hw : Om (kd.wrap n = w)) (hd : Dn a d)
  (h : wpO E all l k (a.upd d (.int kd w)) Q) : wpO E all (⟨some d, .convert s ty x, t, pos, af, none⟩ :: l) k a Q := by
 refine ewpO_quiet rfl ?_ hd.h h
 have hx := hx.h
 have hw := hw.h
 cases du <;> simp only [quiet, hs.h, ht.h, hx, hw]
end
end Go.Ev
