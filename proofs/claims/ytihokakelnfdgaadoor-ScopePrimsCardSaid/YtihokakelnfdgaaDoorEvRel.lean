/- Part of an evaluator for closed runs, and of its proof (EvRel). -/
import Derived.Test.YtihokakelnfdgaaDoorEvDef
import Derived.Below
import Derived.Laws.Append
import Derived.Laws.CopyRow
import Derived.Lib.FrozenHead
namespace Go.Ev
open Go.RowKit
set_option linter.unusedVariables false
set_option linter.unusedSectionVars false

/-! ## The trie -/
namespace Tree
variable {α : Type}

theorem beq_true {a b : Nat} (h : a = b) : Nat.beq a b = true := by subst h; exact Nat.beq_refl a
theorem beq_false {a b : Nat} (h : a ≠ b) : Nat.beq a b = false := by
  cases hb : Nat.beq a b
  · rfl
  · exact absurd (Nat.eq_of_beq_eq_true hb) h

theorem get_set_same : ∀ (f : Nat) (t : Tree α) (i : Nat) (x : α), i + 1 < 2 ^ f → (t.set f i x).get i = some x := by
  intro f
  induction f with
  | zero => intro t i x h; simp at h
  | succ f ih =>
    intro t i x h
    by_cases h0 : i = 0
    · subst h0; cases t <;> simp [set, get]
    · have hb : Nat.beq i 0 = false := beq_false h0
      have hp : 2 ^ (f + 1) = 2 * 2 ^ f := by rw [Nat.pow_succ]; omega
      by_cases h1 : i % 2 = 1
      · have hb1 : Nat.beq (i % 2) 1 = true := beq_true h1
        have := ih (match t with | .leaf => .leaf | .node l _ _ => l) (i / 2) x (by omega)
        cases t <;> simpa [set, get, hb, hb1] using this
      · have hb1 : Nat.beq (i % 2) 1 = false := beq_false h1
        have := ih (match t with | .leaf => .leaf | .node _ _ r => r) (i / 2 - 1) x (by omega)
        cases t <;> simpa [set, get, hb, hb1] using this

theorem get_set_other : ∀ (f : Nat) (t : Tree α) (i j : Nat) (x : α), i ≠ j → (t.set f i x).get j = t.get j := by
  intro f
  induction f with
  | zero => intro t i j x h; rfl
  | succ f ih =>
    intro t i j x h
    have ihl := fun (l : Tree α) (a b : Nat) (hab : a ≠ b) => ih l a b x hab
    by_cases h0 : i = 0
    · subst h0
      have hj : Nat.beq j 0 = false := beq_false (fun e => h e.symm)
      cases t <;> simp [set, get, hj]
    · have hb : Nat.beq i 0 = false := beq_false h0
      by_cases hj0 : j = 0
      · subst hj0
        cases t <;> simp only [set, hb, cond_false] <;> cases Nat.beq (i % 2) 1 <;> simp [get]
      · have hbj : Nat.beq j 0 = false := beq_false hj0
        by_cases h1 : i % 2 = 1
        · have hb1 : Nat.beq (i % 2) 1 = true := beq_true h1
          by_cases h2 : j % 2 = 1
          · have hb2 : Nat.beq (j % 2) 1 = true := beq_true h2
            cases t <;> simp [set, get, hb, hb1, hbj, hb2] <;> rw [ihl _ _ _ (by omega)] <;> rfl
          · have hb2 : Nat.beq (j % 2) 1 = false := beq_false h2
            cases t <;> simp [set, get, hb, hb1, hbj, hb2]
        · have hb1 : Nat.beq (i % 2) 1 = false := beq_false h1
          by_cases h2 : j % 2 = 1
          · have hb2 : Nat.beq (j % 2) 1 = true := beq_true h2
            cases t <;> simp [set, get, hb, hb1, hbj, hb2]
          · have hb2 : Nat.beq (j % 2) 1 = false := beq_false h2
            cases t <;> simp [set, get, hb, hb1, hbj, hb2] <;> rw [ihl _ _ _ (by omega)] <;> rfl

theorem get_leaf (i : Nat) : (leaf : Tree α).get i = none := by cases i <;> rfl
end Tree

theorem pow_D : (2 : Nat) ^ D = 1099511627776 := by decide

theorem get_set_D {α : Type} (t : Tree α) (i : Nat) (x : α) (h : i ≤ 2000000000) : (t.set D i x).get i = some x :=
  Tree.get_set_same D t i x (by rw [pow_D]; omega)

/-- cells laid from i on. -/
theorem get_ofListFrom : ∀ (l : List Value) (c : Tree Value) (i j : Nat), i + l.length ≤ 2000000000 →
    (ofListFrom c i l).get j = if i ≤ j ∧ j < i + l.length then l[j - i]? else c.get j := by
  intro l
  induction l with
  | nil => intro c i j h; simp only [ofListFrom, List.length_nil, Nat.add_zero]; rw [if_neg (by omega)]
  | cons v l ih =>
    intro c i j h
    simp only [List.length_cons] at h
    simp only [ofListFrom]
    rw [ih _ _ _ (by omega)]
    by_cases hj : i + 1 ≤ j ∧ j < i + 1 + l.length
    · rw [if_pos hj, if_pos (by simp only [List.length_cons]; omega)]
      rw [show j - i = (j - (i + 1)) + 1 by omega]; rfl
    · rw [if_neg hj]
      by_cases hij : i = j
      · subst hij
        rw [get_set_D _ _ _ (by omega), if_pos (by simp only [List.length_cons]; omega)]; simp
      · rw [Tree.get_set_other _ _ _ _ _ hij, if_neg (by simp only [List.length_cons]; omega)]

/-! ## Values -/
/-- which block of the world an object's number means; how many places more a slice of it may have in the world. -/
structure Phi where
  to : Nat → Option Nat
  cap : Nat → Nat
instance : CoeFun Phi (fun _ => Nat → Option Nat) := ⟨Phi.to⟩

/-- a value of one cell without addresses. -/
def plainCell : Value → Bool
  | .bool _ | .int _ _ | .float _ _ | .complex _ _ _ | .string _ | .pointer none | .slice none _ _ | .map none | .chan none | .nilFunc | .nilIface => true
  | _ => false

/-- what the signs stand for. -/
class Sym where
  val : Nat → Option Value

/-- an integer or a string. -/
def tokOk : Value → Bool
  | .int _ _ | .string _ => true
  | _ => false

variable [Sym]

mutual
inductive VR (φ : Phi) : Value → Value → Prop where
  | bool (b : Bool) : VR φ (.bool b) (.bool b)
  | int (k : IntKind) (n : Int) : VR φ (.int k n) (.int k n)
  | float (k : FloatKind) (n : Nat) : VR φ (.float k n) (.float k n)
  | complex (k : FloatKind) (n m : Nat) : VR φ (.complex k n m) (.complex k n m)
  | string (s : ByteArray) : VR φ (.string s) (.string s)
  | pnil : VR φ (.pointer none) (.pointer none)
  | ptr {b b' : Nat} (o : Nat) (h : φ b = some b') : VR φ (.pointer (some ⟨b, o, none⟩)) (.pointer (some ⟨b', o, none⟩))
  | snil (n c : Nat) : VR φ (.slice none n c) (.slice none n c)
  | slice {b b' : Nat} (o n : Nat) {c c' : Nat} (h : φ b = some b') (hc : c ≤ c' ∧ c' ≤ c + φ.cap b) : VR φ (.slice (some ⟨b, o, none⟩) n c) (.slice (some ⟨b', o, none⟩) n c')
  | slost (b o s : Nat) (a : Addr) (c : Nat) : VR φ (.slice (some ⟨b, o, some s⟩) 0 0) (.slice (some a) 0 c)
  | mnil : VR φ (.map none) (.map none)
  | map {b b' : Nat} (h : φ b = some b') : VR φ (.map (some b)) (.map (some b'))
  | cnil : VR φ (.chan none) (.chan none)
  | func (fn : Fn) {f f' c c' : List Value} (hf : VRs φ f f') (hc : VRs φ c c') : VR φ (.func fn ⟨f⟩ ⟨c⟩) (.func fn ⟨f'⟩ ⟨c'⟩)
  | nilFunc : VR φ .nilFunc .nilFunc
  | iface (t : TypeId) {v v' : Value} (h : VR φ v v') : VR φ (.iface t v) (.iface t v')
  | nilIface : VR φ .nilIface .nilIface
  | agg {l l' : List Value} (h : VRs φ l l') : VR φ (.agg ⟨l⟩) (.agg ⟨l'⟩)
  | tuple {l l' : List Value} (h : VRs φ l l') : VR φ (.tuple ⟨l⟩) (.tuple ⟨l'⟩)
  | tok (n : Nat) {v : Value} (h : Sym.val n = some v) (hv : tokOk v = true) : VR φ (.chan (some n)) v
inductive VRs (φ : Phi) : List Value → List Value → Prop where
  | nil : VRs φ [] []
  | cons {v v' : Value} {l l' : List Value} (h : VR φ v v') (hl : VRs φ l l') : VRs φ (v :: l) (v' :: l')
end

def Phi.le (φ ψ : Phi) : Prop := ∀ b b', φ b = some b' → ψ b = some b' ∧ ψ.cap b = φ.cap b
theorem Phi.le_refl (φ : Phi) : φ.le φ := fun _ _ h => ⟨h, rfl⟩
theorem Phi.le.trans {φ ψ χ : Phi} (h : φ.le ψ) (k : ψ.le χ) : φ.le χ := fun b b' e => ⟨(k b b' (h b b' e).1).1, ((k b b' (h b b' e).1).2).trans (h b b' e).2⟩

mutual
theorem VR.mono {φ ψ : Phi} (hle : φ.le ψ) : ∀ {v v' : Value}, VR φ v v' → VR ψ v v'
  | _, _, .bool b => .bool b
  | _, _, .int k n => .int k n
  | _, _, .float k n => .float k n
  | _, _, .complex k n m => .complex k n m
  | _, _, .string s => .string s
  | _, _, .pnil => .pnil
  | _, _, .ptr o h => .ptr o (hle _ _ h).1
  | _, _, .snil n c => .snil n c
  | _, _, .slice o n h hc => .slice o n (hle _ _ h).1 (by rw [(hle _ _ h).2]; exact hc)
  | _, _, .slost b o s a c => .slost b o s a c
  | _, _, .mnil => .mnil
  | _, _, .map h => .map (hle _ _ h).1
  | _, _, .cnil => .cnil
  | _, _, .func fn hf hc => .func fn (VRs.mono hle hf) (VRs.mono hle hc)
  | _, _, .nilFunc => .nilFunc
  | _, _, .iface t h => .iface t (VR.mono hle h)
  | _, _, .nilIface => .nilIface
  | _, _, .agg h => .agg (VRs.mono hle h)
  | _, _, .tuple h => .tuple (VRs.mono hle h)
  | _, _, .tok n h hv => .tok n h hv
theorem VRs.mono {φ ψ : Phi} (hle : φ.le ψ) : ∀ {l l' : List Value}, VRs φ l l' → VRs ψ l l'
  | _, _, .nil => .nil
  | _, _, .cons h hl => .cons (VR.mono hle h) (VRs.mono hle hl)
end

theorem VRs.length {φ : Phi} : ∀ {l l' : List Value}, VRs φ l l' → l.length = l'.length
  | _, _, .nil => rfl
  | _, _, .cons _ hl => by simp [VRs.length hl]

theorem VRs.get {φ : Phi} : ∀ {l l' : List Value}, VRs φ l l' → ∀ (i : Nat) (v : Value), l[i]? = some v → ∃ v', l'[i]? = some v' ∧ VR φ v v'
  | _, _, .nil, i, v, h => by simp at h
  | _, _, .cons (v := x) (v' := x') h hl, 0, v, e => by
    obtain rfl : x = v := by simpa using e
    exact ⟨x', by simp, h⟩
  | _, _, .cons h hl, i + 1, v, e => by
    obtain ⟨v', h1, h2⟩ := VRs.get hl i v (by simpa using e)
    exact ⟨v', by simpa using h1, h2⟩

theorem VRs.of_get {φ : Phi} : ∀ {l l' : List Value}, l.length = l'.length → (∀ (i : Nat) (v v' : Value), l[i]? = some v → l'[i]? = some v' → VR φ v v') → VRs φ l l'
  | [], [], _, _ => .nil
  | x :: l, x' :: l', hlen, h => .cons (h 0 x x' (by simp) (by simp)) (VRs.of_get (by simpa using hlen) fun i v v' h1 h2 => h (i + 1) v v' (by simpa using h1) (by simpa using h2))
  | [], _ :: _, hlen, _ => by simp at hlen
  | _ :: _, [], hlen, _ => by simp at hlen

theorem VRs.append {φ : Phi} : ∀ {a a' b b' : List Value}, VRs φ a a' → VRs φ b b' → VRs φ (a ++ b) (a' ++ b')
  | _, _, _, _, .nil, hb => hb
  | _, _, _, _, .cons h hl, hb => .cons h (VRs.append hl hb)

theorem VRs.take {φ : Phi} : ∀ {a a' : List Value} (n : Nat), VRs φ a a' → VRs φ (a.take n) (a'.take n)
  | _, _, 0, _ => by simpa using VRs.nil
  | _, _, n + 1, .nil => by simpa using VRs.nil
  | _, _, n + 1, .cons h hl => by simpa using VRs.cons h (VRs.take n hl)

theorem VRs.drop {φ : Phi} : ∀ {a a' : List Value} (n : Nat), VRs φ a a' → VRs φ (a.drop n) (a'.drop n)
  | _, _, 0, h => h
  | _, _, n + 1, .nil => by simpa using VRs.nil
  | _, _, n + 1, .cons h hl => by simpa using VRs.drop n hl

theorem VR.cells {φ : Phi} {v v' : Value} (h : VR φ v v') : VRs φ (cellsOf v) v'.cells.toList := by
  cases h with
  | tok n h hv => cases hq : v' <;> rw [hq] at hv h <;> first | (exact .cons (.tok n h hv) .nil) | (simp [tokOk] at hv)
  | agg h => exact h
  | _ => exact .cons (by first | assumption | constructor <;> assumption) .nil

theorem VR.oneCell {φ : Phi} {v v' : Value} (h : VR φ v v') : v'.oneCell' = oneCell v := by
  cases h with
  | tok n h hv => cases v' <;> first | rfl | (simp [tokOk] at hv)
  | _ => rfl

theorem VR.undef {φ : Phi} : VR φ undef undef := .tuple .nil

/-- a value without addresses. -/
def plainV : Value → Bool
  | .agg ⟨l⟩ => l.all plainCell
  | .tuple ⟨l⟩ => l.all plainCell
  | v => plainCell v

theorem VR.plainCell {φ : Phi} : ∀ (v : Value), plainCell v = true → VR φ v v
  | .bool b, _ => .bool b
  | .int k n, _ => .int k n
  | .float k n, _ => .float k n
  | .complex k n m, _ => .complex k n m
  | .string s, _ => .string s
  | .pointer none, _ => .pnil
  | .slice none n c, _ => .snil n c
  | .map none, _ => .mnil
  | .chan none, _ => .cnil
  | .nilFunc, _ => .nilFunc
  | .nilIface, _ => .nilIface
  | .pointer (some _), h | .slice (some _) _ _, h | .map (some _), h | .chan (some _), h | .iface _ _, h | .func _ _ _, h | .agg _, h | .tuple _, h => by simp [Ev.plainCell] at h

theorem VRs.plain {φ : Phi} : ∀ (l : List Value), l.all plainCell = true → VRs φ l l
  | [], _ => .nil
  | v :: l, h => by
    simp only [List.all_cons, Bool.and_eq_true] at h
    exact .cons (VR.plainCell v h.1) (VRs.plain l h.2)

theorem VR.plain {φ : Phi} (v : Value) (h : plainV v = true) : VR φ v v := by
  cases v with
  | agg l => exact .agg (VRs.plain _ h)
  | tuple l => exact .tuple (VRs.plain _ h)
  | _ => exact VR.plainCell _ h

/-! ## Memory -/

/-- an abstract object and what stands in its block. -/
def ObjR (P : Program) (φ : Phi) (κ : Nat) : AObj → Option Obj → Prop
  | .cells n c e kd, ob => ∃ (c' : Array Value) (fr : Nat × Nat), ob = some (.cells c' e fr) ∧ n ≤ c'.size ∧
      (∀ i, i < n → ∃ v v', c.get i = some v ∧ c'[i]? = some v' ∧ VR φ v v') ∧ (kd = 0 → fr = (0, 0)) ∧ (kd ≠ 1 → (fr.1 = fr.2 ∨ c'.size ≤ fr.1) ∧ n ≤ 1000000000 ∧ n + κ * P.cellsOf e ≤ c'.size)
  | .map es, ob => ∃ (es' : Array MapEntry) (clock : Nat), ob = some (.map es' clock) ∧ VRs φ (es.map (·.1)) (es'.toList.map (·.key)) ∧ VRs φ (es.map (·.2)) (es'.toList.map (·.val))
  | .dead, _ => True

def AObj.alive : AObj → Bool
  | .dead => false
  | _ => true

def AObj.rw : AObj → Bool
  | .dead => false
  | .cells _ _ _ 1 => false
  | _ => true

/-- the memory and the world: G variables of packages stand where they stand; from block N0 on the blocks are the call's own; below it the world is as it was at w0. -/
structure Rel (P : Program) (G : Nat) (w0 : World) (φ : Phi) (m : Mem) (w : World) : Prop where
  glob : ∀ g, g < G → φ g = some g
  lt : ∀ b b', φ b = some b' → b < m.next ∧ b' < w.heap.size
  obj : ∀ b o b', m.get b = some o → φ b = some b' → ObjR P φ (φ.cap b) o (w.heap[b']?)
  inj : ∀ b₁ b₂ o₁ o₂ b', m.get b₁ = some o₁ → m.get b₂ = some o₂ → o₁.alive = true → o₂.alive = true → φ b₁ = some b' → φ b₂ = some b' → b₁ = b₂
  own : ∀ b o b', m.get b = some o → o.rw = true → φ b = some b' → w0.heap.size ≤ b'
  fresh : ∀ b o, m.get b = some o → b < m.next
  below : Below w0.heap.size w0 w

end Go.Ev
