/- Part of an evaluator for closed runs, and of its proof (EvMem). -/
import Derived.Test.YtihokakelnfdgaaDoorEvRel
namespace Go.Ev
open Go.RowKit
set_option linter.unusedVariables false
set_option linter.unusedSectionVars false
variable [Sym]

theorem Mem.get_put_same (m : Mem) (b : Nat) (o : AObj) (h : b ≤ 2000000000) : (m.put b o).get b = some o := get_set_D _ _ _ h
theorem Mem.get_put_other (m : Mem) (b b₂ : Nat) (o : AObj) (h : b ≠ b₂) : (m.put b o).get b₂ = m.get b₂ := Tree.get_set_other _ _ _ _ _ h
theorem Mem.get_new_same (m : Mem) (o : AObj) (h : m.next ≤ 2000000000) : (m.new o).get m.next = some o := get_set_D _ _ _ h
theorem Mem.get_new_other (m : Mem) (b : Nat) (o : AObj) (h : m.next ≠ b) : (m.new o).get b = m.get b := Tree.get_set_other _ _ _ _ _ h
theorem Mem.next_new (m : Mem) (o : AObj) : (m.new o).next = m.next + 1 := rfl
theorem Mem.next_put (m : Mem) (b : Nat) (o : AObj) : (m.put b o).next = m.next := rfl

theorem ObjR.mono {P : Program} {φ ψ : Phi} {κ : Nat} (hle : φ.le ψ) {o : AObj} {ob : Option Obj} (h : ObjR P φ κ o ob) : ObjR P ψ κ o ob := by
  cases o with
  | cells n c e kd =>
    obtain ⟨c', fr, h1, h2, h3, h4⟩ := h
    exact ⟨c', fr, h1, h2, fun i hi => let ⟨v, v', a, b, hv⟩ := h3 i hi; ⟨v, v', a, b, hv.mono hle⟩, h4⟩
  | map es =>
    obtain ⟨es', clock, h1, h2, h3⟩ := h
    exact ⟨es', clock, h1, h2.mono hle, h3.mono hle⟩
  | dead => trivial

section
variable {P : Program} {G : Nat} {w0 : World} {φ : Phi} {m : Mem} {w : World}

/-- what may turn in the world beside the blocks. -/
theorem Rel.world (h : Rel P G w0 φ m w) {w' : World} (hh : w'.heap = w.heap) (ht : w'.tape = w.tape) (ho : w'.os = w.os) (hp : w'.output = w.output) : Rel P G w0 φ m w' where
  glob := h.glob
  lt := by rw [hh]; exact h.lt
  obj := by rw [hh]; exact h.obj
  inj := h.inj
  own := h.own
  fresh := h.fresh
  below := ⟨ho.trans h.below.os, ht.trans h.below.tape, hp.trans h.below.output, by rw [hh]; exact h.below.size, by rw [hh]; exact h.below.block⟩

theorem Rel.drew (h : Rel P G w0 φ m w) : Rel P G w0 φ m { w with drawn := w.drawn + 1 } := h.world rfl rfl rfl rfl

theorem Rel.gets (h : Rel P G w0 φ m w) {b : Nat} {o : AObj} (hb : m.get b = some o) : b < m.next := h.fresh b o hb

/-- an object more that the world does not have yet. -/
theorem Rel.ahead (h : Rel P G w0 φ m w) (o : AObj) (hn : m.next ≤ 2000000000) : Rel P G w0 φ (m.new o) w where
  glob := h.glob
  lt := fun b b' e => ⟨Nat.lt_succ_of_lt (h.lt b b' e).1, (h.lt b b' e).2⟩
  obj := fun b o' b' hb e => by
    have := (h.lt b b' e).1
    rw [Mem.get_new_other _ _ _ (by omega)] at hb
    exact h.obj b o' b' hb e
  inj := fun b₁ b₂ o₁ o₂ b' h1 h2 a1 a2 e1 e2 => by
    have k1 := (h.lt b₁ b' e1).1
    have k2 := (h.lt b₂ b' e2).1
    rw [Mem.get_new_other _ _ _ (by omega)] at h1 h2
    exact h.inj b₁ b₂ o₁ o₂ b' h1 h2 a1 a2 e1 e2
  own := fun b o' b' hb hr e => by
    have := (h.lt b b' e).1
    rw [Mem.get_new_other _ _ _ (by omega)] at hb
    exact h.own b o' b' hb hr e
  fresh := fun b o' hb => by
    by_cases e : m.next = b
    · subst e; exact Nat.lt_succ_self _
    · rw [Mem.get_new_other _ _ _ e] at hb
      exact Nat.lt_succ_of_lt (h.fresh b o' hb)
  below := h.below

def Phi.set (φ : Phi) (b b' κ : Nat) : Phi := ⟨fun x => if x = b then some b' else φ x, fun x => if x = b then κ else φ.cap x⟩
theorem Phi.set_same (φ : Phi) (b b' κ : Nat) : φ.set b b' κ b = some b' := if_pos rfl
theorem Phi.set_other (φ : Phi) {b b' κ x : Nat} (h : x ≠ b) : φ.set b b' κ x = φ x := if_neg h
theorem Phi.cap_same (φ : Phi) (b b' κ : Nat) : (φ.set b b' κ).cap b = κ := if_pos rfl
theorem Phi.cap_other (φ : Phi) {b b' κ x : Nat} (h : x ≠ b) : (φ.set b b' κ).cap x = φ.cap x := if_neg h
theorem Phi.le_set {φ : Phi} {b : Nat} (h : φ b = none) (b' κ : Nat) : φ.le (φ.set b b' κ) := fun x y e => by
  have hx : x ≠ b := fun hx => by rw [hx, h] at e; cases e
  exact ⟨by rw [Phi.set_other _ hx]; exact e, Phi.cap_other _ hx⟩

/-- a block that the world makes for an object that is there already. -/
theorem Rel.meet (h : Rel P G w0 φ m w) {b κ : Nat} {o : AObj} (hb : m.get b = some o) (hφ : φ b = none) {ob : Obj}
    (hob : ObjR P (φ.set b w.heap.size κ) κ o (some ob)) {w' : World} (hh : w'.heap = w.heap.push ob) (ht : w'.tape = w.tape) (ho : w'.os = w.os) (hp : w'.output = w.output) :
    Rel P G w0 (φ.set b w.heap.size κ) m w' := by
  have hle : φ.le (φ.set b w.heap.size κ) := Phi.le_set hφ _ _
  have hblk : ∀ k, k < w.heap.size → w'.heap[k]? = w.heap[k]? := fun k hk => by rw [hh, Array.getElem?_push, if_neg (by omega)]
  have hsz : w'.heap.size = w.heap.size + 1 := by rw [hh]; simp
  have hb0 := h.below.size
  refine ⟨fun g hg => (hle _ _ (h.glob g hg)).1, ?_, ?_, ?_, ?_, h.fresh, ?_⟩
  · intro x y e
    by_cases hx : x = b
    · subst hx
      rw [Phi.set_same] at e
      cases e
      exact ⟨h.gets hb, by omega⟩
    · rw [Phi.set_other _ hx] at e
      have := h.lt x y e
      exact ⟨this.1, by omega⟩
  · intro x o' y hx e
    by_cases hxb : x = b
    · subst hxb
      rw [Phi.set_same] at e
      cases e
      obtain rfl : o = o' := Option.some.inj (hb.symm.trans hx)
      rw [hh, Array.getElem?_push, if_pos rfl, Phi.cap_same]
      exact hob
    · rw [Phi.set_other _ hxb] at e
      rw [hblk y (h.lt x y e).2, Phi.cap_other _ hxb]
      exact (h.obj x o' y hx e).mono hle
  · intro x₁ x₂ o₁ o₂ y h1 h2 a1 a2 e1 e2
    by_cases hx1 : x₁ = b <;> by_cases hx2 : x₂ = b
    · rw [hx1, hx2]
    · subst hx1
      rw [Phi.set_same] at e1
      rw [Phi.set_other _ hx2] at e2
      cases e1
      exact absurd (h.lt _ _ e2).2 (Nat.lt_irrefl _)
    · subst hx2
      rw [Phi.set_same] at e2
      rw [Phi.set_other _ hx1] at e1
      cases e2
      exact absurd (h.lt _ _ e1).2 (Nat.lt_irrefl _)
    · rw [Phi.set_other _ hx1] at e1
      rw [Phi.set_other _ hx2] at e2
      exact h.inj _ _ _ _ _ h1 h2 a1 a2 e1 e2
  · intro x o' y hx hr e
    by_cases hxb : x = b
    · subst hxb
      rw [Phi.set_same] at e
      cases e
      exact hb0
    · rw [Phi.set_other _ hxb] at e
      exact h.own _ _ _ hx hr e
  · exact ⟨ho.trans h.below.os, ht.trans h.below.tape, hp.trans h.below.output, by omega, fun k hk => (hblk k (by omega)).trans (h.below.block k hk)⟩

/-- a new object in both. -/
theorem Rel.alloc (h : Rel P G w0 φ m w) (o : AObj) (hn : m.next ≤ 2000000000) {κ : Nat} {ob : Obj}
    (hob : ObjR P (φ.set m.next w.heap.size κ) κ o (some ob)) {w' : World} (hh : w'.heap = w.heap.push ob) (ht : w'.tape = w.tape) (ho : w'.os = w.os) (hp : w'.output = w.output) :
    Rel P G w0 (φ.set m.next w.heap.size κ) (m.new o) w' := by
  have hnone : φ m.next = none := by
    cases e : φ m.next with
    | none => rfl
    | some y => exact absurd (h.lt _ _ e).1 (Nat.lt_irrefl _)
  exact (h.ahead o hn).meet (Mem.get_new_same _ _ hn) hnone hob hh ht ho hp

theorem Rel.next_none (h : Rel P G w0 φ m w) : φ m.next = none := by
  cases e : φ m.next with
  | none => rfl
  | some y => exact absurd (h.lt _ _ e).1 (Nat.lt_irrefl _)

theorem Rel.le_next (h : Rel P G w0 φ m w) (b' κ : Nat) : φ.le (φ.set m.next b' κ) := Phi.le_set h.next_none _ _

/-- an object is written. -/
theorem Rel.update (h : Rel P G w0 φ m w) {b b' : Nat} {o o' : AObj} (hb : m.get b = some o) (hφ : φ b = some b') (hr : o.rw = true) (hr' : o'.rw = true ∨ o' = .dead) (hn : m.next ≤ 2000000000)
    {w' : World} (hs : w'.heap.size = w.heap.size) (hk : ∀ k, k ≠ b' → w'.heap[k]? = w.heap[k]?) (hob : ObjR P φ (φ.cap b) o' (w'.heap[b']?))
    (ht : w'.tape = w.tape) (ho : w'.os = w.os) (hp : w'.output = w.output) : Rel P G w0 φ (m.put b o') w' := by
  have hbn := h.gets hb
  have halive : o.alive = true := by cases o <;> first | rfl | simp [AObj.rw] at hr
  refine ⟨h.glob, ?_, ?_, ?_, ?_, ?_, ?_⟩
  · intro x y e; have := h.lt x y e; exact ⟨this.1, by omega⟩
  · intro x ox y hx e
    by_cases hxb : b = x
    · subst hxb
      rw [Mem.get_put_same _ _ _ (by omega)] at hx
      cases hx
      rw [hφ] at e
      cases e
      exact hob
    · rw [Mem.get_put_other _ _ _ _ hxb] at hx
      cases hd : ox.alive with
      | false => cases ox <;> first | trivial | simp [AObj.alive] at hd
      | true =>
        have : y ≠ b' := fun ey => hxb (h.inj b x o ox b' hb hx halive hd hφ (ey ▸ e))
        rw [hk y this]
        exact h.obj x ox y hx e
  · intro x₁ x₂ o₁ o₂ y h1 h2 a1 a2 e1 e2
    have key : ∀ x ox, (m.put b o').get x = some ox → ox.alive = true → ∃ oy, m.get x = some oy ∧ oy.alive = true := by
      intro x ox hx ha
      by_cases hxb : b = x
      · subst hxb; exact ⟨o, hb, halive⟩
      · rw [Mem.get_put_other _ _ _ _ hxb] at hx; exact ⟨ox, hx, ha⟩
    obtain ⟨p1, q1, r1⟩ := key _ _ h1 a1
    obtain ⟨p2, q2, r2⟩ := key _ _ h2 a2
    exact h.inj _ _ _ _ _ q1 q2 r1 r2 e1 e2
  · intro x ox y hx hrx e
    by_cases hxb : b = x
    · subst hxb; rw [hφ] at e; cases e; exact h.own _ _ _ hb hr hφ
    · rw [Mem.get_put_other _ _ _ _ hxb] at hx; exact h.own _ _ _ hx hrx e
  · intro x ox hx
    by_cases hxb : b = x
    · subst hxb; exact hbn
    · rw [Mem.get_put_other _ _ _ _ hxb] at hx; exact h.fresh _ _ hx
  · have := h.own _ _ _ hb hr hφ
    exact ⟨ho.trans h.below.os, ht.trans h.below.tape, hp.trans h.below.output, by have := h.below.size; omega, fun k hkk => (hk k (by omega)).trans (h.below.block k hkk)⟩

/-- a dead object may be another name of a block: a new object takes an old one's block. -/
theorem Rel.move (h : Rel P G w0 φ m w) {b b' κ : Nat} {o o' : AObj} (hb : m.get b = some o) (hφ : φ b = some b') (hr : o.rw = true) (hr' : o'.rw = true) (hn : m.next ≤ 2000000000)
    {w' : World} (hs : w'.heap.size = w.heap.size) (hk : ∀ k, k ≠ b' → w'.heap[k]? = w.heap[k]?) (hob : ObjR P (φ.set m.next b' κ) κ o' (w'.heap[b']?))
    (ht : w'.tape = w.tape) (ho : w'.os = w.os) (hp : w'.output = w.output) : Rel P G w0 (φ.set m.next b' κ) ((m.put b .dead).new o') w' := by
  have h1 : Rel P G w0 φ (m.put b .dead) w' := h.update hb hφ hr (.inr rfl) hn hs hk trivial ht ho hp
  have hbn := h.gets hb
  have hle := h.le_next b' κ
  have hown := h.own _ _ _ hb hr hφ
  have hlt := (h.lt _ _ hφ).2
  have halive' : o'.alive = true := by cases o' <;> first | rfl | simp [AObj.rw] at hr'
  have old : ∀ x, x ≠ m.next → ((m.put b .dead).new o').get x = (m.put b .dead).get x := fun x hx => Mem.get_new_other _ _ _ (by rw [Mem.next_put]; omega)
  have new : ((m.put b .dead).new o').get m.next = some o' := Mem.get_new_same (m.put b .dead) o' hn
  -- who else has that block: only what is dead
  have alone : ∀ x ox, (m.put b .dead).get x = some ox → ox.alive = true → φ x ≠ some b' := by
    intro x ox hx ha e
    by_cases hxb : b = x
    · subst hxb; rw [Mem.get_put_same _ _ _ (by omega)] at hx; cases hx; simp [AObj.alive] at ha
    · rw [Mem.get_put_other _ _ _ _ hxb] at hx
      exact hxb (h.inj b x o ox b' hb hx (by cases o <;> first | rfl | simp [AObj.rw] at hr) ha hφ e)
  refine ⟨fun g hg => (hle _ _ (h.glob g hg)).1, ?_, ?_, ?_, ?_, ?_, h1.below⟩
  · intro x y e
    by_cases hx : x = m.next
    · subst hx; rw [Phi.set_same] at e; cases e; exact ⟨Nat.lt_succ_self _, by omega⟩
    · rw [Phi.set_other _ hx] at e; have := h1.lt x y e; exact ⟨Nat.lt_succ_of_lt this.1, this.2⟩
  · intro x ox y hx e
    by_cases hxn : x = m.next
    · subst hxn; rw [new] at hx; cases hx; rw [Phi.set_same] at e; cases e; rw [Phi.cap_same]; exact hob
    · rw [Phi.set_other _ hxn] at e; rw [old x hxn] at hx; rw [Phi.cap_other _ hxn]; exact (h1.obj x ox y hx e).mono hle
  · intro x₁ x₂ o₁ o₂ y g1 g2 a1 a2 e1 e2
    by_cases hx1 : x₁ = m.next <;> by_cases hx2 : x₂ = m.next
    · rw [hx1, hx2]
    · subst hx1; rw [Phi.set_same] at e1; rw [Phi.set_other _ hx2] at e2; rw [old _ hx2] at g2; cases e1; exact absurd e2 (alone _ _ g2 a2)
    · subst hx2; rw [Phi.set_same] at e2; rw [Phi.set_other _ hx1] at e1; rw [old _ hx1] at g1; cases e2; exact absurd e1 (alone _ _ g1 a1)
    · rw [Phi.set_other _ hx1] at e1; rw [Phi.set_other _ hx2] at e2; rw [old _ hx1] at g1; rw [old _ hx2] at g2; exact h1.inj _ _ _ _ _ g1 g2 a1 a2 e1 e2
  · intro x ox y hx hrx e
    by_cases hxn : x = m.next
    · subst hxn; rw [Phi.set_same] at e; cases e; exact hown
    · rw [Phi.set_other _ hxn] at e; rw [old x hxn] at hx; exact h1.own _ _ _ hx hrx e
  · intro x ox hx
    by_cases hxn : x = m.next
    · subst hxn; exact Nat.lt_succ_self _
    · rw [old x hxn] at hx; exact Nat.lt_succ_of_lt (h1.fresh _ _ hx)

/-- an object dies. -/
theorem Rel.die (h : Rel P G w0 φ m w) {b b' : Nat} {o : AObj} (hb : m.get b = some o) (hφ : φ b = some b') (hr : o.rw = true) (hn : m.next ≤ 2000000000) : Rel P G w0 φ (m.put b .dead) w :=
  h.update hb hφ hr (.inr rfl) hn rfl (fun _ _ => rfl) trivial rfl rfl rfl

end
end Go.Ev
