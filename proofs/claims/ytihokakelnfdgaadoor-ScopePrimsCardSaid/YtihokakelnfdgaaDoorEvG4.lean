/- Part of an evaluator for closed runs, and of its proof (EvG4). -/
import Derived.Test.YtihokakelnfdgaaDoorEvG3
namespace Go.Ev
open Go.RowKit
set_option linter.unusedVariables false
set_option linter.unusedSectionVars false
variable [Sym]

theorem tmpIn_mem {t : Nat} : ∀ {l : List Operand}, Operand.tmp t ∈ l → tmpIn t l = true
  | [], h => by simp at h
  | x :: l, h => by
    rcases List.mem_cons.1 h with h | h
    · subst h; simp [tmpIn]
    · have := tmpIn_mem h
      cases x <;> simp [tmpIn, this]

section
variable {E : Env} {G : Nat} {w0 : World} {call : CallFn} {ops : List Oper} {l : List Ent} {A : Nat → Act} {φ0 φ : Phi} {S : Nat → Prop} {p : Nat} {ac : Go.Act} {w : World} {x : Nat} {e : Ent}

/-- what an operation reads is what it read in the plan's order. -/
theorem On.read (hr : Run E call ops l A) (h : On E G w0 ops l A φ0 S p φ ac w) (hS : Closed ops S) (he : l[x]? = some e) (hn : ¬ S e.i) (hS' : Closed ops fun k => S k ∨ k = e.i) {t : Nat} (ht : reads ops e.o t = true) :
    VR φ ((A x).tmp t) (ac.tmps.getD t undef) := by
  refine h.tmps t x (Nat.le_of_lt (lt_of_get he)) ?_ ?_
  · intro y f hy hf hd
    have hcl : clash ops f.o e.o = true := by simp [clash, hd, ht]
    have := hr.plan.bit hS' he (.inr rfl) (hr.plan.clash_bit hy hf he hcl)
    rcases this with this | this
    · exact this
    · have := hr.plan.inj hf he this; omega
  · intro y f hy hf hd hSf
    rcases Nat.lt_or_ge x y with hxy | hxy
    · have hcl : clash ops e.o f.o = true := by simp [clash, hd, ht]
      exact hn (hr.plan.bit hS hf hSf (hr.plan.clash_bit hxy he hf hcl))
    · obtain rfl : x = y := by omega
      rw [he] at hf; cases hf; exact hn hSf

theorem On.operands (hr : Run E call ops l A) (h : On E G w0 ops l A φ0 S p φ ac w) (hS : Closed ops S) (he : l[x]? = some e) (hn : ¬ S e.i) (hS' : Closed ops fun k => S k ∨ k = e.i) (hoo : operOk G e.o = true) :
    ∀ y ∈ e.o.op.operands.toList, VR φ ((A x).eval y) (ac.eval y) := by
  intro y hy
  have hyo : operandOk G y = true := List.all_eq_true.1 hoo y hy
  cases y with
  | tmp t => exact h.read hr hS he hn hS' (by simp [reads, tmpIn_mem hy])
  | const v => exact VR.plain v hyo
  | global g => exact .ptr 0 (h.rel.glob g (by simpa [operandOk, Nat.blt_eq] using hyo))
  | func f => exact .func _ .nil .nil

theorem On.guard (hr : Run E call ops l A) (h : On E G w0 ops l A φ0 S p φ ac w) (hS : Closed ops S) (he : l[x]? = some e) (hn : ¬ S e.i) (hS' : Closed ops fun k => S k ∨ k = e.i) :
    Region.wanted e.o (yielded ⟨ops⟩ ac.tmps) = wanted (A x) ops e.o := by
  refine wanted_sound (φ := φ) fun t ht => h.read hr hS he hn hS' ?_
  cases hg : e.o.guard with
  | none => rw [hg] at ht; exact ht.elim
  | some q =>
    obtain ⟨j, b⟩ := q
    rw [hg] at ht
    obtain ⟨oj, h1, h2⟩ := ht
    simp [reads, hg, nth_eq, h1, h2]

theorem put_same {ts : Array Value} {d : Nat} {v : Value} (h : d < ts.size) : (ts.setIfInBounds d v).getD d undef = v := by
  simp only [Array.getD_eq_getD_getElem?, Array.getElem?_setIfInBounds]
  simp [h]

theorem put_other {ts : Array Value} {d t : Nat} {v : Value} (h : d ≠ t) : (ts.setIfInBounds d v).getD t undef = ts.getD t undef := by
  simp only [Array.getD_eq_getD_getElem?, Array.getElem?_setIfInBounds]
  simp [h]

/-- the temporaries after an operation. -/
theorem On.tmps_step (hr : Run E call ops l A) (h : On E G w0 ops l A φ0 S p φ ac w) (hS : Closed ops S) (he : l[x]? = some e) (hn : ¬ S e.i) {φ' : Phi} (hle : φ.le φ') {v v' : Value} (hv : ∀ d, e.o.dst = some d → d < (A 0).n ∧ (A (x + 1)).tmp d = v) (hvr : (∀ d, e.o.dst = some d → VR φ' v v'))
    {ac' : Go.Act} (hac : ac'.tmps = (ac.put e.o.dst v').tmps) :
    ∀ (t z : Nat), z ≤ l.length → (∀ y f, y < z → l[y]? = some f → f.o.dst = some t → S f.i ∨ f.i = e.i) → (∀ y f, z ≤ y → l[y]? = some f → f.o.dst = some t → ¬ (S f.i ∨ f.i = e.i)) → VR φ' ((A z).tmp t) (ac'.tmps.getD t undef) := by
  intro t z hz h1 h2
  rw [hac]
  by_cases hd : e.o.dst = some t
  · obtain ⟨hlt, hval⟩ := hv t hd
    have hxz : x < z := by
      rcases Nat.lt_or_ge x z with hxz | hxz
      · exact hxz
      · exact absurd (.inr rfl) (h2 x e hxz he hd)
    have hstay : (A z).tmp t = (A (x + 1)).tmp t := by
      have := hr.tmp_stay t (x + 1) (z - (x + 1)) (by omega) fun y f hy1 hy2 hf hdf => by
        rcases h1 y f (by omega) hf hdf with hSf | hSf
        · have hcl : clash ops e.o f.o = true := by simp [clash, hd, writesTo, hdf]
          exact hn (hr.plan.bit hS hf hSf (hr.plan.clash_bit (by omega) he hf hcl))
        · have := hr.plan.inj hf he hSf; omega
      rw [show x + 1 + (z - (x + 1)) = z by omega] at this
      exact this
    rw [hstay, hval, hd]
    show VR φ' v ((ac.tmps.setIfInBounds t v').getD t undef)
    rw [put_same (by rw [h.size]; exact hlt)]
    exact hvr t hd
  · have hother : (ac.put e.o.dst v').tmps.getD t undef = ac.tmps.getD t undef := by
      cases hdd : e.o.dst with
      | none => rfl
      | some d => exact put_other (fun hdt => hd (by rw [hdd, hdt]))
    rw [hother]
    refine (h.tmps t z hz ?_ ?_).mono hle
    · intro y f hy hf hdf
      rcases h1 y f hy hf hdf with hSf | hSf
      · exact hSf
      · have := hr.plan.inj hf he hSf
        subst this
        rw [he] at hf; cases hf
        exact absurd hdf hd
    · intro y f hy hf hdf hSf
      exact h2 y f hy hf hdf (.inl hSf)

theorem put_size (ac : Go.Act) (dst : Option Tmp) (v : Value) : (ac.put dst v).tmps.size = ac.tmps.size := by
  cases dst with
  | none => rfl
  | some d => exact Array.size_setIfInBounds

theorem put_defers (ac : Go.Act) (dst : Option Tmp) (v : Value) : (ac.put dst v).defers = ac.defers := by
  cases dst <;> rfl

/-- an operation without effect is done: the stage stays. -/
theorem On.still (hr : Run E call ops l A) (h : On E G w0 ops l A φ0 S p φ ac w) (hS : Closed ops S) (he : l[x]? = some e) (hne : isEff E e.o.op = false) (hn : ¬ S e.i) {φ' : Phi} {w' : World} (hext : Ext φ0 φ' (A 0).m (A p).m) (hle : φ.le φ') (hrel : Rel E.P G w0 φ' (A p).m w')
    (hpend : ∀ y f, y ≠ x → y < p → l[y]? = some f → isAl f.o.op = true → wanted (A y) ops f.o = true → ¬ S f.i → φ' (A y).m.next = none)
    {v v' : Value} (hv : ∀ d, e.o.dst = some d → d < (A 0).n ∧ (A (x + 1)).tmp d = v) (hvr : ∀ d, e.o.dst = some d → VR φ' v v') :
    On E G w0 ops l A φ0 (fun k => S k ∨ k = e.i) p φ' (ac.put e.o.dst v') w' := by
  refine ⟨h.le, fun y f h1 h2 h3 => .inl (h.ahead y f h1 h2 h3), ?_, hext, hrel, h.mono, h.fresh, ?_, h.tmps_step hr hS he hn hle hv hvr rfl, (put_size _ _ _).trans h.size, by rw [put_defers]; exact h.defers.mono hle⟩
  · intro y f h1 h2 h3 hs
    rcases hs with hs | hs
    · exact h.after y f h1 h2 h3 hs
    · have := hr.plan.inj h2 he hs
      subst this
      rw [he] at h2; cases h2
      rw [hne] at h3; cases h3
  · intro y f h1 h2 h3 h4 h5
    by_cases hyx : y = x
    · subst hyx
      rw [he] at h2; cases h2
      exact absurd (.inr rfl) h5
    · exact hpend y f hyx h1 h2 h3 h4 fun hs => h5 (.inl hs)

/-- an operation of effect is done: the stage goes on. -/
theorem On.moved (hr : Run E call ops l A) (h : On E G w0 ops l A φ0 S p φ ac w) (hS : Closed ops S) (he : l[p]? = some e) (hee : isEff E e.o.op = true) (hn : ¬ S e.i) {φ' : Phi} {w' : World} (hext : Ext φ φ' (A p).m (A (p + 1)).m) (hrel : Rel E.P G w0 φ' (A (p + 1)).m w')
    {v v' : Value} (hv : ∀ d, e.o.dst = some d → d < (A 0).n ∧ (A (p + 1)).tmp d = v) (hvr : ∀ d, e.o.dst = some d → VR φ' v v') {ac' : Go.Act} (ht : ac'.tmps = (ac.put e.o.dst v').tmps) (hd : DRs φ' (A (p + 1)).defers ac'.defers) :
    On E G w0 ops l A φ0 (fun k => S k ∨ k = e.i) (p + 1) φ' ac' w' := by
  have hlt := lt_of_get he
  refine ⟨by omega, ?_, ?_, h.ext.trans hext, hrel, ?_, ?_, ?_, h.tmps_step hr hS he hn hext.1 hv hvr ht, by rw [ht, put_size]; exact h.size, hd⟩
  · intro y f h1 h2 h3
    rcases Nat.lt_or_ge y p with hy | hy
    · exact .inl (h.ahead y f hy h2 h3)
    · obtain rfl : y = p := by omega
      rw [he] at h2; cases h2
      exact .inr rfl
  · intro y f h1 h2 h3 hs
    rcases hs with hs | hs
    · exact h.after y f (by omega) h2 h3 hs
    · have := hr.plan.inj h2 he hs; omega
  · intro y z hyz hz
    rcases Nat.lt_or_ge z (p + 1) with hzp | hzp
    · exact h.mono y z hyz (by omega)
    · obtain rfl : z = p + 1 := by omega
      rcases Nat.lt_or_ge y (p + 1) with hyp | hyp
      · exact Nat.le_trans (h.mono y p (by omega) (Nat.le_refl _)) hext.2.2
      · obtain rfl : y = p + 1 := by omega
        exact Nat.le_refl _
  · intro y hy
    rcases Nat.lt_or_ge y (p + 1) with hyp | hyp
    · exact h.fresh y (by omega)
    · obtain rfl : y = p + 1 := by omega
      exact hrel.fresh
  · intro y f h1 h2 h3 h4 h5
    have hyp : y < p := by
      rcases Nat.lt_or_ge y p with hy | hy
      · exact hy
      · obtain rfl : y = p := by omega
        rw [he] at h2; cases h2
        exact absurd (.inr rfl) h5
    have hno := h.pend y f hyp h2 h3 h4 fun hs => h5 (.inl hs)
    -- its number is below the stage's
    obtain ⟨k, hs, hk⟩ := hr.step y f h2
    have hk' : k = 0 ∨ (k = 1 ∧ isAl f.o.op = true) := hk.resolve_left (by rw [isAl_not_eff h3]; decide)
    have hlt : (A y).m.next < (A p).m.next := by
      rcases step_still hs hk' with ⟨hw, _⟩ | ⟨_, u, hq, _⟩ | ⟨_, _, _, u, m', ha, hput⟩
      · rw [hw] at h4; cases h4
      · rw [isAl_not_quiet h3] at hq; cases hq
      · obtain ⟨obj, rfl⟩ := allocs_new ha
        have hm := (Act.put_tmp hput).2.2.1
        have := h.mono (y + 1) p (by omega) (Nat.le_refl _)
        rw [hm, Mem.next_new] at this
        omega
    rw [hext.2.1 _ hlt]
    exact hno

end
end Go.Ev
