/- Part of a verified evaluator of the model's programs and of runs by it: SU4 SW1 SW2 SW3 SW4. -/
import Derived.Test.YtihokakelnfdgaaDoorSI
import Derived.Test.YtihokakelnfdgaaDoorSH
namespace Go.Proofs.YtihokakelnfdgaaDoor
set_option linter.unusedSimpArgs false
open Go Go.Ev
set_option linter.unusedVariables false

/-! What a walk over places p to p + k leaves as it is; which functions it adds. -/
structure Wk (p k : Nat) (fs : List (Nat × Int)) (S S' : MS) : Prop where
 u : ∀ q, (q < p ∨ p + k ≤ q) → S'.uses[q]? = S.uses[q]? ∧ S'.means[q]? = S.means[q]?
 e : S.e ≠ 0 → S'.e ≠ 0
 f : S'.e = 0 → fnK S' = fnK S ++ fs
theorem Wk.trans {p k : Nat} {fs gs : List (Nat × Int)} {S S1 S2 : MS} (h : Wk p k fs S S1) (g : Wk p k gs S1 S2) : Wk p k (fs ++ gs) S S2 where
 u := fun q hq => ⟨(g.u q hq).1.trans (h.u q hq).1, (g.u q hq).2.trans (h.u q hq).2⟩
 e := fun he => g.e (h.e he)
 f := fun he => by
  have h1 : S1.e = 0 := Decidable.byContradiction fun hh => g.e hh he
  rw [g.f he, h.f h1, List.append_assoc]
theorem Wk.wide {p k p' k' : Nat} {fs : List (Nat × Int)} {S S' : MS} (h : Wk p k fs S S') (h1 : p' ≤ p) (h2 : p + k ≤ p' + k') : Wk p' k' fs S S' := ⟨fun q hq => h.u q (by omega), h.e, h.f⟩
theorem Wk.same {p k : Nat} {S S' : MS} (h1 : S'.uses = S.uses) (h2 : S'.means = S.means) (h3 : S'.e = S.e) (h4 : fnK S' = fnK S) : Wk p k [] S S' := ⟨fun q _ => by rw [h1, h2]; exact ⟨rfl, rfl⟩, fun h => by rw [h3]; exact h, fun _ => by rw [h4, List.append_nil]⟩
theorem Wk.cast {p k : Nat} {fs gs : List (Nat × Int)} {S S' : MS} (h : Wk p k fs S S') (hg : fs = gs) : Wk p k gs S S' := hg ▸ h

def isFnAt (l : List Nd) (i : Nat) : Bool := match l[i]? with | some x => decide (x.kind = 12 ∨ x.kind = 31) | none => false
def numAt (l : List Nd) (i : Nat) : Int := match l[i]? with | some x => x.num | none => 0
def fnL (l : List Nd) (p k : Nat) : List (Nat × Int) := ((List.range' p k).filter (isFnAt l)).map fun i => (i, numAt l i)
theorem fnL_add (l : List Nd) (p a b : Nat) : fnL l p (a + b) = fnL l p a ++ fnL l (p + a) b := by
 unfold fnL
 rw [← List.map_append, ← List.filter_append, List.range'_append_1]
theorem fnL_one {l : List Nd} {p : Nat} (hp : p < l.length) : fnL l p 1 = if l[p].kind = 12 ∨ l[p].kind = 31 then [(p, l[p].num)] else [] := by
 unfold fnL isFnAt numAt
 simp only [List.range'_one, List.filter_cons, List.filter_nil, List.getElem?_eq_getElem hp]
 split <;> simp_all

theorem failIf_e (S : MS) (b : Bool) (e : Nat) (p : Int) (he : e ≠ 0) (h : S.e ≠ 0) : (S.failIf b e p).e ≠ 0 := by
 unfold MS.failIf MS.fail
 cases b
 ·exact h
 ·simp [h]
theorem Wk.failIf {p k : Nat} (S : MS) (b : Bool) (e : Nat) (pos : Int) (he : e ≠ 0) : Wk p k [] S (S.failIf b e pos) := by
 obtain ⟨z1, z2, z3, z4, z5, z6, z7⟩ := failIf_rest S b e pos
 exact ⟨fun q _ => by rw [z2, z5]; exact ⟨rfl, rfl⟩, failIf_e S b e pos he, fun _ => by unfold fnK; rw [z1, List.append_nil]⟩
theorem fnK_slots (fs : List Fn) (i : Nat) (g : Fn → Fn) (hg : ∀ f, (g f).node = f.node ∧ (g f).params = f.params) : (fs.modify i g).map (fun g => (g.node, g.params)) = fs.map fun g => (g.node, g.params) := by
 apply List.ext_getElem?
 intro j
 rw [List.getElem?_map, List.getElem?_map, List.getElem?_modify]
 cases fs[j]? with
 | none => rfl
 | some x => simp only [Option.map_some, Option.map_eq_map]; split <;> simp [hg x]
theorem Wk.declare (S : MS) (s : Bs) (at_ : Nat) (pos : Int) : Wk at_ 1 [] S (S.declare s at_ pos) := by
 have h := ((Wk.failIf (p := at_) (k := 1) S (primI s).isSome 8 pos (by decide)).trans (Wk.failIf _ (look s (headSc S.topScopes)).isSome 80 pos (by decide))).trans (Wk.failIf _ (decide (slotsOf S.funs S.topFn = 256)) 3 pos (by decide))
 refine (h.trans (S2 := S.declare s at_ pos) ?_).cast rfl
 unfold MS.declare
 simp only
 refine ⟨fun q hq => ⟨rfl, ?_⟩, fun h => h, fun _ => ?_⟩
 ·simp only
  rw [List.getElem?_set_ne (by omega)]
 ·unfold fnK
  simp only
  rw [fnK_slots _ _ (fun f => { f with slots := f.slots + 1 }) (fun f => ⟨rfl, rfl⟩), List.append_nil]
theorem Wk.global (g : List (Bs × Nat)) (S : MS) (s : Bs) (at_ : Nat) (pos : Int) : Wk at_ 1 [] S (MS.global g S s at_ pos) := by
 have h := ((Wk.failIf (p := at_) (k := 1) S (primI s).isSome 8 pos (by decide)).trans (Wk.failIf _ (globC g s at_) 80 pos (by decide))).trans (Wk.failIf _ (decide (S.globals.length = 1024)) 3 pos (by decide))
 refine (h.trans (S2 := MS.global g S s at_ pos) ?_).cast rfl
 rw [show MS.global g S s at_ pos = (let S3 := ((S.failIf (primI s).isSome 8 pos).failIf (globC g s at_) 80 pos).failIf (decide (S.globals.length = 1024)) 3 pos; { S3 with uses := S3.uses.set at_ (4, S.globals.length), globals := S3.globals ++ [s] }) from rfl]
 refine ⟨fun q hq => ⟨?_, rfl⟩, fun h => h, fun _ => ?_⟩
 ·simp only
  rw [List.getElem?_set_ne (by omega)]
 ·rw [List.append_nil]; rfl
theorem Wk.frames {p k : Nat} (S : MS) (fr : List Fr) : Wk p k [] S { S with frames := fr } := Wk.same rfl rfl rfl rfl
theorem Wk.top {p k : Nat} (S : MS) (g : Fr → Fr) : Wk p k [] S (S.top g) := Wk.same rfl rfl rfl rfl
theorem Wk.go {p k : Nat} (S : MS) (q : Nat) : Wk p k [] S { S with pc := q } := Wk.same rfl rfl rfl rfl
theorem Wk.open_ (S : MS) (p : Nat) (x : Nd) : Wk p 1 [(p, x.num)] S (S.open_ p x) := by
 refine ((Wk.failIf (p := p) (k := 1) S (decide (S.funs.length = 1024)) 3 x.pos (by decide)).trans (gs := [(p, x.num)]) (S2 := S.open_ p x) ?_).cast rfl
 unfold MS.open_
 refine ⟨fun q _ => ⟨rfl, rfl⟩, fun h => h, fun _ => ?_⟩
 unfold fnK MS.enter MS.top
 simp
theorem take_e : ∀ (f : Nat) (S : MS) (d k : Nat) (pos : Int), S.e ≠ 0 → (MS.take f S d k pos).1.e ≠ 0
 | 0, S, d, k, pos, h => h
 | f + 1, S, d, k, pos, h => by
  rw [MS.take]
  cases taken S d k with
  | some i => exact h
  | none =>
   simp only
   by_cases hh : frFn S (k + 1) ≠ declFn S d
   ·simp only [if_pos hh]
    exact failIf_e _ _ _ _ (by decide) (take_e f S d (k + 1) pos h)
   ·simp only [if_neg hh]
    exact failIf_e _ _ _ _ (by decide) h
theorem Tk.fnK {d f : Nat} {S r : MS} (h : Tk d f S r) : fnK r = YtihokakelnfdgaaDoor.fnK S := by
 unfold YtihokakelnfdgaaDoor.fnK
 apply List.ext_getElem?
 intro i
 rw [List.getElem?_map, List.getElem?_map]
 cases hr : r.funs[i]? with
 | none =>
  have : S.funs[i]? = none := by
   have h1 := h.nf
   rw [List.getElem?_eq_none_iff] at hr ⊢; omega
  rw [this]
 | some g =>
  obtain ⟨g0, h1, h2, h3, -⟩ := h.funs i g hr
  rw [h1]; simp only [Option.map_some, h2, h3]
theorem Wk.name {l : List Nd} (g : List (Bs × Nat)) (set : Bool) (S : MS) (hp : S.pc < l.length) : Wk S.pc 1 [] S (MS.name l g set S) := by
 rw [MS.name_find g set (List.getElem?_eq_getElem hp)]
 generalize l[S.pc] = x
 simp only
 have h0 : Wk S.pc 1 [] S (({ S with pc := S.pc + 1 } : MS).failIf ((primI x.text).isSome && set) 8 x.pos) := (Wk.go S _).trans (Wk.failIf _ _ _ _ (by decide))
 generalize ({ S with pc := S.pc + 1 } : MS).failIf ((primI x.text).isSome && set) 8 x.pos = S1 at h0
 cases hf : findFr x.text S1.frames with
 | some q =>
  obtain ⟨d, out⟩ := q
  cases out with
  | zero =>
   have h1 : Wk S.pc 1 [] S1 { S1 with means := S1.means.set S.pc (some d) } := ⟨fun q hq => ⟨rfl, List.getElem?_set_ne (by omega)⟩, fun h => h, fun _ => (List.append_nil _).symm⟩
   exact h0.trans h1
  | succ out =>
   simp only
   generalize hS2 : ({ S1 with means := (S1.means.set S.pc (some d)).set S.pc none, decls := S1.decls.modify d fun c => { c with cap := true } } : MS) = S2
   have tk := take_tk (S1.frames.length + 1) S2 d 0 x.pos
   have h2 : Wk S.pc 1 [] S1 S2 := by
    rw [← hS2]
    refine ⟨fun q hq => ⟨rfl, ?_⟩, fun h => h, fun _ => (List.append_nil _).symm⟩
    simp only
    rw [List.getElem?_set_ne (by omega), List.getElem?_set_ne (by omega)]
   have h3 : Wk S.pc 1 [] S2 { (MS.take (S1.frames.length + 1) S2 d 0 x.pos).1 with uses := (MS.take (S1.frames.length + 1) S2 d 0 x.pos).1.uses.set S.pc (3, (MS.take (S1.frames.length + 1) S2 d 0 x.pos).2) } := by
    refine ⟨fun q hq => ⟨?_, ?_⟩, take_e _ S2 d 0 x.pos, fun _ => ?_⟩
    ·simp only
     rw [List.getElem?_set_ne (by omega), tk.uses]
    ·simp only
     rw [tk.means]
    ·rw [List.append_nil]; exact tk.fnK
   subst hS2
   exact (h0.trans h2).trans h3
 | none =>
  simp only
  cases look x.text g with
  | some at_ =>
   have h1 : Wk S.pc 1 [] S1 { S1 with uses := S1.uses.set S.pc (4, globalNo l at_) } := ⟨fun q hq => ⟨List.getElem?_set_ne (by omega), rfl⟩, fun h => h, fun _ => (List.append_nil _).symm⟩
   exact h0.trans h1
  | none =>
   simp only
   have h1 : Wk S.pc 1 [] (S1.failIf (primI x.text).isNone 4 x.pos) { S1.failIf (primI x.text).isNone 4 x.pos with uses := (S1.failIf (primI x.text).isNone 4 x.pos).uses.set S.pc (5, (primI x.text).getD 0) } := ⟨fun q hq => ⟨List.getElem?_set_ne (by omega), rfl⟩, fun h => h, fun _ => (List.append_nil _).symm⟩
   exact (h0.trans (Wk.failIf S1 (primI x.text).isNone 4 x.pos (by decide))).trans h1

def NodeW (l : List Nd) (nd : MS → MS) (f : Nat) : Prop := ∀ (S : MS) (b k : Nat), Inv l b S → D (l.drop S.pc) 1 = some k → k ≤ f → Wk S.pc k (fnL l S.pc k) S (nd S)
section
variable {l : List Nd} {nd : MS → MS} {f b k : Nat} {S : MS}
theorem times_wk (hN : NodeI l nd f) (hW : NodeW l nd f) : ∀ (n : Nat) (S : MS) (b k : Nat), Inv l b S → D (l.drop S.pc) n = some k → k ≤ f → Wk S.pc k (fnL l S.pc k) S (times nd n S)
 | 0, S, b, k, h, hD, hk => by
  rw [D_zero] at hD; cases hD
  exact Wk.same rfl rfl rfl rfl
 | n + 1, S, b, k, h, hD, hk => by
  obtain ⟨k1, k2, e1, e2, e3, e4, e5, e6⟩ := D_next hD
  obtain ⟨i1, i2, i3⟩ := hN S b k1 h e1 (by omega)
  have w1 := hW S b k1 h e1 (by omega)
  have w2 := times_wk hN hW n (nd S) (b + 2 * k1) k2 i1 (by rw [i3]; exact e2) (by omega)
  rw [i3] at w2
  rw [times, e3, fnL_add]
  exact (w1.wide (Nat.le_refl _) (by omega)).trans (w2.wide (by omega) (by omega))
theorem params_wk (hl : ∀ x ∈ l, okR x = true) : ∀ (n : Nat) (S : MS) (b : Nat), Inv l b S → S.pc + n ≤ l.length → Wk S.pc n [] S (MS.params l n S)
 | 0, S, b, h, hp => Wk.same rfl rfl rfl rfl
 | n + 1, S, b, h, hp => by
  have hlt : S.pc < l.length := by omega
  rw [MS.params, List.getElem?_eq_getElem hlt]
  simp only
  obtain ⟨i1, i2, i3, i4, i5, i6⟩ := h.declare l[S.pc].text S.pc l[S.pc].pos
  obtain ⟨j1, j2, j3⟩ := i1.bind l[S.pc].text (d := S.decls.length) i5 (by rw [i6]; exact (topFn_frK i2.fr).1.symm)
  have q1 := j1.go (p := ((S.declare l[S.pc].text S.pc l[S.pc].pos).bind l[S.pc].text S.decls.length).pc + 1) (Nat.le_succ _) (by rw [j3, i3]; omega)
  have w := params_wk hl n _ (b + 1) q1 (by simp only [j3, i3]; omega)
  have hpc : ({ (S.declare l[S.pc].text S.pc l[S.pc].pos).bind l[S.pc].text S.decls.length with pc := ((S.declare l[S.pc].text S.pc l[S.pc].pos).bind l[S.pc].text S.decls.length).pc + 1 } : MS).pc = S.pc + 1 := by simp only [j3, i3]
  rw [hpc] at w
  exact ((((Wk.declare S l[S.pc].text S.pc l[S.pc].pos).wide (Nat.le_refl _) (by omega)).trans (Wk.top _ _)).trans (Wk.go _ _)).trans (w.wide (by omega) (by omega))
theorem names_fnL {l : List Nd} : ∀ (n q : Nat), (∀ i, i < n → ∃ h : q + i < l.length, l[q + i].kind = 19) → fnL l q n = []
 | 0, q, _ => rfl
 | n + 1, q, h => by
  obtain ⟨h0, h1⟩ := h 0 (by omega)
  simp only [Nat.add_zero] at h0 h1
  rw [Nat.add_comm, fnL_add, fnL_one h0, if_neg (by omega), names_fnL n (q + 1) fun i hi => by
   obtain ⟨a, b⟩ := h (i + 1) (by omega)
   have e : q + 1 + i = q + (i + 1) := by omega
   exact ⟨by omega, by simp only [e]; exact b⟩]
  rfl
theorem function_wk (P : Prg l) (hN : NodeI l nd f) (hW : NodeW l nd f) {p : Nat} (hp : p < l.length) (hk : l[p].kind = 12 ∨ l[p].kind = 31) (h : Inv l b S) (hpc : S.pc = p + 1) (hfr : S.frames.length + 1 ≤ S.pc) (hD : D (l.drop (p + 1)) l[p].n.toNat = some k) (hkf : k ≤ f) :
  Wk p (k + 1) (fnL l p (k + 1)) S (S.function l nd p l[p]) := by
 obtain ⟨c1, c2, c3⟩ := cntF (P.ok _ (List.getElem_mem hp)) hk
 obtain ⟨num, hnum⟩ : ∃ n : Nat, l[p].num = n := ⟨l[p].num.toNat, by omega⟩
 have hpar := P.params hp hk
 have hpar' : ∀ i : Nat, i < num → ∃ hq : p + 1 + i < l.length, l[p + 1 + i].kind = 19 := fun i hi => hpar i (by omega)
 have hnD := names_D P.ok num (p + 1) hpar'
 rw [show l[p].n.toNat = num + 1 by omega] at hD
 obtain ⟨k1, k2, e1, e2, e3⟩ := D_add _ _ _ _ hD
 rw [hnD] at e1; cases e1
 rw [List.drop_drop] at e2
 have hle := D_le _ _ _ e2
 rw [List.length_drop] at hle
 obtain ⟨i1, i2, i3, i4, i5, i6⟩ := h.open_ hfr p l[p]
 obtain ⟨j1, j2, j3⟩ := params_inv P.ok num (S.open_ p l[p]) (b + 1) i1 (by rw [i6, hpc]; omega)
 have w1 := Wk.open_ S p l[p]
 have w2 := params_wk P.ok num (S.open_ p l[p]) (b + 1) i1 (by rw [i6, hpc]; omega)
 have w3 := hW (MS.params l num (S.open_ p l[p])) (b + 1 + num) k2 j1 (by rw [j3, i6, hpc]; exact e2) (by omega)
 rw [i6, hpc] at w2
 rw [j3, i6, hpc] at w3
 unfold MS.function
 rw [show l[p].num.toNat = num by omega]
 have hfl : fnL l p (k + 1) = [(p, l[p].num)] ++ [] ++ fnL l (p + 1 + num) k2 ++ [] ++ [] := by
  rw [show k + 1 = 1 + (num + k2) by omega, fnL_add, fnL_one hp, if_pos hk, fnL_add, names_fnL num (p + 1) hpar']
  simp
 rw [hfl]
 exact ((((w1.wide (Nat.le_refl _) (by omega)).trans (w2.wide (by omega) (by omega))).trans (w3.wide (by omega) (by omega))).trans (Wk.top _ _)).trans (Wk.frames _ _)

theorem step_wk (P : Prg l) (hl : l.length ≤ 400) (g : List (Bs × Nat)) (hN : NodeI l nd f) (hW : NodeW l nd f) {p : Nat} (hp : p < l.length) (h : Inv l b S) (hpc : S.pc = p + 1) (hfr : S.frames.length + 1 ≤ S.pc) (hD : D (l.drop (p + 1)) l[p].n.toNat = some k) (hkf : k ≤ f) :
  Wk p (k + 1) (fnL l p (k + 1)) S (MS.step l g nd p l[p] S) := by
 have hok := P.ok _ (List.getElem_mem hp)
 have hokl := P.ok
 have hfl : ¬ (l[p].kind = 12 ∨ l[p].kind = 31) → fnL l p (k + 1) = fnL l (p + 1) k := fun hn => by rw [Nat.add_comm, fnL_add, fnL_one hp, if_neg hn]; rfl
 have hfun := fun (S1 : MS) (b : Nat) (hk : l[p].kind = 12 ∨ l[p].kind = 31) (h1 : Inv l b S1) (h2 : S1.pc = p + 1) (h3 : S1.frames.length + 1 ≤ S1.pc) => function_wk (S := S1) (b := b) P hN hW hp hk h1 h2 h3 hD hkf
 generalize hx : l[p] = x at hD hok hfl hfun
 rw [← hpc] at hD
 unfold MS.step
 have hp1 : p ≤ p + 1 := Nat.le_succ _
 have hp2 : p + 1 + k ≤ p + (k + 1) := by omega
 have hp3 : p + 1 ≤ p + (k + 1) := by omega
 by_cases h2 : x.kind = 2
 ·rw [if_pos h2, hfl (by omega)]
  have r := times_wk hN hW x.n.toNat S.enter (b + 1) k h.enter hD hkf
  have e1 : S.enter.pc = p + 1 := hpc
  rw [e1] at r
  exact ((((Wk.top S _).trans (r.wide hp1 hp2)).trans (Wk.top _ _)).cast (by simp))
 rw [if_neg h2]
 by_cases h3 : x.kind = 3
 ·rw [if_pos h3, hfl (by omega)]
  rw [cnt1 hok h3] at hD
  unfold MS.variable
  by_cases ht : isTop S = true
  ·rw [if_pos ht]
   obtain ⟨i1, i2, i3⟩ := h.global g x.text p x.pos
   have r := hW _ _ k i1 (by rw [i3]; exact hD) hkf
   rw [i3, hpc] at r
   exact (((Wk.global g S x.text p x.pos).wide (Nat.le_refl _) hp3).trans (r.wide hp1 hp2)).cast (by simp)
  ·rw [if_neg ht]
   obtain ⟨i1, i2, i3, i4, i5, i6⟩ := h.declare x.text p x.pos
   have r := hW _ _ k i1 (by rw [i3]; exact hD) hkf
   rw [i3, hpc] at r
   exact ((((Wk.declare S x.text p x.pos).wide (Nat.le_refl _) hp3).trans (r.wide hp1 hp2)).trans (Wk.top _ _)).cast (by simp)
 rw [if_neg h3]
 by_cases h12 : x.kind = 12
 ·rw [if_pos h12]
  by_cases ht : isTop S = true
  ·rw [if_pos ht]
   obtain ⟨i1, i2, i3⟩ := h.global g x.text p x.pos
   have hlen : (MS.global g S x.text p x.pos).frames.length = S.frames.length := by rw [← frK_len, i2.fr, frK_len]
   have r := hfun _ _ (.inl h12) i1 (i3.trans hpc) (by rw [hlen, i3]; exact hfr)
   exact (((Wk.global g S x.text p x.pos).wide (Nat.le_refl _) hp3).trans r).cast (by simp)
  ·rw [if_neg ht]
   obtain ⟨i1, i2, i3, i4, i5, i6⟩ := h.declare x.text p x.pos
   obtain ⟨j1, j2, j3⟩ := i1.bind x.text (d := S.decls.length) i5 (by rw [i6]; exact (topFn_frK i2.fr).1.symm)
   have hlen : ((S.declare x.text p x.pos).bind x.text S.decls.length).frames.length = S.frames.length := by rw [← frK_len, j2.fr, i2.fr, frK_len]
   have r := hfun _ _ (.inl h12) j1 (j3.trans (i3.trans hpc)) (by rw [hlen, j3, i3]; exact hfr)
   exact ((((Wk.declare S x.text p x.pos).wide (Nat.le_refl _) hp3).trans (Wk.top _ _)).trans r).cast (by simp)
 rw [if_neg h12]
 by_cases h31 : x.kind = 31
 ·rw [if_pos h31]
  exact hfun _ _ (.inr h31) h hpc hfr
 rw [if_neg h31]
 by_cases h4 : x.kind = 4
 ·rw [if_pos h4, hfl (by omega)]
  rw [cnt2 hok (.inl h4)] at hD
  have hD2 : D (l.drop S.pc) 2 = some k := hD
  obtain ⟨k1, k2, e1, e2, e3, e4, e5, e6⟩ := D_next hD2
  rw [List.getElem?_eq_getElem e5]
  simp only
  by_cases hy : l[S.pc].kind = 19
  ·rw [if_pos hy]
   have hw := name_width e5 (hokl _ (List.getElem_mem e5)) hy
   rw [hw] at e1; cases e1
   obtain ⟨i1, i2, i3⟩ := h.name hl g true e5
   have r := hW _ _ k2 i1 (by rw [i3]; exact e2) (by omega)
   have n := Wk.name g true S e5
   rw [i3] at r
   have e7 : fnL l (p + 1) k = [] ++ fnL l (p + 1 + 1) k2 := by
    have e5' : p + 1 < l.length := by omega
    have hy' : l[p + 1].kind = 19 := by simp only [← hpc]; exact hy
    rw [e3, fnL_add, fnL_one e5', if_neg (by omega)]
   rw [e7]
   rw [hpc] at n r
   exact (n.wide hp1 (by omega)).trans (r.wide (by omega) (by omega))
  ·rw [if_neg hy]
   have r := times_wk hN hW 2 S b k h hD2 hkf
   rw [hpc] at r
   exact r.wide hp1 hp2
 rw [if_neg h4]
 by_cases h11 : x.kind = 11
 ·rw [if_pos h11, hfl (by omega)]
  rw [cnt2 hok (.inr (.inr h11))] at hD
  have hD2 : D (l.drop S.pc) 2 = some k := hD
  obtain ⟨k1, k2, e1, e2, e3, e4, e5, e6⟩ := D_next hD2
  unfold MS.try_
  obtain ⟨i1, i2, i3, i4, i5, i6⟩ := h.enter.declare x.text p x.pos
  obtain ⟨r1, r2, r3⟩ := hN _ _ k1 i1 (by rw [i3]; exact e1) (by omega)
  have hd := r2.declFn i5
  obtain ⟨j1, j2, j3⟩ := r1.bind x.text (d := S.enter.decls.length) hd.2 (by rw [hd.1, i6]; exact (topFn_frK (i2.trans r2).fr).1.symm)
  have w1 := hW _ _ k1 i1 (by rw [i3]; exact e1) (by omega)
  have w2 := hW _ _ k2 j1 (by rw [j3, r3, i3]; exact e2) (by omega)
  have e8 : S.enter.pc = p + 1 := hpc
  rw [i3, e8] at w1
  rw [j3, r3, i3, e8] at w2
  have e7 : fnL l (p + 1) k = fnL l (p + 1) k1 ++ fnL l (p + 1 + k1) k2 := by rw [e3, fnL_add]
  rw [e7]
  exact ((((((Wk.top S _).trans ((Wk.declare S.enter x.text p x.pos).wide (Nat.le_refl _) hp3)).trans (w1.wide hp1 (by omega))).trans (Wk.top _ _)).trans (w2.wide (by omega) (by omega))).trans (Wk.top _ _)).cast (by simp)
 rw [if_neg h11, hfl (by omega)]
 unfold MS.plain
 by_cases h6 : x.kind = 6
 ·rw [if_pos h6]
  rw [cnt2 hok (.inr (.inl h6))] at hD
  have hD2 : D (l.drop S.pc) 2 = some k := hD
  obtain ⟨k1, k2, e1, e2, e3, e4, e5, e6⟩ := D_next hD2
  obtain ⟨r1, r2, r3⟩ := hN _ _ k1 h e1 (by omega)
  have j1 := r1.loop (· + 1) (b' := b + 2 * k1 + 1) (Nat.le_succ _) (fun n hn => by show n + 1 ≤ _; omega)
  have w1 := hW _ _ k1 h e1 (by omega)
  have w2 := hW ((nd S).loop (· + 1)) _ k2 j1 (by show D (l.drop (nd S).pc) 1 = _; rw [r3]; exact e2) (by omega)
  have e8 : ((nd S).loop (· + 1)).pc = p + 1 + k1 := by show (nd S).pc = _; rw [r3, hpc]
  rw [hpc] at w1
  rw [e8] at w2
  have e7 : fnL l (p + 1) k = fnL l (p + 1) k1 ++ fnL l (p + 1 + k1) k2 := by rw [e3, fnL_add]
  rw [e7]
  exact ((((w1.wide hp1 (by omega)).trans (Wk.top _ _)).trans (w2.wide (by omega) (by omega))).trans (Wk.top _ _)).cast (by simp)
 ·rw [if_neg h6]
  simp only
  have key : ∀ (S1 : MS), Inv l b S1 → Wk p (k + 1) [] S S1 → S1.pc = S.pc → Wk p (k + 1) (fnL l (p + 1) k) S (times nd x.n.toNat S1) := by
   intro S1 i1 i2 i3
   have r := times_wk hN hW x.n.toNat S1 b k i1 (by rw [i3]; exact hD) hkf
   rw [i3, hpc] at r
   exact i2.trans (r.wide hp1 hp2)
  split
  ·exact key _ (h.failIf _ _ _) (Wk.failIf S _ _ _ (by decide)) (failIf_rest S _ _ _).2.2.2.2.2.2
  ·split
   ·exact key _ (h.failIf _ _ _) (Wk.failIf S _ _ _ (by decide)) (failIf_rest S _ _ _).2.2.2.2.2.2
   ·exact key _ h (Wk.same rfl rfl rfl rfl) rfl

theorem nodeW (P : Prg l) (hl : l.length ≤ 400) (g : List (Bs × Nat)) : ∀ f, NodeW l (nodeM l g f) f
 | 0, S, b, k, h, hD, hk => by have := (D_le _ _ _ hD).1; omega
 | f + 1, S, b, k, h, hD, hk => by
  have hle := D_le _ _ _ hD
  rw [List.length_drop] at hle
  have hlt : S.pc < l.length := by omega
  rw [nodeM]
  by_cases he : S.e ≠ 0
  ·rw [if_pos he]
   exact ⟨fun q _ => ⟨rfl, rfl⟩, fun h => h, fun h => absurd h he⟩
  ·rw [if_neg he, List.getElem?_eq_getElem hlt]
   simp only
   by_cases h19 : l[S.pc].kind = 19
   ·rw [if_pos h19]
    have hw := name_width hlt (P.ok _ (List.getElem_mem hlt)) h19
    rw [hw] at hD; cases hD
    rw [fnL_one hlt, if_neg (by omega)]
    exact Wk.name g false S hlt
   ·rw [if_neg h19]
    obtain ⟨d1, d2, d3⟩ := D_kids hlt hD
    have h0 := h.go (p := S.pc + 1) (Nat.le_succ _) hlt
    have r := step_wk P hl g (nodeI P hl g f) (nodeW P hl g f) (S := { S with pc := S.pc + 1 }) (k := k - 1) hlt h0 rfl (by simp only; have := h.nfr; omega) d3 (by omega)
    rw [show k - 1 + 1 = k by omega] at r
    exact (Wk.go S _).trans r
end
end Go.Proofs.YtihokakelnfdgaaDoor

namespace Go.Proofs.YtihokakelnfdgaaDoor
open Go Go.Ev
set_option linter.unusedVariables false
set_option linter.unusedSimpArgs false

/-! With other names that are unlike. -/
section
variable (r : Bs → Bs)
def rnSc (sc : List (Bs × Nat)) : List (Bs × Nat) := sc.map fun q => (r q.1, q.2)
def rnFr (f : Fr) : Fr := { f with scopes := f.scopes.map (rnSc r) }
def rn (S : MS) : MS := { S with globals := S.globals.map r, frames := S.frames.map (rnFr r) }
/-- names that stay apart, and stay primitives or none. -/
structure Nm (N : Bs → Prop) : Prop where
 inj : ∀ s t, N s → N t → r s = r t → s = t
 prim : ∀ s, N s → primI (r s) = primI s
def OkS (N : Bs → Prop) (S : MS) : Prop := ∀ f ∈ S.frames, ∀ sc ∈ f.scopes, ∀ q ∈ sc, N q.1
end
section
variable {r : Bs → Bs} {N : Bs → Prop}
theorem look_rn (hN : Nm r N) {s : Bs} (hs : N s) : ∀ (sc : List (Bs × Nat)), (∀ q ∈ sc, N q.1) → look (r s) (rnSc r sc) = look s sc
 | [], _ => rfl
 | (t, x) :: sc, h => by
  have ht := h (t, x) List.mem_cons_self
  have ih := look_rn hN hs sc fun q hq => h q (List.mem_cons_of_mem _ hq)
  unfold rnSc at ih ⊢
  simp only [List.map_cons, look]
  by_cases hst : s = t
  ·rw [if_pos hst, if_pos (by rw [hst])]
  ·rw [if_neg hst, if_neg fun he => hst (hN.inj s t hs ht he), ih]
theorem lay_rn (hN : Nm r N) {s : Bs} (hs : N s) (d : Nat) : ∀ (sc : List (Bs × Nat)), (∀ q ∈ sc, N q.1) → lay (r s) d (rnSc r sc) = rnSc r (lay s d sc)
 | [], _ => rfl
 | (t, x) :: sc, h => by
  have ht := h (t, x) List.mem_cons_self
  have ih := lay_rn hN hs d sc fun q hq => h q (List.mem_cons_of_mem _ hq)
  unfold rnSc at ih ⊢
  simp only [List.map_cons, lay]
  by_cases hst : s = t
  ·rw [if_pos hst, if_pos (by rw [hst])]; rfl
  ·rw [if_neg hst, if_neg fun he => hst (hN.inj s t hs ht he), ih]; rfl
theorem findSc_rn (hN : Nm r N) {s : Bs} (hs : N s) : ∀ (scs : List (List (Bs × Nat))), (∀ sc ∈ scs, ∀ q ∈ sc, N q.1) → findSc (r s) (scs.map (rnSc r)) = findSc s scs
 | [], _ => rfl
 | sc :: scs, h => by
  rw [List.map_cons, findSc, findSc, look_rn hN hs sc (h sc List.mem_cons_self), findSc_rn hN hs scs fun sc hsc => h sc (List.mem_cons_of_mem _ hsc)]
theorem findFr_rn (hN : Nm r N) {s : Bs} (hs : N s) : ∀ (fs : List Fr), (∀ f ∈ fs, ∀ sc ∈ f.scopes, ∀ q ∈ sc, N q.1) → findFr (r s) (fs.map (rnFr r)) = findFr s fs
 | [], _ => rfl
 | f :: fs, h => by
  rw [List.map_cons, findFr, findFr, findFr_rn hN hs fs fun f hf => h f (List.mem_cons_of_mem _ hf)]
  show (match findSc (r s) (f.scopes.map (rnSc r)) with | some d => some (d, 0) | none => _) = _
  rw [findSc_rn hN hs f.scopes (h f List.mem_cons_self)]
  rfl

theorem failIf_rn (S : MS) (b : Bool) (e : Nat) (p : Int) : rn r (S.failIf b e p) = (rn r S).failIf b e p := by
 unfold MS.failIf MS.fail
 cases b
 ·rfl
 ·by_cases h : S.e = 0
  ·rw [if_pos rfl, if_pos rfl, if_pos h, if_pos (show (rn r S).e = 0 from h)]; rfl
  ·rw [if_pos rfl, if_pos rfl, if_neg h, if_neg (show ¬ (rn r S).e = 0 from h)]
theorem OkS.failIf {S : MS} (h : OkS N S) (b : Bool) (e : Nat) (p : Int) : OkS N (S.failIf b e p) := by
 unfold OkS
 rw [(failIf_rest S b e p).2.2.2.1]; exact h
theorem topFn_rn (S : MS) : (rn r S).topFn = S.topFn := by
 unfold MS.topFn rn; cases S.frames <;> rfl
theorem topLoops_rn (S : MS) : (rn r S).topLoops = S.topLoops := by
 unfold MS.topLoops rn; cases S.frames <;> rfl
theorem topScopes_rn (S : MS) : (rn r S).topScopes = S.topScopes.map (rnSc r) := by
 unfold MS.topScopes rn; cases S.frames <;> rfl
theorem isTop_rn (S : MS) : isTop (rn r S) = isTop S := by
 unfold isTop
 rw [topFn_rn, topScopes_rn]
 cases S.topScopes <;> rfl
theorem headSc_rn (scs : List (List (Bs × Nat))) : headSc (scs.map (rnSc r)) = rnSc r (headSc scs) := by cases scs <;> rfl
theorem OkS.head {S : MS} (h : OkS N S) : ∀ q ∈ headSc S.topScopes, N q.1 := by
 unfold MS.topScopes
 cases hS : S.frames with
 | nil => intro q hq; cases hq
 | cons f fs =>
  simp only
  cases hsc : f.scopes with
  | nil => intro q hq; cases hq
  | cons sc scr => exact fun q hq => h f (by rw [hS]; exact List.mem_cons_self) sc (by rw [hsc]; exact List.mem_cons_self) q hq
theorem declare_rn (hN : Nm r N) {S : MS} (h : OkS N S) {s : Bs} (hs : N s) (at_ : Nat) (pos : Int) : (rn r S).declare (r s) at_ pos = rn r (S.declare s at_ pos) ∧ OkS N (S.declare s at_ pos) := by
 have e2 : look (r s) (headSc (rn r S).topScopes) = look s (headSc S.topScopes) := by
  rw [topScopes_rn, headSc_rn, look_rn hN hs _ h.head]
 constructor
 ·unfold MS.declare
  simp only [hN.prim s hs, e2, topFn_rn]
  have e3 : (rn r S).funs = S.funs := rfl
  have e4 : (rn r S).decls = S.decls := rfl
  rw [e3, e4, ← failIf_rn, ← failIf_rn, ← failIf_rn]
  rfl
 ·intro f hf
  refine (((h.failIf (primI s).isSome 8 pos).failIf (look s (headSc S.topScopes)).isSome 80 pos).failIf (decide (slotsOf S.funs S.topFn = 256)) 3 pos) f ?_
  exact hf
theorem top_rn {g g' : Fr → Fr} (hg : ∀ f, g' (rnFr r f) = rnFr r (g f)) (S : MS) : (rn r S).top g' = rn r (S.top g) := by
 unfold MS.top rn
 simp only
 cases S.frames with
 | nil => rfl
 | cons f fs => simp only [List.map_cons, onTop, hg]
theorem OkS.top {S : MS} (h : OkS N S) {g : Fr → Fr} (hg : ∀ f r', S.frames = f :: r' → ∀ sc ∈ (g f).scopes, ∀ q ∈ sc, N q.1) : OkS N (S.top g) := by
 intro f hf
 exact onTop_mem (P := fun f => ∀ sc ∈ f.scopes, ∀ q ∈ sc, N q.1) h hg f hf
theorem bind_rn (hN : Nm r N) {S : MS} (h : OkS N S) {s : Bs} (hs : N s) (d : Nat) : (rn r S).bind (r s) d = rn r (S.bind s d) ∧ OkS N (S.bind s d) := by
 constructor
 ·unfold MS.bind MS.top rn
  simp only
  cases hS : S.frames with
  | nil => rfl
  | cons f fs =>
   simp only [List.map_cons, onTop]
   congr 2
   unfold rnFr
   simp only
   congr 1
   cases hsc : f.scopes with
   | nil => rfl
   | cons sc scr =>
    simp only [List.map_cons, layTop]
    rw [lay_rn hN hs d sc fun q hq => h f (by rw [hS]; exact List.mem_cons_self) sc (by rw [hsc]; exact List.mem_cons_self) q hq]
 ·refine h.top fun f r' hS sc hm q hq => ?_
  have hf := h f (by rw [hS]; exact List.mem_cons_self)
  cases hsc : f.scopes with
  | nil => simp only [hsc, layTop] at hm; cases hm
  | cons sc0 scr =>
   simp only [hsc, layTop] at hm
   rcases List.mem_cons.1 hm with rfl | hm
   ·rcases lay_mem hq with rfl | hq
    ·exact hs
    ·exact hf sc0 (by rw [hsc]; exact List.mem_cons_self) q hq
   ·exact hf sc (by rw [hsc]; exact List.mem_cons_of_mem _ hm) q hq
theorem enter_rn {S : MS} (h : OkS N S) : (rn r S).enter = rn r S.enter ∧ OkS N S.enter := by
 refine ⟨top_rn (g := fun f => { f with scopes := [] :: f.scopes }) (g' := fun f => { f with scopes := [] :: f.scopes }) (fun f => rfl) S, h.top fun f r' hS sc hm q hq => ?_⟩
 rcases List.mem_cons.1 hm with rfl | hm
 ·cases hq
 ·exact h f (by rw [hS]; exact List.mem_cons_self) sc hm q hq
theorem leave_rn {S : MS} (h : OkS N S) : (rn r S).leave = rn r S.leave ∧ OkS N S.leave := by
 refine ⟨top_rn (fun f => ?_) S, h.top fun f r' hS sc hm q hq => h f (by rw [hS]; exact List.mem_cons_self) sc (List.mem_of_mem_tail hm) q hq⟩
 unfold rnFr; simp only [List.map_tail]
theorem loop_rn {S : MS} (h : OkS N S) (g : Nat → Nat) : (rn r S).loop g = rn r (S.loop g) ∧ OkS N (S.loop g) :=
 ⟨top_rn (g := fun f => { f with loops := g f.loops }) (g' := fun f => { f with loops := g f.loops }) (fun f => rfl) S, h.top fun f r' hS sc hm q hq => h f (by rw [hS]; exact List.mem_cons_self) sc hm q hq⟩
theorem global_rn (hN : Nm r N) {S : MS} (h : OkS N S) {g : List (Bs × Nat)} (hg : ∀ q ∈ g, N q.1) {s : Bs} (hs : N s) (at_ : Nat) (pos : Int) : MS.global (rnSc r g) (rn r S) (r s) at_ pos = rn r (MS.global g S s at_ pos) ∧ OkS N (MS.global g S s at_ pos) := by
 have hc : globC (rnSc r g) (r s) at_ = globC g s at_ := by unfold globC; rw [look_rn hN hs g hg]
 have e1 : ∀ (g : List (Bs × Nat)) (S : MS) (s : Bs), MS.global g S s at_ pos = (let S3 := ((S.failIf (primI s).isSome 8 pos).failIf (globC g s at_) 80 pos).failIf (decide (S.globals.length = 1024)) 3 pos; { S3 with uses := S3.uses.set at_ (4, S.globals.length), globals := S3.globals ++ [s] }) := fun _ _ _ => rfl
 have hl : (rn r S).globals.length = S.globals.length := List.length_map ..
 constructor
 ·rw [e1, e1, hc, hN.prim s hs, hl, ← failIf_rn, ← failIf_rn, ← failIf_rn]
  unfold rn
  simp only [List.map_append, List.map_cons, List.map_nil]
 ·rw [e1]
  intro f hf
  exact (((h.failIf (primI s).isSome 8 pos).failIf (globC g s at_) 80 pos).failIf (decide (S.globals.length = 1024)) 3 pos) f hf
theorem modify_map {α β : Type} (g : α → β) (p : α → α) (p' : β → β) (hp : ∀ x, p' (g x) = g (p x)) : ∀ (l : List α) (k : Nat), (l.map g).modify k p' = (l.modify k p).map g
 | [], k => by cases k <;> rfl
 | x :: l, 0 => by simp only [List.map_cons, List.modify_zero_cons, hp]
 | x :: l, k + 1 => by simp only [List.map_cons, List.modify_succ_cons, modify_map g p p' hp l k]
theorem take_rn : ∀ (f : Nat) (S : MS) (d k : Nat) (pos : Int), (MS.take f (rn r S) d k pos) = (rn r (MS.take f S d k pos).1, (MS.take f S d k pos).2)
 | 0, S, d, k, pos => rfl
 | f + 1, S, d, k, pos => by
  have ht : taken (rn r S) d k = taken S d k := by
   unfold taken rn
   simp only [List.getElem?_map]
   cases S.frames[k]? <;> rfl
  have hf : ∀ (S : MS) (k : Nat), frFn (rn r S) k = frFn S k := fun S k => by
   unfold frFn rn
   simp only [List.getElem?_map]
   cases S.frames[k]? <;> rfl
  have hd : declFn (rn r S) d = declFn S d := rfl
  have hsl : declSlot (rn r S) d = declSlot S d := rfl
  rw [MS.take, MS.take, ht]
  cases taken S d k with
  | some i => rfl
  | none =>
   simp only [hf, hd, hsl]
   by_cases hh : frFn S (k + 1) ≠ declFn S d
   ·simp only [if_pos hh, take_rn f S d (k + 1) pos]
    have e1 : ∀ T : MS, (rn r T).funs = T.funs := fun _ => rfl
    rw [e1, ← failIf_rn]
    unfold rn
    simp only
    rw [modify_map (rnFr r) (fun f_1 => { f_1 with caps := lay d (capsOf (MS.take f S d (k + 1) pos).1.funs (frFn S k)).length f_1.caps }) _ (fun x => rfl)]
   ·simp only [if_neg hh]
    have e1 : ∀ T : MS, (rn r T).funs = T.funs := fun _ => rfl
    rw [e1, ← failIf_rn]
    unfold rn
    simp only
    rw [modify_map (rnFr r) (fun f_1 => { f_1 with caps := lay d (capsOf S.funs (frFn S k)).length f_1.caps }) _ (fun x => rfl)]
end
end Go.Proofs.YtihokakelnfdgaaDoor

namespace Go.Proofs.YtihokakelnfdgaaDoor
open Go Go.Ev
set_option linter.unusedVariables false
set_option linter.unusedSimpArgs false

/-! The walk, with other names. -/
/-- nodes with other names where names stand. -/
def rnd (r : Bs → Bs) (x : Nd) : Nd := if x.kind = 19 ∨ x.kind = 3 ∨ x.kind = 12 ∨ x.kind = 11 then { x with text := r x.text } else x
theorem rnd_kind (r : Bs → Bs) (x : Nd) : (rnd r x).kind = x.kind := by unfold rnd; split <;> rfl
theorem rnd_n (r : Bs → Bs) (x : Nd) : (rnd r x).n = x.n := by unfold rnd; split <;> rfl
theorem rnd_num (r : Bs → Bs) (x : Nd) : (rnd r x).num = x.num := by unfold rnd; split <;> rfl
theorem rnd_pos (r : Bs → Bs) (x : Nd) : (rnd r x).pos = x.pos := by unfold rnd; split <;> rfl
theorem rnd_text {r : Bs → Bs} {x : Nd} (h : x.kind = 19 ∨ x.kind = 3 ∨ x.kind = 12 ∨ x.kind = 11) : (rnd r x).text = r x.text := by unfold rnd; rw [if_pos h]
/-- all names of a program are such. -/
def NmL (N : Bs → Prop) (l : List Nd) : Prop := ∀ x ∈ l, (x.kind = 19 ∨ x.kind = 3 ∨ x.kind = 12 ∨ x.kind = 11) → N x.text

theorem D_rn (r : Bs → Bs) : ∀ (l : List Nd) (d : Nat), D (l.map (rnd r)) d = D l d
 | l, 0 => by rw [D_zero, D_zero]
 | [], d + 1 => rfl
 | x :: l, d + 1 => by rw [List.map_cons, D, D, rnd_n, D_rn r l]
theorem width_rn (r : Bs → Bs) (l : List Nd) (p : Nat) : width (l.map (rnd r)) p = width l p := by
 unfold width
 rw [← List.map_drop, D_rn]
theorem kidsP_rn (r : Bs → Bs) (l : List Nd) : ∀ (c p : Nat), kidsP (l.map (rnd r)) c p = kidsP l c p
 | 0, p => rfl
 | c + 1, p => by rw [kidsP, kidsP, ← List.map_drop, D_rn, kidsP_rn r l c]
theorem tops_rn (r : Bs → Bs) (l : List Nd) : tops (l.map (rnd r)) = tops l := by
 unfold tops
 rw [kidsP_rn, List.getElem?_map]
 cases l[0]? with
 | none => rfl
 | some x => simp only [Option.map_some, rnd_n]
theorem isDecl_rn (r : Bs → Bs) (l : List Nd) (k : Nat) : isDecl (l.map (rnd r)) k = isDecl l k := by
 unfold isDecl
 rw [List.getElem?_map]
 cases l[k]? with
 | none => rfl
 | some x => simp only [Option.map_some, rnd_kind]
theorem nameAt_rn {r : Bs → Bs} {l : List Nd} {k : Nat} (h : isDecl l k = true) : nameAt (l.map (rnd r)) k = r (nameAt l k) := by
 unfold isDecl at h
 unfold nameAt
 rw [List.getElem?_map]
 cases hk : l[k]? with
 | none => rw [hk] at h; cases h
 | some x =>
  rw [hk] at h
  have := of_decide_eq_true h
  simp only [Option.map_some]
  exact rnd_text (by omega)
theorem nameAt_N {N : Bs → Prop} {l : List Nd} (hl : NmL N l) {k : Nat} (h : isDecl l k = true) : N (nameAt l k) := by
 unfold isDecl at h
 unfold nameAt
 cases hk : l[k]? with
 | none => rw [hk] at h; cases h
 | some x =>
  rw [hk] at h
  have := of_decide_eq_true h
  exact hl x (List.mem_of_getElem? hk) (by omega)
theorem globalNo_rn (r : Bs → Bs) (l : List Nd) (at_ : Nat) : globalNo (l.map (rnd r)) at_ = globalNo l at_ := by
 unfold globalNo
 rw [tops_rn]
 congr 2
 funext k
 rw [isDecl_rn]

section
variable {r : Bs → Bs} {N : Bs → Prop}
theorem hoist_rn (hN : Nm r N) {l : List Nd} (hl : NmL N l) : ∀ (ts : List Nat) (g : List (Bs × Nat)), (∀ q ∈ g, N q.1) →
  ts.foldl (fun g k => if isDecl (l.map (rnd r)) k && (look (nameAt (l.map (rnd r)) k) g).isNone then lay (nameAt (l.map (rnd r)) k) k g else g) (rnSc r g) =
  rnSc r (ts.foldl (fun g k => if isDecl l k && (look (nameAt l k) g).isNone then lay (nameAt l k) k g else g) g) ∧
  ∀ q ∈ ts.foldl (fun g k => if isDecl l k && (look (nameAt l k) g).isNone then lay (nameAt l k) k g else g) g, N q.1
 | [], g, hg => ⟨rfl, hg⟩
 | k :: ts, g, hg => by
  rw [List.foldl_cons, List.foldl_cons]
  cases hd : isDecl l k with
  | false =>
   simp only [isDecl_rn, hd, Bool.false_and, Bool.false_eq_true, if_false]
   have := hoist_rn hN hl ts g hg
   simp only [isDecl_rn] at this
   exact this
  | true =>
   have hn := nameAt_N hl hd
   simp only [isDecl_rn, hd, Bool.true_and, nameAt_rn hd, look_rn hN hn g hg]
   by_cases hc : (look (nameAt l k) g).isNone = true
   ·simp only [hc, if_true]
    rw [lay_rn hN hn k g hg]
    have := hoist_rn hN hl ts (lay (nameAt l k) k g) (fun q hq => (lay_mem hq).elim (fun h => by rw [h]; exact hn) (hg q))
    simp only [isDecl_rn] at this
    exact this
   ·simp only [hc]
    have := hoist_rn hN hl ts g hg
    simp only [isDecl_rn] at this
    exact this
theorem hoisted_rn (hN : Nm r N) {l : List Nd} (hl : NmL N l) : hoisted (l.map (rnd r)) = rnSc r (hoisted l) ∧ ∀ q ∈ hoisted l, N q.1 := by
 unfold hoisted
 rw [tops_rn]
 exact hoist_rn hN hl (tops l) [] (by simp)

theorem rnM_pc (S : MS) (p : Nat) : ({ rn r S with pc := p } : MS) = rn r { S with pc := p } := rfl
theorem name_rn (hN : Nm r N) {l : List Nd} (hl : NmL N l) {g : List (Bs × Nat)} (hg : ∀ q ∈ g, N q.1) (set : Bool) {S : MS} (h : OkS N S) (hp : S.pc < l.length) (hk : l[S.pc].kind = 19) :
  MS.name (l.map (rnd r)) (rnSc r g) set (rn r S) = rn r (MS.name l g set S) ∧ OkS N (MS.name l g set S) := by
 have hx : l[S.pc]? = some l[S.pc] := List.getElem?_eq_getElem hp
 have hs := hl _ (List.getElem_mem hp) (.inl hk)
 have hx' : (l.map (rnd r))[(rn r S).pc]? = some (rnd r l[S.pc]) := by
  show (l.map (rnd r))[S.pc]? = _
  rw [List.getElem?_map, hx]; rfl
 rw [MS.name_find _ _ hx', MS.name_find _ _ hx, rnd_text (.inl hk), rnd_pos, hN.prim _ hs]
 generalize l[S.pc] = x at hs
 have e0 : (({ rn r S with pc := (rn r S).pc + 1 } : MS).failIf ((primI x.text).isSome && set) 8 x.pos) = rn r (({ S with pc := S.pc + 1 } : MS).failIf ((primI x.text).isSome && set) 8 x.pos) := by
  rw [failIf_rn]; rfl
 have ok1 : OkS N (({ S with pc := S.pc + 1 } : MS).failIf ((primI x.text).isSome && set) 8 x.pos) := OkS.failIf (S := { S with pc := S.pc + 1 }) h _ _ _
 simp only [e0]
 generalize ({ S with pc := S.pc + 1 } : MS).failIf ((primI x.text).isSome && set) 8 x.pos = S1 at ok1
 have ef : findFr (r x.text) (rn r S1).frames = findFr x.text S1.frames := findFr_rn hN hs S1.frames ok1
 have eg : look (r x.text) (rnSc r g) = look x.text g := look_rn hN hs g hg
 rw [ef, eg]
 have ep : (rn r S).pc = S.pc := rfl
 rw [ep]
 cases findFr x.text S1.frames with
 | some q =>
  obtain ⟨d, out⟩ := q
  cases out with
  | zero => exact ⟨rfl, ok1⟩
  | succ out =>
   simp only
   have el : (rn r S1).frames.length = S1.frames.length := List.length_map ..
   generalize hS2 : ({ S1 with means := (S1.means.set S.pc (some d)).set S.pc none, decls := S1.decls.modify d fun c => { c with cap := true } } : MS) = S2
   have e2 : ({ rn r S1 with means := ((rn r S1).means.set S.pc (some d)).set S.pc none, decls := (rn r S1).decls.modify d fun c => { c with cap := true } } : MS) = rn r S2 := by rw [← hS2]; rfl
   rw [e2, el, take_rn]
   refine ⟨rfl, ?_⟩
   have ok2 : OkS N S2 := by rw [← hS2]; exact ok1
   have tk := take_tk (S1.frames.length + 1) S2 d 0 x.pos
   intro f hf
   obtain ⟨i, hi, rfl⟩ := List.getElem_of_mem hf
   obtain ⟨g0, a1, a2, a3, -⟩ := tk.frames i _ (List.getElem?_eq_getElem hi)
   rw [a3]
   exact ok2 g0 (List.mem_of_getElem? a1)
 | none =>
  simp only
  cases look x.text g with
  | some at_ =>
   simp only [globalNo_rn]
   exact ⟨rfl, ok1⟩
  | none =>
   simp only
   rw [← failIf_rn]
   exact ⟨rfl, ok1.failIf _ _ _⟩
end
end Go.Proofs.YtihokakelnfdgaaDoor

namespace Go.Proofs.YtihokakelnfdgaaDoor
open Go Go.Ev
set_option linter.unusedVariables false
set_option linter.unusedSimpArgs false

/-! A node, with other names. -/
def NodeR (r : Bs → Bs) (N : Bs → Prop) (l : List Nd) (nd nd' : MS → MS) (f : Nat) : Prop := ∀ (S : MS) (b k : Nat), Inv l b S → D (l.drop S.pc) 1 = some k → k ≤ f → OkS N S → nd' (rn r S) = rn r (nd S) ∧ OkS N (nd S)
section
variable {r : Bs → Bs} {N : Bs → Prop} {l : List Nd} {nd nd' : MS → MS} {f b k : Nat} {S : MS}
theorem OkS.of_fr {S S' : MS} (h : OkS N S) (he : S'.frames = S.frames) : OkS N S' := by unfold OkS; rw [he]; exact h
theorem times_rn (hN : NodeI l nd f) (hR : NodeR r N l nd nd' f) : ∀ (n : Nat) (S : MS) (b k : Nat), Inv l b S → D (l.drop S.pc) n = some k → k ≤ f → OkS N S → times nd' n (rn r S) = rn r (times nd n S) ∧ OkS N (times nd n S)
 | 0, S, b, k, h, hD, hk, ho => ⟨rfl, ho⟩
 | n + 1, S, b, k, h, hD, hk, ho => by
  obtain ⟨k1, k2, e1, e2, e3, e4, e5, e6⟩ := D_next hD
  obtain ⟨i1, i2, i3⟩ := hN S b k1 h e1 (by omega)
  obtain ⟨r1, r2⟩ := hR S b k1 h e1 (by omega) ho
  rw [times, times, r1]
  exact times_rn hN hR n (nd S) (b + 2 * k1) k2 i1 (by rw [i3]; exact e2) (by omega) r2
theorem params_rn (hM : Nm r N) (hl : NmL N l) : ∀ (n : Nat) (S : MS), (∀ i, i < n → ∃ h : S.pc + i < l.length, l[S.pc + i].kind = 19) → OkS N S → MS.params (l.map (rnd r)) n (rn r S) = rn r (MS.params l n S) ∧ OkS N (MS.params l n S)
 | 0, S, hp, ho => ⟨rfl, ho⟩
 | n + 1, S, hp, ho => by
  obtain ⟨h0, h1⟩ := hp 0 (by omega)
  simp only [Nat.add_zero] at h0 h1
  have hx : l[S.pc]? = some l[S.pc] := List.getElem?_eq_getElem h0
  have hx' : (l.map (rnd r))[(rn r S).pc]? = some (rnd r l[S.pc]) := by
   show (l.map (rnd r))[S.pc]? = _
   rw [List.getElem?_map, hx]; rfl
  rw [MS.params, MS.params, hx, hx']
  simp only [rnd_text (.inl h1), rnd_pos]
  have hs := hl _ (List.getElem_mem h0) (.inl h1)
  obtain ⟨d1, d2⟩ := declare_rn hM ho hs S.pc l[S.pc].pos
  obtain ⟨c1, c2⟩ := bind_rn hM d2 hs S.decls.length
  have epc : (rn r S).pc = S.pc := rfl
  have edl : (rn r S).decls.length = S.decls.length := rfl
  have hpc : (S.declare l[S.pc].text S.pc l[S.pc].pos).pc = S.pc := by
   unfold MS.declare
   simp only
   rw [(failIf_rest _ _ _ _).2.2.2.2.2.2, (failIf_rest _ _ _ _).2.2.2.2.2.2, (failIf_rest _ _ _ _).2.2.2.2.2.2]
  rw [epc, edl, d1, c1]
  generalize hT : (S.declare l[S.pc].text S.pc l[S.pc].pos).bind l[S.pc].text S.decls.length = T at c2
  have hTp : T.pc = S.pc := by rw [← hT]; exact hpc
  have := params_rn hM hl n { T with pc := T.pc + 1 } (fun i hi => by
   obtain ⟨a, c⟩ := hp (i + 1) (by omega)
   have e : T.pc + 1 + i = S.pc + (i + 1) := by omega
   exact ⟨by show T.pc + 1 + i < _; omega, by show l[T.pc + 1 + i].kind = 19; simp only [e]; exact c⟩) c2
  exact this
theorem open_rn (ho : OkS N S) (p : Nat) (x : Nd) : (rn r S).open_ p (rnd r x) = rn r (S.open_ p x) ∧ OkS N (S.open_ p x) := by
 have e2 : ∀ (S : MS) (p : Nat) (x : Nd), S.open_ p x = ({ S.failIf (decide (S.funs.length = 1024)) 3 x.pos with funs := (S.failIf (decide (S.funs.length = 1024)) 3 x.pos).funs ++ [⟨p, x.num, 0, []⟩], frames := ⟨(S.failIf (decide (S.funs.length = 1024)) 3 x.pos).funs.length, [], 0, []⟩ :: (S.failIf (decide (S.funs.length = 1024)) 3 x.pos).frames } : MS).enter := fun _ _ _ => rfl
 rw [e2, e2, rnd_pos, rnd_num]
 have e3 : (rn r S).funs.length = S.funs.length := rfl
 rw [e3, ← failIf_rn]
 generalize hT : S.failIf (decide (S.funs.length = 1024)) 3 x.pos = T
 have oT : OkS N T := by rw [← hT]; exact ho.failIf _ _ _
 have oU : OkS N { T with funs := T.funs ++ [⟨p, x.num, 0, []⟩], frames := ⟨T.funs.length, [], 0, []⟩ :: T.frames } := by
  intro f hf
  rcases List.mem_cons.1 hf with rfl | hf
  ·intro sc hsc; cases hsc
  ·exact oT f hf
 exact enter_rn oU
theorem function_rn (P : Prg l) (hM : Nm r N) (hl : NmL N l) (hN : NodeI l nd f) (hR : NodeR r N l nd nd' f) {p : Nat} (hp : p < l.length) (hk : l[p].kind = 12 ∨ l[p].kind = 31) (h : Inv l b S) (hpc : S.pc = p + 1) (hfr : S.frames.length + 1 ≤ S.pc) (hD : D (l.drop (p + 1)) l[p].n.toNat = some k) (hkf : k ≤ f) (ho : OkS N S) :
  (rn r S).function (l.map (rnd r)) nd' p (rnd r l[p]) = rn r (S.function l nd p l[p]) ∧ OkS N (S.function l nd p l[p]) := by
 obtain ⟨c1, c2, c3⟩ := cntF (P.ok _ (List.getElem_mem hp)) hk
 obtain ⟨num, hnum⟩ : ∃ n : Nat, l[p].num = n := ⟨l[p].num.toNat, by omega⟩
 have hpar := P.params hp hk
 have hpar' : ∀ i : Nat, i < num → ∃ hq : p + 1 + i < l.length, l[p + 1 + i].kind = 19 := fun i hi => hpar i (by omega)
 have hnD := names_D P.ok num (p + 1) hpar'
 rw [show l[p].n.toNat = num + 1 by omega] at hD
 obtain ⟨k1, k2, e1, e2, e3⟩ := D_add _ _ _ _ hD
 rw [hnD] at e1; cases e1
 rw [List.drop_drop] at e2
 have hle := D_le _ _ _ e2
 rw [List.length_drop] at hle
 obtain ⟨i1, i2, i3, i4, i5, i6⟩ := h.open_ hfr p l[p]
 obtain ⟨j1, j2, j3⟩ := params_inv P.ok num (S.open_ p l[p]) (b + 1) i1 (by rw [i6, hpc]; omega)
 obtain ⟨a1, a2⟩ := open_rn (r := r) ho p l[p]
 obtain ⟨a3, a4⟩ := params_rn hM hl num (S.open_ p l[p]) (by rw [i6, hpc]; exact hpar') a2
 obtain ⟨a5, a6⟩ := hR (MS.params l num (S.open_ p l[p])) (b + 1 + num) k2 j1 (by rw [j3, i6, hpc]; exact e2) (by omega) a4
 obtain ⟨a7, a8⟩ := leave_rn (r := r) a6
 unfold MS.function
 rw [rnd_num, show l[p].num.toNat = num by omega, a1, a3, a5]
 simp only [a7]
 refine ⟨?_, fun f hf => a8 f (List.mem_of_mem_tail hf)⟩
 unfold rn
 simp only [List.map_tail]

theorem step_rn (P : Prg l) (hlen : l.length ≤ 400) (hM : Nm r N) (hl : NmL N l) {g : List (Bs × Nat)} (hg : ∀ q ∈ g, N q.1) (hN : NodeI l nd f) (hR : NodeR r N l nd nd' f) {p : Nat} (hp : p < l.length) (h : Inv l b S) (hpc : S.pc = p + 1) (hfr : S.frames.length + 1 ≤ S.pc) (hD : D (l.drop (p + 1)) l[p].n.toNat = some k) (hkf : k ≤ f) (ho : OkS N S) :
  MS.step (l.map (rnd r)) (rnSc r g) nd' p (rnd r l[p]) (rn r S) = rn r (MS.step l g nd p l[p] S) ∧ OkS N (MS.step l g nd p l[p] S) := by
 have hok := P.ok _ (List.getElem_mem hp)
 have hokl := P.ok
 have hfun := fun (S1 : MS) (b : Nat) (hk : l[p].kind = 12 ∨ l[p].kind = 31) (h1 : Inv l b S1) (h2 : S1.pc = p + 1) (h3 : S1.frames.length + 1 ≤ S1.pc) (h4 : OkS N S1) => function_rn (S := S1) (b := b) P hM hl hN hR hp hk h1 h2 h3 hD hkf h4
 have hnm := hl _ (List.getElem_mem hp)
 generalize hx : l[p] = x at hD hok hfun hnm
 rw [← hpc] at hD
 unfold MS.step
 rw [rnd_kind]
 by_cases h2 : x.kind = 2
 ·rw [if_pos h2, if_pos h2, rnd_n]
  obtain ⟨a1, a2⟩ := enter_rn (r := r) ho
  obtain ⟨a3, a4⟩ := times_rn hN hR x.n.toNat S.enter (b + 1) k h.enter hD hkf a2
  rw [a1, a3]
  exact leave_rn a4
 rw [if_neg h2, if_neg h2]
 by_cases h3 : x.kind = 3
 ·rw [if_pos h3, if_pos h3]
  rw [cnt1 hok h3] at hD
  have hs := hnm (.inr (.inl h3))
  unfold MS.variable
  rw [isTop_rn, rnd_text (.inr (.inl h3)), rnd_pos]
  by_cases ht : isTop S = true
  ·rw [if_pos ht, if_pos ht]
   obtain ⟨i1, i2, i3⟩ := h.global g x.text p x.pos
   obtain ⟨a1, a2⟩ := global_rn hM ho hg hs p x.pos
   rw [a1]
   exact hR _ _ k i1 (by rw [i3]; exact hD) hkf a2
  ·rw [if_neg ht, if_neg ht]
   obtain ⟨i1, i2, i3, i4, i5, i6⟩ := h.declare x.text p x.pos
   obtain ⟨a1, a2⟩ := declare_rn hM ho hs p x.pos
   obtain ⟨a3, a4⟩ := hR _ _ k i1 (by rw [i3]; exact hD) hkf a2
   rw [a1, a3]
   exact bind_rn hM a4 hs S.decls.length
 rw [if_neg h3, if_neg h3]
 by_cases h12 : x.kind = 12
 ·rw [if_pos h12, if_pos h12, isTop_rn, rnd_text (.inr (.inr (.inl h12))), rnd_pos]
  have hs := hnm (.inr (.inr (.inl h12)))
  by_cases ht : isTop S = true
  ·rw [if_pos ht, if_pos ht]
   obtain ⟨i1, i2, i3⟩ := h.global g x.text p x.pos
   obtain ⟨a1, a2⟩ := global_rn hM ho hg hs p x.pos
   have hln : (MS.global g S x.text p x.pos).frames.length = S.frames.length := by rw [← frK_len, i2.fr, frK_len]
   rw [a1]
   exact hfun _ _ (.inl h12) i1 (i3.trans hpc) (by rw [hln, i3]; exact hfr) a2
  ·rw [if_neg ht, if_neg ht]
   obtain ⟨i1, i2, i3, i4, i5, i6⟩ := h.declare x.text p x.pos
   obtain ⟨j1, j2, j3⟩ := i1.bind x.text (d := S.decls.length) i5 (by rw [i6]; exact (topFn_frK i2.fr).1.symm)
   obtain ⟨a1, a2⟩ := declare_rn hM ho hs p x.pos
   obtain ⟨a3, a4⟩ := bind_rn hM a2 hs S.decls.length
   have hln : ((S.declare x.text p x.pos).bind x.text S.decls.length).frames.length = S.frames.length := by rw [← frK_len, j2.fr, i2.fr, frK_len]
   have edl : (rn r S).decls.length = S.decls.length := rfl
   rw [edl, a1, a3]
   exact hfun _ _ (.inl h12) j1 (j3.trans (i3.trans hpc)) (by rw [hln, j3, i3]; exact hfr) a4
 rw [if_neg h12, if_neg h12]
 by_cases h31 : x.kind = 31
 ·rw [if_pos h31, if_pos h31]
  exact hfun _ _ (.inr h31) h hpc hfr ho
 rw [if_neg h31, if_neg h31]
 by_cases h4 : x.kind = 4
 ·rw [if_pos h4, if_pos h4]
  rw [cnt2 hok (.inl h4)] at hD
  have hD2 : D (l.drop S.pc) 2 = some k := hD
  obtain ⟨k1, k2, e1, e2, e3, e4, e5, e6⟩ := D_next hD2
  have hx' : (l.map (rnd r))[(rn r S).pc]? = some (rnd r l[S.pc]) := by
   show (l.map (rnd r))[S.pc]? = _
   rw [List.getElem?_map, List.getElem?_eq_getElem e5]; rfl
  rw [hx', List.getElem?_eq_getElem e5]
  simp only [rnd_kind]
  by_cases hy : l[S.pc].kind = 19
  ·rw [if_pos hy, if_pos hy]
   have hw := name_width e5 (hokl _ (List.getElem_mem e5)) hy
   rw [hw] at e1; cases e1
   obtain ⟨i1, i2, i3⟩ := h.name hlen g true e5
   obtain ⟨a1, a2⟩ := name_rn hM hl hg true ho e5 hy
   rw [a1]
   exact hR _ _ k2 i1 (by rw [i3]; exact e2) (by omega) a2
  ·rw [if_neg hy, if_neg hy]
   exact times_rn hN hR 2 S b k h hD2 hkf ho
 rw [if_neg h4, if_neg h4]
 by_cases h11 : x.kind = 11
 ·rw [if_pos h11, if_pos h11]
  rw [cnt2 hok (.inr (.inr h11))] at hD
  have hs := hnm (.inr (.inr (.inr h11)))
  have hD2 : D (l.drop S.pc) 2 = some k := hD
  obtain ⟨k1, k2, e1, e2, e3, e4, e5, e6⟩ := D_next hD2
  unfold MS.try_
  rw [rnd_text (.inr (.inr (.inr h11))), rnd_pos]
  obtain ⟨i1, i2, i3, i4, i5, i6⟩ := h.enter.declare x.text p x.pos
  obtain ⟨r1, r2, r3⟩ := hN _ _ k1 i1 (by rw [i3]; exact e1) (by omega)
  have hd := r2.declFn i5
  obtain ⟨j1, j2, j3⟩ := r1.bind x.text (d := S.enter.decls.length) hd.2 (by rw [hd.1, i6]; exact (topFn_frK (i2.trans r2).fr).1.symm)
  obtain ⟨a1, a2⟩ := enter_rn (r := r) ho
  obtain ⟨a3, a4⟩ := declare_rn hM a2 hs p x.pos
  obtain ⟨a5, a6⟩ := hR _ _ k1 i1 (by rw [i3]; exact e1) (by omega) a4
  obtain ⟨a7, a8⟩ := bind_rn hM a6 hs S.decls.length
  obtain ⟨a9, b1⟩ := hR _ _ k2 j1 (by rw [j3, r3, i3]; exact e2) (by omega) a8
  have edl : (rn r S).decls.length = S.decls.length := rfl
  have eel : S.enter.decls.length = S.decls.length := rfl
  rw [eel] at a9 b1
  rw [edl, a1, a3, a5, a7, a9]
  exact leave_rn b1
 rw [if_neg h11, if_neg h11]
 unfold MS.plain
 rw [rnd_kind]
 by_cases h6 : x.kind = 6
 ·rw [if_pos h6, if_pos h6]
  rw [cnt2 hok (.inr (.inl h6))] at hD
  have hD2 : D (l.drop S.pc) 2 = some k := hD
  obtain ⟨k1, k2, e1, e2, e3, e4, e5, e6⟩ := D_next hD2
  obtain ⟨r1, r2, r3⟩ := hN _ _ k1 h e1 (by omega)
  have j1 := r1.loop (· + 1) (b' := b + 2 * k1 + 1) (Nat.le_succ _) (fun n hn => by show n + 1 ≤ _; omega)
  obtain ⟨a1, a2⟩ := hR _ _ k1 h e1 (by omega) ho
  obtain ⟨a3, a4⟩ := loop_rn (r := r) a2 (· + 1)
  obtain ⟨a5, a6⟩ := hR ((nd S).loop (· + 1)) _ k2 j1 (by show D (l.drop (nd S).pc) 1 = _; rw [r3]; exact e2) (by omega) a4
  rw [a1, a3, a5]
  exact loop_rn a6 (· - 1)
 ·rw [if_neg h6, if_neg h6, rnd_n, rnd_pos]
  simp only [topLoops_rn, topFn_rn, ← failIf_rn]
  have key : ∀ (S1 : MS), Inv l b S1 → OkS N S1 → S1.pc = S.pc → times nd' x.n.toNat (rn r S1) = rn r (times nd x.n.toNat S1) ∧ OkS N (times nd x.n.toNat S1) := by
   intro S1 i1 i2 i3
   exact times_rn hN hR x.n.toNat S1 b k i1 (by rw [i3]; exact hD) hkf i2
  split
  ·exact key _ (h.failIf _ _ _) (ho.failIf _ _ _) (failIf_rest S _ _ _).2.2.2.2.2.2
  ·split
   ·exact key _ (h.failIf _ _ _) (ho.failIf _ _ _) (failIf_rest S _ _ _).2.2.2.2.2.2
   ·exact key _ h ho rfl

theorem nodeR (P : Prg l) (hlen : l.length ≤ 400) (hM : Nm r N) (hl : NmL N l) {g : List (Bs × Nat)} (hg : ∀ q ∈ g, N q.1) : ∀ f, NodeR r N l (nodeM l g f) (nodeM (l.map (rnd r)) (rnSc r g) f) f
 | 0, S, b, k, h, hD, hk, ho => by have := (D_le _ _ _ hD).1; omega
 | f + 1, S, b, k, h, hD, hk, ho => by
  have hle := D_le _ _ _ hD
  rw [List.length_drop] at hle
  have hlt : S.pc < l.length := by omega
  have ee : (rn r S).e = S.e := rfl
  have ep : (rn r S).pc = S.pc := rfl
  rw [nodeM, nodeM, ee, ep]
  by_cases he : S.e ≠ 0
  ·rw [if_pos he, if_pos he, width_rn]
   exact ⟨rfl, ho⟩
  ·have hx' : (l.map (rnd r))[S.pc]? = some (rnd r l[S.pc]) := by
    rw [List.getElem?_map, List.getElem?_eq_getElem hlt]; rfl
   rw [if_neg he, if_neg he, hx', List.getElem?_eq_getElem hlt]
   simp only [rnd_kind]
   by_cases h19 : l[S.pc].kind = 19
   ·rw [if_pos h19, if_pos h19]
    exact name_rn hM hl hg false ho hlt h19
   ·rw [if_neg h19, if_neg h19]
    obtain ⟨d1, d2, d3⟩ := D_kids hlt hD
    have h0 := h.go (p := S.pc + 1) (Nat.le_succ _) hlt
    exact step_rn P hlen hM hl hg (nodeI P hlen g f) (nodeR P hlen hM hl hg f) (S := { S with pc := S.pc + 1 }) (k := k - 1) hlt h0 rfl (by simp only; have := h.nfr; omega) d3 (by omega) ho
theorem start_rn (l : List Nd) : rn r (start l) = start (l.map (rnd r)) := by
 unfold rn start
 simp only [List.length_map]
 rfl
end
end Go.Proofs.YtihokakelnfdgaaDoor

namespace Go.Proofs.YtihokakelnfdgaaDoor
open Go Go.Ev
set_option linter.unusedVariables false
set_option linter.unusedSimpArgs false

/-! Globals are no primitives. -/
structure Pm (S S' : MS) : Prop where
 e : S.e ≠ 0 → S'.e ≠ 0
 g : S'.e = 0 → ∀ s ∈ S'.globals, s ∈ S.globals ∨ (primI s = none ∧ s.length ≤ 140737488351232)
theorem Pm.trans {S S1 S2 : MS} (h : Pm S S1) (k : Pm S1 S2) : Pm S S2 where
 e := fun he => k.e (h.e he)
 g := fun he s hs => by
  have h1 : S1.e = 0 := Decidable.byContradiction fun hh => k.e hh he
  exact (k.g he s hs).elim (h.g h1 s) .inr
theorem Pm.same {S S' : MS} (he : S'.e = S.e) (hg : S'.globals = S.globals) : Pm S S' := ⟨fun h => by rw [he]; exact h, fun _ s hs => .inl (hg ▸ hs)⟩
theorem Pm.failIf (S : MS) (b : Bool) (e : Nat) (p : Int) (he : e ≠ 0) : Pm S (S.failIf b e p) :=
 ⟨failIf_e S b e p he, fun _ s hs => .inl ((failIf_rest S b e p).2.2.1 ▸ hs)⟩
theorem Pm.declare (S : MS) (s : Bs) (at_ : Nat) (pos : Int) : Pm S (S.declare s at_ pos) :=
 (((Pm.failIf S (primI s).isSome 8 pos (by decide)).trans (Pm.failIf _ (look s (headSc S.topScopes)).isSome 80 pos (by decide))).trans (Pm.failIf _ (decide (slotsOf S.funs S.topFn = 256)) 3 pos (by decide))).trans (Pm.same (S' := S.declare s at_ pos) rfl rfl)
theorem Pm.global (g : List (Bs × Nat)) (S : MS) (s : Bs) (at_ : Nat) (pos : Int) (hs : s.length ≤ 140737488351232) : Pm S (MS.global g S s at_ pos) := by
 have h1 := Pm.failIf S (primI s).isSome 8 pos (by decide)
 have h2 := (Pm.failIf (S.failIf (primI s).isSome 8 pos) (globC g s at_) 80 pos (by decide)).trans (Pm.failIf _ (decide (S.globals.length = 1024)) 3 pos (by decide))
 generalize hS3 : ((S.failIf (primI s).isSome 8 pos).failIf (globC g s at_) 80 pos).failIf (decide (S.globals.length = 1024)) 3 pos = S3 at h2
 have e0 : MS.global g S s at_ pos = { S3 with uses := S3.uses.set at_ (4, S.globals.length), globals := S3.globals ++ [s] } := by rw [← hS3]; rfl
 have h12 := h1.trans h2
 rw [e0]
 refine ⟨h12.e, fun he t ht => ?_⟩
 rcases List.mem_append.1 ht with ht | ht
 ·exact h12.g he t ht
 ·obtain rfl := List.mem_singleton.1 ht
  have h1e : (S.failIf (primI t).isSome 8 pos).e = 0 := Decidable.byContradiction fun hh => h2.e hh he
  unfold MS.failIf MS.fail at h1e
  cases hp : primI t with
  | none => exact .inr ⟨rfl, hs⟩
  | some i =>
   rw [hp] at h1e
   by_cases h0 : S.e = 0
   ·simp [h0] at h1e
   ·simp [h0] at h1e
theorem Pm.top (S : MS) (g : Fr → Fr) : Pm S (S.top g) := Pm.same rfl rfl
theorem Pm.open_ (S : MS) (p : Nat) (x : Nd) : Pm S (S.open_ p x) := (Pm.failIf S (decide (S.funs.length = 1024)) 3 x.pos (by decide)).trans (Pm.same (S' := S.open_ p x) rfl rfl)
theorem Pm.name {l : List Nd} (g : List (Bs × Nat)) (set : Bool) (S : MS) (hp : S.pc < l.length) : Pm S (MS.name l g set S) := by
 rw [MS.name_find g set (List.getElem?_eq_getElem hp)]
 generalize l[S.pc] = x
 simp only
 have h0 : Pm S (({ S with pc := S.pc + 1 } : MS).failIf ((primI x.text).isSome && set) 8 x.pos) := (Pm.same (S := S) (S' := { S with pc := S.pc + 1 }) rfl rfl).trans (Pm.failIf { S with pc := S.pc + 1 } _ 8 x.pos (by decide))
 generalize ({ S with pc := S.pc + 1 } : MS).failIf ((primI x.text).isSome && set) 8 x.pos = S1 at h0
 cases hf : findFr x.text S1.frames with
 | some q =>
  obtain ⟨d, out⟩ := q
  cases out with
  | zero => exact h0.trans (Pm.same rfl rfl)
  | succ out =>
   simp only
   generalize hS2 : ({ S1 with means := (S1.means.set S.pc (some d)).set S.pc none, decls := S1.decls.modify d fun c => { c with cap := true } } : MS) = S2
   have tk := take_tk (S1.frames.length + 1) S2 d 0 x.pos
   have h2 : Pm S1 S2 := by rw [← hS2]; exact Pm.same rfl rfl
   have h3 : Pm S2 { (MS.take (S1.frames.length + 1) S2 d 0 x.pos).1 with uses := (MS.take (S1.frames.length + 1) S2 d 0 x.pos).1.uses.set S.pc (3, (MS.take (S1.frames.length + 1) S2 d 0 x.pos).2) } :=
    ⟨take_e _ S2 d 0 x.pos, fun _ s hs => .inl (tk.globals ▸ hs)⟩
   subst hS2
   exact (h0.trans h2).trans h3
 | none =>
  simp only
  cases look x.text g with
  | some at_ => exact h0.trans (Pm.same rfl rfl)
  | none => exact (h0.trans (Pm.failIf S1 (primI x.text).isNone 4 x.pos (by decide))).trans (Pm.same rfl rfl)

def NodeP (l : List Nd) (nd : MS → MS) (f : Nat) : Prop := ∀ (S : MS) (b k : Nat), Inv l b S → D (l.drop S.pc) 1 = some k → k ≤ f → Pm S (nd S)
section
variable {l : List Nd} {nd : MS → MS} {f b k : Nat} {S : MS}
theorem times_p (hN : NodeI l nd f) (hP : NodeP l nd f) : ∀ (n : Nat) (S : MS) (b k : Nat), Inv l b S → D (l.drop S.pc) n = some k → k ≤ f → Pm S (times nd n S)
 | 0, S, b, k, h, hD, hk => Pm.same rfl rfl
 | n + 1, S, b, k, h, hD, hk => by
  obtain ⟨k1, k2, e1, e2, e3, e4, e5, e6⟩ := D_next hD
  obtain ⟨i1, i2, i3⟩ := hN S b k1 h e1 (by omega)
  exact (hP S b k1 h e1 (by omega)).trans (times_p hN hP n (nd S) (b + 2 * k1) k2 i1 (by rw [i3]; exact e2) (by omega))
theorem params_p {l : List Nd} : ∀ (n : Nat) (S : MS), Pm S (MS.params l n S)
 | 0, S => Pm.same rfl rfl
 | n + 1, S => by
  rw [MS.params]
  cases l[S.pc]? with
  | none => exact Pm.same rfl rfl
  | some x =>
   simp only
   refine Pm.trans ?_ (params_p n _)
   exact (Pm.declare S x.text S.pc x.pos).trans (Pm.same rfl rfl)
theorem function_p (P : Prg l) (hN : NodeI l nd f) (hP : NodeP l nd f) {p : Nat} (hp : p < l.length) (hk : l[p].kind = 12 ∨ l[p].kind = 31) (h : Inv l b S) (hpc : S.pc = p + 1) (hfr : S.frames.length + 1 ≤ S.pc) (hD : D (l.drop (p + 1)) l[p].n.toNat = some k) (hkf : k ≤ f) :
  Pm S (S.function l nd p l[p]) := by
 obtain ⟨c1, c2, c3⟩ := cntF (P.ok _ (List.getElem_mem hp)) hk
 obtain ⟨num, hnum⟩ : ∃ n : Nat, l[p].num = n := ⟨l[p].num.toNat, by omega⟩
 have hpar := P.params hp hk
 have hpar' : ∀ i : Nat, i < num → ∃ hq : p + 1 + i < l.length, l[p + 1 + i].kind = 19 := fun i hi => hpar i (by omega)
 have hnD := names_D P.ok num (p + 1) hpar'
 rw [show l[p].n.toNat = num + 1 by omega] at hD
 obtain ⟨k1, k2, e1, e2, e3⟩ := D_add _ _ _ _ hD
 rw [hnD] at e1; cases e1
 rw [List.drop_drop] at e2
 have hle := D_le _ _ _ e2
 rw [List.length_drop] at hle
 obtain ⟨i1, i2, i3, i4, i5, i6⟩ := h.open_ hfr p l[p]
 obtain ⟨j1, j2, j3⟩ := params_inv P.ok num (S.open_ p l[p]) (b + 1) i1 (by rw [i6, hpc]; omega)
 have a := hP (MS.params l num (S.open_ p l[p])) (b + 1 + num) k2 j1 (by rw [j3, i6, hpc]; exact e2) (by omega)
 unfold MS.function
 rw [show l[p].num.toNat = num by omega]
 exact (((Pm.open_ S p l[p]).trans (params_p num _)).trans a).trans (Pm.same rfl rfl)

theorem step_p (P : Prg l) (hlen : l.length ≤ 400) (hT : ∀ x ∈ l, x.text.length ≤ 140737488351232) (g : List (Bs × Nat)) (hN : NodeI l nd f) (hP : NodeP l nd f) {p : Nat} (hp : p < l.length) (h : Inv l b S) (hpc : S.pc = p + 1) (hfr : S.frames.length + 1 ≤ S.pc) (hD : D (l.drop (p + 1)) l[p].n.toNat = some k) (hkf : k ≤ f) :
  Pm S (MS.step l g nd p l[p] S) := by
 have hok := P.ok _ (List.getElem_mem hp)
 have hokl := P.ok
 have htx := hT _ (List.getElem_mem hp)
 have hfun := fun (S1 : MS) (b : Nat) (hk : l[p].kind = 12 ∨ l[p].kind = 31) (h1 : Inv l b S1) (h2 : S1.pc = p + 1) (h3 : S1.frames.length + 1 ≤ S1.pc) => function_p (S := S1) (b := b) P hN hP hp hk h1 h2 h3 hD hkf
 generalize hx : l[p] = x at hD hok hfun htx
 rw [← hpc] at hD
 unfold MS.step
 by_cases h2 : x.kind = 2
 ·rw [if_pos h2]
  exact ((Pm.top S _).trans (times_p hN hP x.n.toNat S.enter (b + 1) k h.enter hD hkf)).trans (Pm.top _ _)
 rw [if_neg h2]
 by_cases h3 : x.kind = 3
 ·rw [if_pos h3]
  rw [cnt1 hok h3] at hD
  unfold MS.variable
  by_cases ht : isTop S = true
  ·rw [if_pos ht]
   obtain ⟨i1, i2, i3⟩ := h.global g x.text p x.pos
   exact (Pm.global g S x.text p x.pos htx).trans (hP _ _ k i1 (by rw [i3]; exact hD) hkf)
  ·rw [if_neg ht]
   obtain ⟨i1, i2, i3, i4, i5, i6⟩ := h.declare x.text p x.pos
   exact ((Pm.declare S x.text p x.pos).trans (hP _ _ k i1 (by rw [i3]; exact hD) hkf)).trans (Pm.top _ _)
 rw [if_neg h3]
 by_cases h12 : x.kind = 12
 ·rw [if_pos h12]
  by_cases ht : isTop S = true
  ·rw [if_pos ht]
   obtain ⟨i1, i2, i3⟩ := h.global g x.text p x.pos
   have hln : (MS.global g S x.text p x.pos).frames.length = S.frames.length := by rw [← frK_len, i2.fr, frK_len]
   exact (Pm.global g S x.text p x.pos htx).trans (hfun _ _ (.inl h12) i1 (i3.trans hpc) (by rw [hln, i3]; exact hfr))
  ·rw [if_neg ht]
   obtain ⟨i1, i2, i3, i4, i5, i6⟩ := h.declare x.text p x.pos
   obtain ⟨j1, j2, j3⟩ := i1.bind x.text (d := S.decls.length) i5 (by rw [i6]; exact (topFn_frK i2.fr).1.symm)
   have hln : ((S.declare x.text p x.pos).bind x.text S.decls.length).frames.length = S.frames.length := by rw [← frK_len, j2.fr, i2.fr, frK_len]
   have ht2 : Pm (S.declare x.text p x.pos) ((S.declare x.text p x.pos).bind x.text S.decls.length) := Pm.same rfl rfl
   exact ((Pm.declare S x.text p x.pos).trans ht2).trans (hfun _ _ (.inl h12) j1 (j3.trans (i3.trans hpc)) (by rw [hln, j3, i3]; exact hfr))
 rw [if_neg h12]
 by_cases h31 : x.kind = 31
 ·rw [if_pos h31]
  exact hfun _ _ (.inr h31) h hpc hfr
 rw [if_neg h31]
 by_cases h4 : x.kind = 4
 ·rw [if_pos h4]
  rw [cnt2 hok (.inl h4)] at hD
  have hD2 : D (l.drop S.pc) 2 = some k := hD
  obtain ⟨k1, k2, e1, e2, e3, e4, e5, e6⟩ := D_next hD2
  rw [List.getElem?_eq_getElem e5]
  simp only
  by_cases hy : l[S.pc].kind = 19
  ·rw [if_pos hy]
   have hw := name_width e5 (hokl _ (List.getElem_mem e5)) hy
   rw [hw] at e1; cases e1
   obtain ⟨i1, i2, i3⟩ := h.name hlen g true e5
   exact (Pm.name g true S e5).trans (hP _ _ k2 i1 (by rw [i3]; exact e2) (by omega))
  ·rw [if_neg hy]
   exact times_p hN hP 2 S b k h hD2 hkf
 rw [if_neg h4]
 by_cases h11 : x.kind = 11
 ·rw [if_pos h11]
  rw [cnt2 hok (.inr (.inr h11))] at hD
  have hD2 : D (l.drop S.pc) 2 = some k := hD
  obtain ⟨k1, k2, e1, e2, e3, e4, e5, e6⟩ := D_next hD2
  unfold MS.try_
  obtain ⟨i1, i2, i3, i4, i5, i6⟩ := h.enter.declare x.text p x.pos
  obtain ⟨r1, r2, r3⟩ := hN _ _ k1 i1 (by rw [i3]; exact e1) (by omega)
  have hd := r2.declFn i5
  obtain ⟨j1, j2, j3⟩ := r1.bind x.text (d := S.enter.decls.length) hd.2 (by rw [hd.1, i6]; exact (topFn_frK (i2.trans r2).fr).1.symm)
  have w1 := hP _ _ k1 i1 (by rw [i3]; exact e1) (by omega)
  have w2 := hP _ _ k2 j1 (by rw [j3, r3, i3]; exact e2) (by omega)
  exact (((((Pm.top S _).trans (Pm.declare S.enter x.text p x.pos)).trans w1).trans (Pm.top _ _)).trans w2).trans (Pm.top _ _)
 rw [if_neg h11]
 unfold MS.plain
 by_cases h6 : x.kind = 6
 ·rw [if_pos h6]
  rw [cnt2 hok (.inr (.inl h6))] at hD
  have hD2 : D (l.drop S.pc) 2 = some k := hD
  obtain ⟨k1, k2, e1, e2, e3, e4, e5, e6⟩ := D_next hD2
  obtain ⟨r1, r2, r3⟩ := hN _ _ k1 h e1 (by omega)
  have j1 := r1.loop (· + 1) (b' := b + 2 * k1 + 1) (Nat.le_succ _) (fun n hn => by show n + 1 ≤ _; omega)
  have w1 := hP _ _ k1 h e1 (by omega)
  have w2 := hP ((nd S).loop (· + 1)) _ k2 j1 (by show D (l.drop (nd S).pc) 1 = _; rw [r3]; exact e2) (by omega)
  exact ((w1.trans (Pm.top _ _)).trans w2).trans (Pm.top _ _)
 ·rw [if_neg h6]
  simp only
  have key : ∀ (S1 : MS), Inv l b S1 → Pm S S1 → S1.pc = S.pc → Pm S (times nd x.n.toNat S1) := by
   intro S1 i1 i2 i3
   exact i2.trans (times_p hN hP x.n.toNat S1 b k i1 (by rw [i3]; exact hD) hkf)
  split
  ·exact key _ (h.failIf _ _ _) (Pm.failIf S _ _ _ (by decide)) (failIf_rest S _ _ _).2.2.2.2.2.2
  ·split
   ·exact key _ (h.failIf _ _ _) (Pm.failIf S _ _ _ (by decide)) (failIf_rest S _ _ _).2.2.2.2.2.2
   ·exact key _ h (Pm.same rfl rfl) rfl
theorem nodeP (P : Prg l) (hlen : l.length ≤ 400) (hT : ∀ x ∈ l, x.text.length ≤ 140737488351232) (g : List (Bs × Nat)) : ∀ f, NodeP l (nodeM l g f) f
 | 0, S, b, k, h, hD, hk => by have := (D_le _ _ _ hD).1; omega
 | f + 1, S, b, k, h, hD, hk => by
  have hle := D_le _ _ _ hD
  rw [List.length_drop] at hle
  have hlt : S.pc < l.length := by omega
  rw [nodeM]
  by_cases he : S.e ≠ 0
  ·rw [if_pos he]; exact Pm.same rfl rfl
  ·rw [if_neg he, List.getElem?_eq_getElem hlt]
   simp only
   by_cases h19 : l[S.pc].kind = 19
   ·rw [if_pos h19]; exact Pm.name g false S hlt
   ·rw [if_neg h19]
    obtain ⟨d1, d2, d3⟩ := D_kids hlt hD
    have h0 := h.go (p := S.pc + 1) (Nat.le_succ _) hlt
    have hz : Pm S { S with pc := S.pc + 1 } := Pm.same rfl rfl
    exact hz.trans (step_p P hlen hT g (nodeI P hlen g f) (nodeP P hlen hT g f) (S := { S with pc := S.pc + 1 }) (k := k - 1) hlt h0 rfl (by simp only; have := h.nfr; omega) d3 (by omega))

theorem startI (h0 : 0 < l.length) : Inv l 1 (start l) := { pc := h0, ne := by simp [start], nfr := by simp [start], uses := by simp [start], means := by simp [start], globals := by simp [start], nf := by simp [start], slots := by simp [start], caps := by simp [start], fr := by simp [start], refs := ⟨by simp [start], by simp [start]⟩, own := by simp [start] }
/-- WITH OTHER NAMES, Resolve tells the same. -/
theorem walked_rn {r : Bs → Bs} {N : Bs → Prop} (hM : Nm r N) (hp : okProg l = true) (hlen : l.length ≤ 400) (h0 : 0 < l.length) (hl : NmL N l) (hT : ∀ x ∈ l, x.text.length ≤ 140737488351232) :
  walked (l.map (rnd r)) = rn r (walked l) ∧ ((walked l).e = 0 → ∀ s ∈ (walked l).globals, primI s = none ∧ s.length ≤ 140737488351232) := by
 have P := okProg_prg hp
 have hall := (prog_D hp).1
 have hD1 := (D_kids (at_ := 0) h0 (by simpa using hall)).2.2
 have hx : l[0]? = some l[0] := List.getElem?_eq_getElem h0
 obtain ⟨g1, g2⟩ := hoisted_rn hM hl
 have hN := nodeI P hlen (hoisted l) l.length
 have hR := nodeR P hlen hM hl g2 l.length
 have hP := nodeP P hlen hT (hoisted l) l.length
 have hD1' : D (l.drop (start l).pc) l[0].n.toNat = some (l.length - 1) := hD1
 have hwk : walked l = times (nodeM l (hoisted l) l.length) l[0].n.toNat (start l) := by unfold walked; rw [hx]
 have hwk' : walked (l.map (rnd r)) = times (nodeM (l.map (rnd r)) (rnSc r (hoisted l)) l.length) l[0].n.toNat (rn r (start l)) := by
  unfold walked
  rw [List.getElem?_map, hx, List.length_map, g1, start_rn]
  simp only [Option.map_some, rnd_n]
 have ho : OkS N (start l) := by
  intro f hf
  have : f = ⟨0, [], 0, []⟩ := by simpa [start] using hf
  subst this
  intro sc hsc
  cases hsc
 refine ⟨?_, fun he s hs => ?_⟩
 ·rw [hwk', hwk]
  exact (times_rn hN hR l[0].n.toNat (start l) 1 (l.length - 1) (startI h0) hD1' (by omega) ho).1
 ·rw [hwk] at he hs
  exact ((times_p hN hP l[0].n.toNat (start l) 1 (l.length - 1) (startI h0) hD1' (by omega)).g he s hs).elim (fun h => by simp [start] at h) id

/-! The law's names. -/
def q9 : Bs := [95, 113, 57]
def ren (s : Bs) : Bs := if (primI s).isSome then s else s ++ q9
theorem ren_prim {s : Bs} (h : primI s = none) : ren s = s ++ q9 := by unfold ren; rw [h]; rfl
theorem ren_nm (N : Bs → Prop) (h : ∀ s, N s → primI s = none → primI (s ++ q9) = none) : Nm ren N where
 prim := fun s hs => by
  unfold ren
  cases hp : primI s with
  | none => exact h s hs hp
  | some i => exact hp
 inj := fun s t hs ht he => by
  cases hp : primI s with
  | none =>
   rw [ren_prim hp] at he
   cases hq : primI t with
   | none => rw [ren_prim hq] at he; exact List.append_cancel_right he
   | some i =>
    have e2 : ren t = t := by unfold ren; rw [hq]; rfl
    rw [e2] at he
    have := h s hs hp
    rw [he, hq] at this; cases this
  | some i =>
   have e1 : ren s = s := by unfold ren; rw [hp]; rfl
   rw [e1] at he
   cases hq : primI t with
   | none =>
    rw [ren_prim hq] at he
    have := h t ht hq
    rw [← he, hp] at this; cases this
   | some i =>
    have e2 : ren t = t := by unfold ren; rw [hq]; rfl
    rw [e2] at he; exact he
end
end Go.Proofs.YtihokakelnfdgaaDoor
